/- The reference of age: a list, the one used longest ago first. -/
import Derived.Test.YtbmpocalapgmjacAge
import Derived.Deep.RegionLaw
namespace Go.Proofs.Ytbmpocalapgmjac
open Go.RowKit
set_option linter.unusedVariables false
section
variable {P : Program} {w : World}
/-- 'append' to a row that the call owns, at a step of a region that draws its order; what is appended may be nothing -/
theorem step_append_own {ops : Array Oper} {o : Oper} {a : Act} {K : Act → World → Prop} {Q : Exit → Act → World → Prop} {E : Prop} (hgd : o.guard = none) (s x : Operand) (t : TypeId)
    (ho : o.op = .call { callee := .builtin .append, args := #[s, x], argTypes := #[t, t] })
    (base : Nat) (e : TypeId) (i : TypeInfo) (z : Value) (size bytes : Nat) (ht : P.underlying t = some (.slice e)) (hi : P.info? e = some i) (hz : i.zero = some z)
    (hsize : i.size = size) (hby : i.bytes = bytes) (hzs : z.cells.size = size) (hsz : 0 < size)
    (v : Value) (n : Nat) (xs : List Value) (hs : a.eval s = v) (hown : w.ownsRow base e size v n xs)
    (ad : Addr) (m c : Nat) (news : List Value) (hx : a.eval x = .slice (some ad) m c) (hl : news.length = m * size) (hnews : ∀ j u, news[j]? = some u → w.cell? (ad.add j) = some u) (h1 : ∀ u ∈ news, u.oneCell' = true)
    (h63 : n + m ≤ maxLen) (hbytes : (n + m) * bytes ≤ 140737488355328) (hbase : base ≤ w.heap.size)
    (h : ∀ v' w', w'.ownsRow base e size v' (n + m) (xs ++ news) → w.grownBy w' v.ownBlock → K (a.put o.dst v') w') :
    if Region.wanted o (yielded ops a.tmps) = true then Oper.wp P o a w K Q else E := by
  have hw : Region.wanted o (yielded ops a.tmps) = true := by simp [Region.wanted, hgd]
  rw [if_pos hw]
  exact wp_append_own w s x t ho base e i z size bytes ht hi hz hsize hby hzs hsz v n xs hs hown ad m c news hx hl hnews h1 h63 hbytes hbase (fun v' w' h2 h3 _ => h v' w' h2 h3)
end
/-- the reference's block and its row -/
def RL (w : World) (B x : Nat) (L : List Int) : Prop :=
  ∃ A cap, Blk w x 28 #[.slice A L.length cap] ∧ B ≤ x ∧ w.ownsRow B 3 1 (.slice A L.length cap) L.length (ivals L)
section
variable {w w' : World} {B x : Nat} {L : List Int}
theorem RL.drew (h : RL w B x L) : RL w.drew B x L := h
theorem RL.lt (h : RL w B x L) : x < w.heap.size := by obtain ⟨A, cap, hb, _⟩ := h; exact hb.lt
theorem RL.same (h : RL w B x L) (hk : ∀ y, (y = x ∨ At w x y) → w'.heap[y]? = w.heap[y]?) : RL w' B x L := by
  obtain ⟨A, cap, hb, h2, h3, h4⟩ := h
  refine ⟨A, cap, (hk x (.inl rfl)).trans hb, h2, h3, ?_⟩
  rcases h4 with h4 | ⟨r, c, cur, a1, a2, a3, a4⟩
  · exact .inl h4
  · refine .inr ⟨r, c, cur, a1, a2, (hk r (.inr ?_)).trans a3, a4⟩
    rw [a1] at hb
    exact ⟨_, _, _, hb.cell_ 0 rfl, rfl⟩
theorem RL.rows (h : RL w B x L) : ∀ s, At w x s → B ≤ s ∧ s < w.heap.size ∧ ∃ cs, Blk w s 3 cs := by
  obtain ⟨A, cap, hb, _, _, ho⟩ := h
  rintro s ⟨A', n, c, hs, rfl⟩
  rw [hb.cell_ 0 rfl] at hs
  injection hs with hs
  injection hs with e1 e2 e3
  subst e1
  rcases ho with ⟨h1, _⟩ | ⟨r, c', cur, h1, h2, h3, _⟩
  · injection h1 with h1; cases h1
  · injection h1 with h1
    injection h1 with h1
    subst h1
    exact ⟨h2, (show Blk w r 3 cur from h3).lt, cur, h3⟩
theorem RL.row (h : RL w B x L) (h0 : 0 < L.length) : ∃ r cap, Blk w x 28 #[.slice (some ⟨r, 0, none⟩) L.length cap] ∧ B ≤ x ∧ B ≤ r ∧ r < w.heap.size ∧ r ≠ x ∧ L.length ≤ cap ∧ cap ≤ maxLen ∧ At w x r ∧
    (∀ k, k < L.length → w.cell? ⟨r, k, none⟩ = some (.int .i64 (el L k))) := by
  obtain ⟨A, cap, hb, h2, h3, h4⟩ := h
  rcases h4 with ⟨_, h4⟩ | ⟨r, c, cur, a1, a2, a3, a4, a5, a6, a7⟩
  · omega
  · injection a1 with b1 b2 b3
    subst b1; subst b3
    have hr : Blk w r 3 cur := a3
    refine ⟨r, cap, hb, h2, a2, hr.lt, hr.ne_ hb (by decide), a4, a5, ⟨_, _, _, hb.cell_ 0 rfl, rfl⟩, fun k hk => ?_⟩
    have e : (cur.toList.take (L.length * 1))[k]? = some (.int .i64 (el L k)) := by
      rw [a7]; unfold ivals
      rw [List.getElem?_map, el_get hk]; rfl
    rw [List.getElem?_take, if_pos (by omega)] at e
    exact hr.cell_ k (by simpa using e)
end
theorem rold_ok (B x : Nat) (L : List Int) (w : World) (h : RL w B x L) :
    Calls Try.prog 15 #[.pointer (some ⟨x, 0, none⟩)] w fun e w' => e = .returned (.tuple #[.int .i64 (om L), .bool (!decide (L = []))]) ∧ w = w' := by
  by_cases h0 : L = []
  · subst h0
    obtain ⟨A, cap, hb, _⟩ := h
    have c0 : w.cell? ⟨x, 0, none⟩ = some (.slice A 0 cap) := hb.cell_ 0 rfl
    have l0 := hb.lt
    clear hb
    go_enter Try.func15, Try.ntmps15
    go_wp2_with fail
    go_ret2
    exact ⟨rfl, rfl⟩
  · have hl : 0 < L.length := List.length_pos_iff.2 h0
    obtain ⟨r, cap, hb, _, _, lr, _, _, _, _, hc⟩ := h.row hl
    have c0 : w.cell? ⟨x, 0, none⟩ = some (.slice (some ⟨r, 0, none⟩) L.length cap) := hb.cell_ 0 rfl
    have l0 := hb.lt
    have c1 := hc 0 hl
    have hz : ((L.length : Int) == 0) = false := by simp; omega
    have hpos : (0 : Int) < (L.length : Int) := by omega
    have e1 : (!decide (L = [])) = true := by simpa using h0
    have e2 : om L = el L 0 := by unfold om; rw [if_neg h0]
    rw [e1, e2]
    clear hb hc h0 e1 e2 h
    go_enter Try.func15, Try.ntmps15
    go_wp2_with fail
    go_ret2
    exact ⟨rfl, rfl⟩
theorem owns_form {w : World} {base e size n : Nat} {v : Value} {xs : List Value} (h : w.ownsRow base e size v n xs) : ∃ A c, v = .slice A n c := by
  rcases h.2 with ⟨rfl, rfl⟩ | ⟨g, cap, cur, rfl, _⟩
  · exact ⟨none, 0, rfl⟩
  · exact ⟨_, cap, rfl⟩
theorem owns_base {w : World} {base B e size n : Nat} {v : Value} {xs : List Value} (h : w.ownsRow base e size v n xs) (hB : B ≤ base) : w.ownsRow B e size v n xs := by
  obtain ⟨h1, h2⟩ := h
  refine ⟨h1, ?_⟩
  rcases h2 with h2 | ⟨g, cap, cur, a, b, c⟩
  · exact .inl h2
  · exact .inr ⟨g, cap, cur, a, by omega, c⟩
theorem rdrop_fin {w w1 w2 : World} {x B m m1 cap2 : Nat} {A2 : Option Addr} {v1 : Value} {cs0 : Array Value} {xs1 : List Value} {L' : List Int} (hb : Blk w x 28 cs0 ∧ cs0.size = 1)
    (hown1 : w1.ownsRow w.heap.size 3 1 v1 m1 xs1) (hgrow1 : (w.alloc (.cells #[] 3)).drew.grownBy w1 (Value.slice (some ⟨w.heap.size, 0, none⟩) 0 0).ownBlock) (hgrow2 : w1.grownBy w2 v1.ownBlock)
    (hown2 : w2.ownsRow w.heap.size 3 1 (.slice A2 m cap2) m (ivals L')) (hL' : L'.length = m) (hB : B ≤ w.heap.size) (hx : B ≤ x) :
    RL (w2.setCell ⟨x, 0, none⟩ (.slice A2 m cap2)) B x L' ∧ Fr x x w (w2.setCell ⟨x, 0, none⟩ (.slice A2 m cap2)) := by
  obtain ⟨hb, hs⟩ := hb
  have lx := hb.lt
  have hb0 : Blk (w.alloc (.cells #[] 3)).drew x 28 cs0 := hb.alloc _
  have hb1 : Blk w1 x 28 cs0 := hb0.grown hgrow1 (by simp [Value.ownBlock]; omega)
  have hb2 : Blk w2 x 28 cs0 := hb1.grown hgrow2 (fun e => by have := (hown1.lt x e.symm).1; omega)
  have hset := hb2.set_ 0 (.slice A2 m cap2)
  have hone : cs0.setIfInBounds 0 (.slice A2 m cap2) = #[.slice A2 m cap2] := by
    apply Array.ext
    · simp [hs]
    · intro i h1 h2
      simp at h2
      subst h2
      simp
  rw [hone] at hset
  have hold : ∀ b, b < w.heap.size → b ≠ x → (w2.setCell ⟨x, 0, none⟩ (.slice A2 m cap2)).heap[b]? = w.heap[b]? := fun b hbl hne => by
    refine (Below.heap_setCell w2 _ _ b hne).trans ((hgrow2.block b (Nat.lt_of_lt_of_le (by simp; omega) hgrow1.size) (fun e => by have := (hown1.lt b e.symm).1; omega)).trans ((hgrow1.block b (by simp; omega) (by simp [Value.ownBlock]; omega)).trans ?_))
    exact Below.heap_alloc w _ b hbl
  have hz1 := hgrow1.size
  have hz2 := hgrow2.size
  simp at hz1
  subst hL'
  refine ⟨⟨A2, cap2, hset, hx, owns_base ?_ hB⟩, ?_, fun b hbl h1 _ _ => hold b hbl h1, fun s ⟨A, n, c, hs', e⟩ => .inr ?_⟩
  · obtain ⟨h1, h2⟩ := hown2
    refine ⟨h1, ?_⟩
    rcases h2 with h2 | ⟨g, c, cur, a1, a2, a3, a4⟩
    · exact .inl h2
    · exact .inr ⟨g, c, cur, a1, a2, ((show Blk w2 g 3 cur from a3).far (p := ⟨x, 0, none⟩) ((show Blk w2 g 3 cur from a3).ne_ hb2 (by decide)) _), a4⟩
  · have b0 : Below 0 w (w.alloc (.cells #[] 3)).drew := ((Below.refl 0 w).alloc (Nat.zero_le _) _).drew
    exact ((b0.grown hgrow1 (Nat.zero_le _) (fun _ _ => Nat.zero_le _)).grown hgrow2 (Nat.zero_le _) (fun _ _ => Nat.zero_le _)).setCell (Nat.zero_le _) _
  · rw [hset.cell_ 0 rfl] at hs'
    injection hs' with hs'
    injection hs' with e1 _ _
    subst e1
    have := hown2.lt A.block rfl
    omega
set_option maxRecDepth 100000 in
set_option maxHeartbeats 4000000 in
theorem rdrop_cut (B x i : Nat) (L : List Int) (w : World) (h : RL w B x L) (hi : i < L.length) (hB : B ≤ w.heap.size) (hl : L.length ≤ 100) (k : Int) (hk : el L i = k) (hf : ∀ j, j < i → el L j ≠ k) :
    Calls Try.prog 13 #[.pointer (some ⟨x, 0, none⟩), .int .i64 k] w fun e w' => e = .returned (.bool true) ∧ RL w' B x (L.take i ++ L.drop (i + 1)) ∧ Fr x x w w' := by
  obtain ⟨i0, hi0, hz0, hz1, hz2⟩ := info_parts info3
  obtain ⟨r, cap, hb, hx, hr, lr, hrx, h1, h2, h7, hc⟩ := h.row (by omega)
  have c0 : w.cell? ⟨x, 0, none⟩ = some (.slice (some ⟨r, 0, none⟩) L.length cap) := hb.cell_ 0 rfl
  have l0 := hb.lt
  have f0 := hb.frozen 0
  unfold maxLen at h2
  go_enter Try.func13, Try.ntmps13
  go_wp2_with fail
  go_loopw [5] (fun iv wr => ∃ j : Nat, iv = .int .i64 j ∧ w = wr ∧ j ≤ i) (fun iv _ => i - (intOf iv).toNat)
  case atStart => exact ⟨0, rfl, rfl, by omega⟩
  case round =>
    obtain ⟨j, rfl, rfl, hj⟩ := hrel
    have j0 : (0 : Int) ≤ (j : Int) := by omega
    have j1 : (j : Int) < (L.length : Int) := by omega
    have cj := hc j (by omega)
    by_cases hji : j < i
    · have hne : (el L j == k) = false := by simpa using hf j hji
      clear hb hc hf h hk h7
      go_wp2_with fail
      go_roundw
      case rel => exact ⟨j + 1, by go_num, trivial, by omega⟩
      case measure => simp [intOf]; omega
    · obtain rfl : j = i := by omega
      have hne : (el L j == k) = true := by simpa using hk
      have j2 : (j : Int) ≤ (L.length : Int) := by omega
      have j3 : (j : Int) ≤ (cap : Int) := by omega
      obtain ⟨J, hJ⟩ : ∃ J, J = j + 1 := ⟨_, rfl⟩
      have hw : IntKind.i64.wrap ((j : Int) + 1) = (J : Int) := by
        rw [show (j : Int) + 1 = (J : Int) by omega]
        rw [IntKind.wrap_i64]; omega
      have j4 : (0 : Int) ≤ (J : Int) := by omega
      have j5 : (J : Int) ≤ (L.length : Int) := by omega
      have j6 : (L.length : Int) ≤ (cap : Int) := by omega
      have j7 : (J : Int) ≤ (cap : Int) := by omega
      have HJ := Lib.hid hJ
      clear hJ
      have hown0 : (w.alloc (.cells #[] 3)).drew.ownsRow w.heap.size 3 1 (.slice (some ⟨w.heap.size, 0, none⟩) 0 0) 0 [] := World.ownsRow_lit w #[] 0 (Nat.le_refl _) (by unfold maxLen; omega) rfl
      have a1c : (w.alloc (.cells #[] 3)).drew.cell? ⟨x, 0, none⟩ = some (.slice (some ⟨r, 0, none⟩) L.length cap) := (hb.alloc _).cell_ 0 rfl
      have a1f : (w.alloc (.cells #[] 3)).drew.frozen? ⟨x, 0, none⟩ = false := (hb.alloc _).frozen 0
      have lx1 : x < (w.alloc (.cells #[] 3)).drew.heap.size := by simp; omega
      have hx1 : some x ≠ (Value.slice (some ⟨w.heap.size, 0, none⟩) 0 0).ownBlock := by simp [Value.ownBlock]; omega
      have len1 : ((ivals L).take j).length = j * 1 := by simp [ivals]; omega
      have len2 : ((ivals L).drop J).length = (L.length - J) * 1 := by simp [ivals]
      have one1 : ∀ u ∈ (ivals L).take j, u.oneCell' = true := fun u hu => by
        have := List.mem_of_mem_take hu
        unfold ivals at this
        rw [List.mem_map] at this
        obtain ⟨z, _, rfl⟩ := this
        rfl
      have one2 : ∀ u ∈ (ivals L).drop J, u.oneCell' = true := fun u hu => by
        have := List.mem_of_mem_drop hu
        unfold ivals at this
        rw [List.mem_map] at this
        obtain ⟨z, _, rfl⟩ := this
        rfl
      have hadd : ∀ o a : Nat, (⟨r, o, none⟩ : Addr).add a = ⟨r, o + a, none⟩ := fun o a => by unfold Addr.add; split <;> simp_all
      have hcell : ∀ a, a < L.length → (w.alloc (.cells #[] 3)).drew.cell? ⟨r, a, none⟩ = some (.int .i64 (el L a)) := fun a ha => by
        show (w.alloc (.cells #[] 3)).cell? ⟨r, a, none⟩ = _
        rw [World.cell?_alloc_lt _ _ _ (by simpa using lr)]
        exact hc a ha
      have news1 : ∀ a b, ((ivals L).take j)[a]? = some b → (w.alloc (.cells #[] 3)).drew.cell? ((⟨r, 0, none⟩ : Addr).add a) = some b := fun a b hab => by
        have ha : a < j := by
          have := (List.getElem?_eq_some_iff.1 hab).1
          rw [len1] at this; omega
        rw [hadd, Nat.zero_add, hcell a (by omega)]
        rw [List.getElem?_take, if_pos ha] at hab
        unfold ivals at hab
        rw [List.getElem?_map, el_get (by omega)] at hab
        exact hab
      obtain ⟨o2, hif, ho2⟩ : ∃ o2 : Nat, (if cap = J then some (⟨r, 0, none⟩ : Addr) else some ⟨r, J, none⟩) = some ⟨r, o2, none⟩ ∧ (cap ≠ J → o2 = J) := by
        by_cases e : cap = J
        · exact ⟨0, by rw [if_pos e], fun h => absurd e h⟩
        · exact ⟨J, by rw [if_neg e], fun _ => rfl⟩
      have news2 : ∀ a b, ((ivals L).drop J)[a]? = some b → (w.alloc (.cells #[] 3)).drew.cell? ((⟨r, o2, none⟩ : Addr).add a) = some b := fun a b hab => by
        have ha : a < L.length - J := by
          have := (List.getElem?_eq_some_iff.1 hab).1
          rw [len2] at this; omega
        rw [ho2 (by omega), hadd, hcell (J + a) (by omega)]
        rw [List.getElem?_drop] at hab
        unfold ivals at hab
        rw [List.getElem?_map, el_get (by omega)] at hab
        exact hab
      have hr1 : ∀ a, some ((⟨r, o2, none⟩ : Addr).add a).block ≠ (Value.slice (some ⟨w.heap.size, 0, none⟩) 0 0).ownBlock := fun a => by
        rw [hadd]; simp [Value.ownBlock]; omega
      have HB := Lib.hid (And.intro hb h7)
      clear hb hf h hk hc hcell hadd h7 ho2
      go_wp2_with fail
      go_region_law
        (first | (refine step_append_own (by rfl) _ _ _ (by rfl) w.heap.size 3 i0 _ 1 8 Try.underlying26 hi0 hz0 hz1 hz2 rfl (by omega) v1 (0 + j) ([] ++ (ivals L).take j) (by rfl) hown1 ⟨r, o2, none⟩ (L.length - J) (cap - J) ((ivals L).drop J) (by first | rfl | exact congrArg (fun A => Value.slice A (L.length - J) (cap - J)) hif) len2 (fun a b hab => hgrow1.cell (news2 a b hab) (hr1 a)) one2 (by unfold maxLen; omega) (by omega) (Nat.le_trans (by simp) hgrow1.size) ?_; intro v2 w2 hown2 hgrow2; obtain ⟨A2, cap2, rfl⟩ := owns_form hown2; have c2 := hgrow2.cell (hgrow1.cell a1c hx1) hx2; have f2 := (hgrow2.frozen_far _ lx2 hx2).trans ((hgrow1.frozen_far _ lx1 hx1).trans a1f)) | (refine step_append_own (by rfl) _ _ _ (by rfl) w.heap.size 3 i0 _ 1 8 Try.underlying26 hi0 hz0 hz1 hz2 rfl (by omega) (.slice (some ⟨w.heap.size, 0, none⟩) 0 0) 0 [] (by rfl) hown0 ⟨r, 0, none⟩ j _ ((ivals L).take j) (by rfl) len1 news1 one1 (by unfold maxLen; omega) (by omega) (by simp) ?_; intro v1 w1 hown1 hgrow1; have lx2 := Nat.lt_of_lt_of_le lx1 hgrow1.size; have hx2 : some x ≠ v1.ownBlock := (fun e => by have := (hown1.lt x e.symm).1; omega); have c1 := hgrow1.cell a1c hx1))
      all_goals
        rw [Nat.zero_add] at hown2
        have hL : ([] ++ (ivals L).take j ++ (ivals L).drop J) = ivals (L.take j ++ L.drop (j + 1)) := by rw [← HJ.out]; simp [ivals]
        rw [hL] at hown2
        have HD := Lib.hid (rdrop_fin ⟨HB.out.1, rfl⟩ hown1 hgrow1 hgrow2 hown2 (by have := HJ.out; simp; omega) hB hx)
        clear hown1 hgrow1 hgrow2 hown2 c2 f2 c1 hx2 lx2 hL
        go_wp2_with fail
        go_ret
        exact ⟨rfl, HD.out.1, HD.out.2⟩
theorem rdrop_no (B x : Nat) (L : List Int) (w : World) (h : RL w B x L) (hl : L.length ≤ 100) (k : Int) (hk : k ∉ L) :
    Calls Try.prog 13 #[.pointer (some ⟨x, 0, none⟩), .int .i64 k] w fun e w' => e = .returned (.bool false) ∧ w = w' := by
  have h' := h
  obtain ⟨A, cap, hb, _⟩ := h'
  have c0 : w.cell? ⟨x, 0, none⟩ = some (.slice A L.length cap) := hb.cell_ 0 rfl
  have l0 := hb.lt
  clear hb
  go_enter Try.func13, Try.ntmps13
  go_wp2_with fail
  go_loopw [5] (fun iv wr => ∃ j : Nat, iv = .int .i64 j ∧ w = wr ∧ j ≤ L.length) (fun iv _ => L.length - (intOf iv).toNat)
  case atStart => exact ⟨0, rfl, rfl, by omega⟩
  case round =>
    obtain ⟨j, rfl, rfl, hj⟩ := hrel
    by_cases hji : j < L.length
    · obtain ⟨r, cap', hb, _, _, lr, _, _, _, _, hc⟩ := h.row (by omega)
      have c0' : w.cell? ⟨x, 0, none⟩ = some (.slice (some ⟨r, 0, none⟩) L.length cap') := hb.cell_ 0 rfl
      have cj := hc j hji
      have j0 : (0 : Int) ≤ (j : Int) := by omega
      have j1 : (j : Int) < (L.length : Int) := by omega
      have hne : (el L j == k) = false := by
        simp only [beq_eq_false_iff_ne, ne_eq]
        exact fun e => hk (e ▸ el_mem hji)
      clear hb hc h hk c0
      go_wp2_with fail
      go_roundw
      case rel => exact ⟨j + 1, by go_num, trivial, by omega⟩
      case measure => simp [intOf]; omega
    · obtain rfl : j = L.length := by omega
      have hd : decide ((L.length : Int) < (L.length : Int)) = false := by simp
      clear h hk
      go_wp2_with fail
      go_ret
      exact ⟨rfl, rfl⟩
theorem dl_cut {L : List Int} (hn : L.Nodup) {i : Nat} (hi : i < L.length) {k : Int} (hk : el L i = k) : dl k L = L.take i ++ L.drop (i + 1) ∧ ∀ j, j < i → el L j ≠ k := by
  have hp := List.pairwise_iff_getElem.1 hn
  have h1 : ∀ j, j < i → el L j ≠ k := fun j hj e => by
    have := hp j i (by omega) hi hj
    rw [el_at (by omega), el_at hi] at this
    exact this (e.trans hk.symm)
  have h2 : ∀ j, i < j → j < L.length → el L j ≠ k := fun j hj hl e => by
    have := hp i j hi hl hj
    rw [el_at hl, el_at hi] at this
    exact this (hk.trans e.symm)
  refine ⟨?_, h1⟩
  have hL : L = L.take i ++ (k :: L.drop (i + 1)) := by
    have := List.drop_eq_getElem_cons hi
    rw [el_at hi, hk] at this
    rw [← this, List.take_append_drop]
  have e1 : dl k (L.take i) = L.take i := dl_not fun c => by
    obtain ⟨j, hj, he⟩ := List.getElem_of_mem c
    rw [List.length_take] at hj
    rw [List.getElem_take, el_at (by omega)] at he
    exact h1 j (by omega) he
  have e2 : dl k (L.drop (i + 1)) = L.drop (i + 1) := dl_not fun c => by
    obtain ⟨j, hj, he⟩ := List.getElem_of_mem c
    rw [List.length_drop] at hj
    rw [List.getElem_drop, el_at (by omega)] at he
    exact h2 _ (by omega) (by omega) he
  have e3 : dl k (L.take i ++ (k :: L.drop (i + 1))) = dl k (L.take i) ++ dl k (L.drop (i + 1)) := by
    unfold dl
    rw [List.filter_append]
    simp
  rw [← hL, e1, e2] at e3
  exact e3
theorem rdrop_ok (B x : Nat) (L : List Int) (k : Int) (w : World) (h : RL w B x L) (hn : L.Nodup) (hB : B ≤ w.heap.size) (hl : L.length ≤ 100) :
    Calls Try.prog 13 #[.pointer (some ⟨x, 0, none⟩), .int .i64 k] w fun e w' => e = .returned (.bool (decide (k ∈ L))) ∧ RL w' B x (dl k L) ∧ Fr x x w w' := by
  by_cases hk : k ∈ L
  · obtain ⟨i, hi, he⟩ := mem_el hk
    obtain ⟨e1, e2⟩ := dl_cut hn hi he
    rw [e1, decide_eq_true hk]
    exact rdrop_cut B x i L w h hi hB hl k he e2
  · rw [dl_not hk, decide_eq_false hk]
    refine (rdrop_no B x L w h hl k hk).mono ?_
    rintro e w' ⟨rfl, rfl⟩
    exact ⟨rfl, h, Fr.refl _ _ _⟩
end Go.Proofs.Ytbmpocalapgmjac
