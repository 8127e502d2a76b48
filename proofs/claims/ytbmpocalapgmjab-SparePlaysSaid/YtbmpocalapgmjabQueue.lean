/- The queue of spare in memory, and its five methods. -/
import Derived.Test.YtbmpocalapgmjabKit
import Derived.Test.YtbmpocalapgmjabHeap
import Derived.BigRegion
import Derived.Deep.RegionHeld3
import Derived.Deep.AppendLies
import Derived.WalkSmall
namespace Go.Proofs.Ytbmpocalapgmjab
open Go.RowKit
set_option linter.unusedVariables false
/-- from B on nothing is held; no block of the reference turns -/
def Near (B : Nat) (w w' : World) : Prop := Below B w w' ∧ ∀ x cs, Blk w x 55 cs → Blk w' x 55 cs
section
variable {B : Nat} {a w w' : World}
theorem Near.refl (B : Nat) (w : World) : Near B w w := ⟨Below.refl _ _, fun _ _ h => h⟩
theorem Near.trans (h : Near B a w) (k : Near B w w') : Near B a w' := ⟨h.1.trans k.1, fun x cs hx => k.2 x cs (h.2 x cs hx)⟩
theorem Near.mono {C : Nat} (h : Near C a w) (hb : B ≤ C) : Near B a w := ⟨h.1.mono hb, h.2⟩
theorem Near.drew (h : Near B a w) : Near B a w.drew := ⟨h.1.drew, h.2⟩
theorem Near.alloc (h : Near B a w) (hb : B ≤ w.heap.size) (o : Obj) : Near B a (w.alloc o) := ⟨h.1.alloc hb o, fun x cs hx => (h.2 x cs hx).alloc o⟩
theorem Near.setCell {r i t : Nat} {cs : Array Value} (h : Near B a w) (hr : Blk w r t cs) (ht : t ≠ 55) (hb : B ≤ r) (u : Value) : Near B a (w.setCell ⟨r, i, none⟩ u) :=
  ⟨h.1.setCell hb u, fun x cs' hx => (h.2 x cs' hx).far (fun e => ht (by
    have := h.2 x cs' hx
    simp only at e
    subst e
    unfold Blk at hr this
    rw [hr] at this
    injection this with this
    injection this)) u⟩
theorem Near.of_below (h : Below a.heap.size a w) (hb : B ≤ a.heap.size) : Near B a w := ⟨h.mono hb, fun x cs hx => hx.below_ h⟩
theorem Near.size (h : Near B a w) : a.heap.size ≤ w.heap.size := h.1.size
end
def ivals (zs : List Int) : List Value := zs.map (Value.int .i64)
theorem ivals_len (zs : List Int) : (ivals zs).length = zs.length := by simp [ivals]
/-- the queue's block, and its row -/
def QI (w : World) (B g : Nat) (zs : List Int) : Prop :=
  ∃ A cap, Blk w g 72 #[.slice A zs.length cap] ∧ B ≤ g ∧ w.ownsRow B 3 1 (.slice A zs.length cap) zs.length (ivals zs)
theorem info3 : (Try.prog.info? 3).map (fun i => (i.zero, i.size, i.bytes)) = some (some (.int .i64 0), 1, 8) := by kernel_rfl
section
variable {w w' : World} {B g : Nat} {zs : List Int}
theorem QI.drew (h : QI w B g zs) : QI w.drew B g zs := h
theorem QI.lt (h : QI w B g zs) : g < w.heap.size := by obtain ⟨A, cap, hb, _⟩ := h; exact hb.lt
theorem QI.le (h : QI w B g zs) : B ≤ g := by obtain ⟨A, cap, hb, h2, _⟩ := h; exact h2
theorem QI.same (h : QI w B g zs) (hk : ∀ x, (∃ t cs, (t = 72 ∨ t = 3) ∧ Blk w x t cs) → w'.heap[x]? = w.heap[x]?) : QI w' B g zs := by
  obtain ⟨A, cap, hb, h2, h3, h4⟩ := h
  refine ⟨A, cap, (hk g ⟨72, _, .inl rfl, hb⟩).trans hb, h2, h3, ?_⟩
  rcases h4 with h4 | ⟨r, c, cur, a1, a2, a3, a4⟩
  · exact .inl h4
  · exact .inr ⟨r, c, cur, a1, a2, (hk r ⟨3, _, .inr rfl, a3⟩).trans a3, a4⟩
theorem QI.below (h : QI w B g zs) (hb : Below w.heap.size w w') : QI w' B g zs := h.same fun x ⟨t, cs, _, hx⟩ => hb.block x hx.lt
theorem QI.only {x : Nat} {cs : Array Value} (h : QI w B g zs) (hg : w.grownBy w' (some x)) (hx : Blk w x 55 cs) : QI w' B g zs := h.same fun y ⟨t, cs', ht, hy⟩ => hg.block y hy.lt (fun e => by
  injection e with e
  exact hy.ne_ hx (by rcases ht with rfl | rfl <;> decide) e)
/-- a queue that holds something: its row's block -/
theorem QI.row (h : QI w B g zs) (h0 : 0 < zs.length) : ∃ r cap cur, Blk w g 72 #[.slice (some ⟨r, 0, none⟩) zs.length cap] ∧ B ≤ g ∧ B ≤ r ∧ Blk w r 3 cur ∧ zs.length ≤ cap ∧ cap ≤ maxLen ∧ cur.size = cap ∧
    (∀ k, k < zs.length → cur[k]? = some (.int .i64 (el zs k))) := by
  obtain ⟨A, cap, hb, h2, h3, h4⟩ := h
  rcases h4 with ⟨_, h4⟩ | ⟨r, c, cur, a1, a2, a3, a4, a5, a6, a7⟩
  · omega
  · injection a1 with b1 b2 b3
    subst b1; subst b3
    refine ⟨r, cap, cur, hb, h2, a2, a3, a4, a5, by omega, fun k hk => ?_⟩
    have e : (cur.toList.take (zs.length * 1))[k]? = some (.int .i64 (el zs k)) := by
      rw [a7]; unfold ivals
      rw [List.getElem?_map, el_get hk]; rfl
    rw [List.getElem?_take, if_pos (by omega)] at e
    simpa using e
/-- from the row's cells back -/
theorem QI.of {r cap : Nat} {cur : Array Value} (hb : Blk w g 72 #[.slice (some ⟨r, 0, none⟩) zs.length cap]) (hg : B ≤ g) (hr : B ≤ r) (hc : Blk w r 3 cur) (h1 : zs.length ≤ cap) (h2 : cap ≤ maxLen) (h3 : cur.size = cap)
    (h4 : ∀ k, k < zs.length → cur[k]? = some (.int .i64 (el zs k))) : QI w B g zs := by
  refine ⟨_, cap, hb, hg, by simp [ivals], .inr ⟨r, cap, cur, rfl, hr, hc, h1, h2, by omega, ?_⟩⟩
  apply List.ext_getElem?
  intro k
  rw [List.getElem?_take]
  by_cases hk : k < zs.length
  · rw [if_pos (by omega)]
    unfold ivals
    rw [List.getElem?_map, el_get hk]
    simpa using h4 k hk
  · rw [if_neg (by omega)]
    symm
    apply List.getElem?_eq_none
    simp [ivals]; omega
end
theorem qlen (g : Nat) (B : Nat) (zs : List Int) (w : World) (h : QI w B g zs) :
    Calls Try.prog 55 #[.pointer (some ⟨g, 0, none⟩)] w fun e w' => e = .returned (.int .i64 zs.length) ∧ w = w' := by
  obtain ⟨A, cap, hb, _⟩ := h
  have c0 : w.cell? ⟨g, 0, none⟩ = some (.slice A zs.length cap) := hb.cell_ 0 rfl
  go_enter Try.func55, Try.ntmps55
  go_wp2
  go_ret
  exact ⟨rfl, rfl⟩
theorem qless (g i j : Nat) (B : Nat) (zs : List Int) (w : World) (h : QI w B g zs) (hi : i < zs.length) (hj : j < zs.length) :
    Calls Try.prog 56 #[.pointer (some ⟨g, 0, none⟩), .int .i64 i, .int .i64 j] w fun e w' => e = .returned (.bool (decide (el zs i < el zs j))) ∧ w' = w.drew := by
  obtain ⟨r, cap, cur, hb, _, _, hc, h1, h2, h3, h4⟩ := h.row (by omega)
  have c0 : w.cell? ⟨g, 0, none⟩ = some (.slice (some ⟨r, 0, none⟩) zs.length cap) := hb.cell_ 0 rfl
  have ci : w.cell? ⟨r, i, none⟩ = some (.int .i64 (el zs i)) := hc.cell_ i (h4 i hi)
  have cj : w.cell? ⟨r, j, none⟩ = some (.int .i64 (el zs j)) := hc.cell_ j (h4 j hj)
  have i0 : (0 : Int) ≤ (i : Int) := by omega
  have i1 : (i : Int) < (zs.length : Int) := by omega
  have j0 : (0 : Int) ≤ (j : Int) := by omega
  have j1 : (j : Int) < (zs.length : Int) := by omega
  clear h hb hc h1 h2 h3 h4
  go_enter Try.func56, Try.ntmps56
  go_wp2
  go_region
  go_wp2
  go_ret
  exact ⟨rfl, rfl⟩
theorem qpop (g : Nat) (B : Nat) (zs : List Int) (z : Int) (w : World) (h : QI w B g (zs ++ [z])) :
    Calls Try.prog 57 #[.pointer (some ⟨g, 0, none⟩)] w fun e w' => e = .returned (.iface 3 (.int .i64 z)) ∧ QI w' B g zs ∧ Near B w w' := by
  have hl : (zs ++ [z]).length = zs.length + 1 := by simp
  have hN := Near.refl B w
  obtain ⟨r, cap, cur, hb, hg, hr, hc, h1, h2, h3, h4⟩ := h.row (by omega)
  have hez : el (zs ++ [z]) zs.length = z := by
    unfold el; rw [List.getD_eq_getElem?_getD]; simp
  have he : ∀ k, k < zs.length → el (zs ++ [z]) k = el zs k := fun k hk => by
    unfold el; rw [List.getD_eq_getElem?_getD, List.getD_eq_getElem?_getD, List.getElem?_append_left hk]
  have h4' := h4 zs.length (by omega)
  rw [hez] at h4'
  rw [hl] at hb h1
  have hb2 := hb.set_to 0 (.slice (some ⟨r, 0, none⟩) zs.length cap) (cs' := #[.slice (some ⟨r, 0, none⟩) zs.length cap]) rfl
  have hq : QI (w.setCell ⟨g, 0, none⟩ (.slice (some ⟨r, 0, none⟩) zs.length cap)) B g zs :=
    QI.of hb2 hg hr (hc.far (p := ⟨g, 0, none⟩) (hc.ne_ hb (by decide)) _) (by omega) h2 h3 (fun k hk => by rw [← he k hk]; exact h4 k (by omega))
  have hN2 := hN.setCell (i := 0) hb (by decide) hg (.slice (some ⟨r, 0, none⟩) zs.length cap)
  have c0 : w.cell? ⟨g, 0, none⟩ = some (.slice (some ⟨r, 0, none⟩) (zs.length + 1) cap) := hb.cell_ 0 rfl
  have f0 := hb.frozen 0
  have l0 := hb.lt
  have cz : w.cell? ⟨r, zs.length, none⟩ = some (.int .i64 z) := hc.cell_ _ h4'
  have hm : zs.length + 1 ≤ cap := h1
  have hm2 : cap ≤ 9223372036854775807 := by unfold maxLen at h2; omega
  have HQ := Lib.hid hq; have HN := Lib.hid hN2
  clear h hb hg hr hc h1 h2 h3 h4 he hez h4' hb2 hq hN hN2 hl
  go_enter Try.func57, Try.ntmps57
  go_wp2
  go_ret
  exact ⟨rfl, HQ.out, HN.out⟩
theorem assert_int (z : Int) (W : World) : (Instr.typeAssert (.iface 3 (.int .i64 z)) 20 3 true).run Try.prog W = .ok (.tuple #[.int .i64 z, .bool true]) W := by kernel_rfl
theorem ownBlock_ne {w : World} {B g n cap : Nat} {A : Option Addr} {zs : List Value} {cs : Array Value} (ho : w.ownsRow B 3 1 (.slice A n cap) n zs) (hb : Blk w g 72 cs) : some g ≠ (Value.slice A n cap).ownBlock := by
  obtain ⟨_, h⟩ := ho
  rcases h with ⟨h, _⟩ | ⟨r, c, cur, h, _, h2, _⟩
  · rw [h]; simp [Value.ownBlock]
  · rw [h]
    simp only [Value.ownBlock]
    intro e
    injection e with e
    exact (hb.ne_ (show Blk w r 3 cur from h2) (by decide)) e
theorem near_grown {w w' : World} {B : Nat} {v : Value} {n : Nat} {zs : List Value} (ho : w.ownsRow B 3 1 v n zs) (hg : w.grownBy w' v.ownBlock) (hB : B ≤ w.heap.size) : Near B w w' := by
  refine ⟨(Below.refl B w).grown hg hB (fun k hk => (ho.lt k hk).1), fun x cs hx => hx.grown hg ?_⟩
  obtain ⟨_, h⟩ := ho
  rcases h with ⟨h, _⟩ | ⟨r, c, cur, h, _, h2, _⟩
  · rw [h]; simp [Value.ownBlock]
  · rw [h]
    simp only [Value.ownBlock]
    intro e
    injection e with e
    exact (hx.ne_ (show Blk w r 3 cur from h2) (by decide)) e
theorem qpush (g : Nat) (B : Nat) (zs : List Int) (z : Int) (w : World) (h : QI w B g zs) (hl : zs.length ≤ 100) (hB : B ≤ w.heap.size) :
    Calls Try.prog 58 #[.pointer (some ⟨g, 0, none⟩), .iface 3 (.int .i64 z)] w fun e w' => e = .returned (.tuple #[]) ∧ QI w' B g (zs ++ [z]) ∧ Near B w w' := by
  obtain ⟨A, cap, hb, hg, ho⟩ := h
  obtain ⟨i0, hi, hz0, hz1, hz2⟩ := info_parts info3
  have c0 : w.cell? ⟨g, 0, none⟩ = some (.slice A zs.length cap) := hb.cell_ 0 rfl
  have l0 := hb.lt
  have hown : (w.alloc (.cells #[.int .i64 z] 3)).ownsRow B 3 1 (.slice A zs.length cap) zs.length (ivals zs) := ho.alloc _
  have hne := ownBlock_ne hown (hb.alloc _)
  have hN := (Near.refl B w).alloc hB (.cells #[.int .i64 z] 3)
  have ha := assert_int z
  go_enter Try.func58, Try.ntmps58
  go_wp2_with (at_builtin; refine wpList_append_own _ rfl _ _ 70 rfl B 3 i0 (.int .i64 0) 1 8 Try.underlying70 hi hz0 hz1 hz2 rfl (by decide) _ _ _ rfl hown ⟨w.heap.size, 0, none⟩ 1 1 [.int .i64 z] rfl (by simp) (cell_one_new _ _ _) (fun v hv => by rw [List.mem_singleton.1 hv]; rfl) (by unfold maxLen; omega) (by omega) (by simp; omega) ?_)
  intro v' w1 hown1 hgrow _
  have hb1 : Blk w1 g 72 #[.slice A zs.length cap] := (hb.alloc _).grown hgrow hne
  have hN1 := hN.trans (near_grown hown hgrow (by simp; omega))
  have c1 : w1.cell? ⟨g, 0, none⟩ = some (.slice A zs.length cap) := hb1.cell_ 0 rfl
  have f1 := hb1.frozen 0
  have l1 := hb1.lt
  obtain ⟨g', cap', rfl⟩ : ∃ g' cap', v' = .slice (some ⟨g', 0, none⟩) (zs.length + 1) cap' := by
    rcases hown1.2 with ⟨_, h0⟩ | ⟨g', cap', cur, hv, _⟩
    · omega
    · exact ⟨g', cap', hv⟩
  have hb2 := hb1.set_to 0 (.slice (some ⟨g', 0, none⟩) (zs.length + 1) cap') (cs' := #[.slice (some ⟨g', 0, none⟩) (zs.length + 1) cap']) rfl
  have hN2 := hN1.setCell (i := 0) hb1 (by decide) hg (.slice (some ⟨g', 0, none⟩) (zs.length + 1) cap')
  have hq : QI (w1.setCell ⟨g, 0, none⟩ (.slice (some ⟨g', 0, none⟩) (zs.length + 1) cap')) B g (zs ++ [z]) := by
    refine ⟨some ⟨g', 0, none⟩, cap', by simpa using hb2, hg, ?_⟩
    obtain ⟨h1, h2⟩ := hown1
    rw [List.length_append, List.length_singleton]
    refine ⟨by simp [ivals], ?_⟩
    rcases h2 with ⟨_, h0⟩ | ⟨r, c, cur, a1, a2, a3, a4⟩
    · omega
    · refine .inr ⟨r, c, cur, a1, a2, ((show Blk w1 r 3 cur from a3).far (p := ⟨g, 0, none⟩) ((show Blk w1 r 3 cur from a3).ne_ hb1 (by decide)) _), ?_⟩
      simpa [ivals] using a4
  have HQ := Lib.hid hq; have HN := Lib.hid hN2
  clear hown hne hN hown1 hgrow hb1 hN1 hb2 hN2 hq hb hg ho c0 l0 hi hz0 hz1 hz2
  go_wp2_with fail
  go_end0
  exact ⟨rfl, HQ.out, HN.out⟩
theorem qswap (g i j : Nat) (B : Nat) (zs : List Int) (w : World) (h : QI w B g zs) (hi : i < zs.length) (hj : j < zs.length) :
    Calls Try.prog 59 #[.pointer (some ⟨g, 0, none⟩), .int .i64 i, .int .i64 j] w fun e w' => e = .returned (.tuple #[]) ∧ QI w' B g (swp zs i j) ∧ Near B w w' := by
  have hN := Near.refl B w
  obtain ⟨r, cap, cur, hb, hg, hr, hc, h1, h2, h3, h4⟩ := h.row (by omega)
  have c0 : w.cell? ⟨g, 0, none⟩ = some (.slice (some ⟨r, 0, none⟩) zs.length cap) := hb.cell_ 0 rfl
  have ci : w.cell? ⟨r, i, none⟩ = some (.int .i64 (el zs i)) := hc.cell_ i (h4 i hi)
  have cj : w.cell? ⟨r, j, none⟩ = some (.int .i64 (el zs j)) := hc.cell_ j (h4 j hj)
  have i0 : (0 : Int) ≤ (i : Int) := by omega
  have i1 : (i : Int) < (zs.length : Int) := by omega
  have j0 : (0 : Int) ≤ (j : Int) := by omega
  have j1 : (j : Int) < (zs.length : Int) := by omega
  have fi := hc.frozen i
  have fj := hc.frozen j
  have lr := hc.lt
  have d1 := hc.set_ i (.int .i64 (el zs j))
  have d2 := d1.set_ j (.int .i64 (el zs i))
  have e1 := (hb.far (p := ⟨r, i, none⟩) (hb.ne_ hc (by decide)) (.int .i64 (el zs j))).far (p := ⟨r, j, none⟩) (hb.ne_ hc (by decide)) (.int .i64 (el zs i))
  have hq : QI ((w.setCell ⟨r, i, none⟩ (.int .i64 (el zs j))).setCell ⟨r, j, none⟩ (.int .i64 (el zs i))) B g (swp zs i j) := by
    refine QI.of (by rw [swp_len]; exact e1) hg hr d2 (by rw [swp_len]; exact h1) h2 (by simp [h3]) (fun k hk => ?_)
    rw [swp_len] at hk
    rw [el_swp hi hj, Array.getElem?_setIfInBounds, Array.getElem?_setIfInBounds]
    by_cases kj : k = j
    · subst kj; simp; omega
    · rw [if_neg (Ne.symm kj), if_neg kj]
      by_cases ki : k = i
      · subst ki; simp; omega
      · rw [if_neg (Ne.symm ki), if_neg ki]; exact h4 k hk
  obtain ⟨u, hu⟩ : ∃ u, (w.setCell ⟨r, i, none⟩ (.int .i64 (el zs j))).cell? ⟨r, j, none⟩ = some u := ⟨_, (d1.cell j).trans (Array.getElem?_eq_getElem (by simp; omega))⟩
  have hN2 := (hN.setCell (i := i) hc (by decide) hr (.int .i64 (el zs j))).setCell (i := j) d1 (by decide) hr (.int .i64 (el zs i))
  have HQ := Lib.hid hq; have HN := Lib.hid hN2
  clear h hb hg hr hc h1 h2 h3 h4 d1 d2 e1 hq hN hN2
  go_enter Try.func59, Try.ntmps59
  go_wp2_with fail
  go_region
  go_wp2
  go_end0
  exact ⟨rfl, HQ.out, HN.out.drew⟩
end Go.Proofs.Ytbmpocalapgmjab
