/- The queue of age in memory, and its five methods. -/
import Derived.Test.YtbmpocalapgmjacKit
import Derived.Test.YtbmpocalapgmjacHeap
import Derived.BigRegion
import Derived.Deep.RegionHeld3
import Derived.Deep.RegionWith
import Derived.Deep.AppendLies
import Derived.WalkSmall
namespace Go.Proofs.Ytbmpocalapgmjac
open Go.RowKit
set_option linter.unusedVariables false
/-- s is the row of the slice that lies at block g's head -/
def At (w : World) (g s : Nat) : Prop := ∃ A n c, w.cell? ⟨g, 0, none⟩ = some (.slice (some A) n c) ∧ A.block = s
/-- of the old blocks none turned but a, g and g's row; g's row is the old one or a new block -/
def Fr (a g : Nat) (w w' : World) : Prop :=
  Below 0 w w' ∧ (∀ b, b < w.heap.size → b ≠ a → b ≠ g → ¬ At w g b → w'.heap[b]? = w.heap[b]?) ∧ (∀ s, At w' g s → At w g s ∨ w.heap.size ≤ s)
section
variable {a g : Nat} {u w w' : World}
theorem Fr.refl (a g : Nat) (w : World) : Fr a g w w := ⟨Below.refl _ _, fun _ _ _ _ _ => rfl, fun _ h => .inl h⟩
theorem Fr.trans (h : Fr a g u w) (k : Fr a g w w') : Fr a g u w' := by
  refine ⟨h.1.trans k.1, fun b hb h1 h2 h3 => ?_, fun s hs => ?_⟩
  · have hbw := Nat.lt_of_lt_of_le hb h.1.size
    refine (k.2.1 b hbw h1 h2 fun c => ?_).trans (h.2.1 b hb h1 h2 h3)
    rcases h.2.2 b c with c | c
    · exact h3 c
    · omega
  · rcases k.2.2 s hs with c | c
    · exact h.2.2 s c
    · have := h.1.size
      exact .inr (by omega)
theorem Fr.drewN (h : Fr a g u w) (n : Nat) : Fr a g u (w.drewN n) := ⟨below_drewN h.1 n, h.2.1, h.2.2⟩
theorem Fr.drew (h : Fr a g u w) : Fr a g u w.drew := ⟨h.1.drew, h.2.1, h.2.2⟩
theorem Fr.below {B : Nat} (h : Fr a g w w') (ha : B ≤ a) (hg : B ≤ g) (hr : ∀ s, At w g s → B ≤ s) (hB : B ≤ w.heap.size) : Below B w w' :=
  ⟨h.1.os, h.1.tape, h.1.output, h.1.size, fun i hi => h.2.1 i (by omega) (by omega) (by omega) (fun c => by have := hr i c; omega)⟩
/-- a cell of g's row, or of block a -/
theorem Fr.setOld {r i t : Nat} {cs : Array Value} (hr : Blk w r t cs) (h : At w g r ∨ r = a) (hne : r ≠ g) (v : Value) : Fr a g w (w.setCell ⟨r, i, none⟩ v) := by
  refine ⟨(Below.refl 0 w).setCell (Nat.zero_le _) v, fun b hb h1 h2 h3 => Below.heap_setCell w _ v b (fun e => ?_), fun s ⟨A, n, c, hs, e⟩ => .inl ⟨A, n, c, ?_, e⟩⟩
  · simp only at e
    subst e
    rcases h with h | h
    · exact h3 h
    · exact h1 h
  · rw [World.cell?_setCell_other _ _ _ _ (fun e => hne (by injection e))] at hs
    exact hs
theorem Fr.setHead {A : Addr} {n c t : Nat} {cs : Array Value} (hg : Blk w g t cs) (h0 : 0 < cs.size) (h : At w g A.block ∨ w.heap.size ≤ A.block) : Fr a g w (w.setCell ⟨g, 0, none⟩ (.slice (some A) n c)) := by
  refine ⟨(Below.refl 0 w).setCell (Nat.zero_le _) _, fun b hb h1 h2 h3 => Below.heap_setCell w _ _ b h2, fun s ⟨A', n', c', hs, e⟩ => ?_⟩
  have := (hg.set_ 0 (.slice (some A) n c)).cell 0
  rw [hs, Array.getElem?_setIfInBounds, if_pos rfl, if_pos (by omega)] at this
  injection this with this
  injection this with this
  injection this with this
  rw [← e, this]
  exact h
end
def ivals (zs : List Int) : List Value := zs.map (Value.int .i64)
theorem ivals_len (zs : List Int) : (ivals zs).length = zs.length := by simp [ivals]
/-- an age's own block -/
def acells (lf : Nat → Int) (tk : Int) (g : Nat) : Array Value := ((List.range 16).map (fun k => Value.int .i64 (lf k)) ++ [Value.int .i64 tk, Value.pointer (some ⟨g, 0, none⟩)]).toArray
theorem acells_at (lf : Nat → Int) (tk : Int) (g : Nat) {k : Nat} (hk : k < 16) : (acells lf tk g)[k]? = some (.int .i64 (lf k)) := by
  unfold acells
  rw [List.getElem?_toArray, List.getElem?_append_left (by simpa using hk), List.getElem?_map, List.getElem?_range hk]; rfl
theorem acells_set (lf : Nat → Int) (tk : Int) (g : Nat) {k : Nat} (hk : k < 16) (v : Int) : (acells lf tk g).setIfInBounds k (.int .i64 v) = acells (fun i => if i = k then v else lf i) tk g := by
  apply Array.ext_getElem?
  intro i
  rw [Array.getElem?_setIfInBounds]
  by_cases hi : i < 16
  · rw [acells_at _ _ _ hi, acells_at _ _ _ hi]
    by_cases e : k = i
    · subst e; simp [acells]; omega
    · rw [if_neg e, if_neg (Ne.symm e)]
  · rw [if_neg (by omega)]
    unfold acells
    rw [List.getElem?_toArray, List.getElem?_toArray, List.getElem?_append_right (by simp; omega), List.getElem?_append_right (by simp; omega)]
    simp
theorem acells_tick (lf : Nat → Int) (tk : Int) (g : Nat) (v : Int) : (acells lf tk g).setIfInBounds 16 (.int .i64 v) = acells lf v g := rfl
def kf (lf : Nat → Int) (z : Int) : Int := lf z.toNat
/-- the queue's block, its row, and the age's own block -/
def QI (w : World) (B a g : Nat) (lf : Nat → Int) (tk : Int) (zs : List Int) : Prop :=
  ∃ A cap, Blk w g 60 #[.slice A zs.length cap, .func (.func 30) #[.pointer (some ⟨a, 0, none⟩)] #[]] ∧ B ≤ g ∧ w.ownsRow B 3 1 (.slice A zs.length cap) zs.length (ivals zs) ∧
    Blk w a 58 (acells lf tk g) ∧ B ≤ a ∧ ∀ z ∈ zs, 0 ≤ z ∧ z < 16
theorem info3 : (Try.prog.info? 3).map (fun i => (i.zero, i.size, i.bytes)) = some (some (.int .i64 0), 1, 8) := by kernel_rfl
section
variable {w w' : World} {B a g : Nat} {lf : Nat → Int} {tk : Int} {zs : List Int}
theorem QI.drew (h : QI w B a g lf tk zs) : QI w.drew B a g lf tk zs := h
theorem QI.drewN (h : QI w B a g lf tk zs) (n : Nat) : QI (w.drewN n) B a g lf tk zs := h
theorem QI.rows (h : QI w B a g lf tk zs) : ∀ s, At w g s → B ≤ s ∧ s < w.heap.size ∧ ∃ cs, Blk w s 3 cs := by
  obtain ⟨A, cap, hb, _, ⟨_, ho⟩, _⟩ := h
  rintro s ⟨A', n, c, hs, rfl⟩
  rw [hb.cell_ 0 rfl] at hs
  injection hs with hs
  injection hs with e1 e2 e3
  subst e1
  rcases ho with ⟨h1, _⟩ | ⟨r, c', cur, h1, h2, h3, _⟩
  · injection h1 with h1; cases h1
  · injection h1 with h1
    injection h1 with h1
    subst h1
    exact ⟨h2, (show Blk w r 3 cur from h3).lt, cur, h3⟩
theorem QI.ne (h : QI w B a g lf tk zs) : a ≠ g := by
  obtain ⟨A, cap, hb, _, _, ha, _⟩ := h
  exact ha.ne_ hb (by decide)
/-- kept by whatever keeps its blocks -/
theorem QI.same (h : QI w B a g lf tk zs) (hk : ∀ x, (x = a ∨ x = g ∨ At w g x) → w'.heap[x]? = w.heap[x]?) : QI w' B a g lf tk zs := by
  obtain ⟨A, cap, hb, h2, ⟨h3, h4⟩, ha, h5⟩ := h
  refine ⟨A, cap, (hk g (.inr (.inl rfl))).trans hb, h2, ⟨h3, ?_⟩, (hk a (.inl rfl)).trans ha, h5⟩
  rcases h4 with h4 | ⟨r, c, cur, a1, a2, a3, a4⟩
  · exact .inl h4
  · refine .inr ⟨r, c, cur, a1, a2, (hk r (.inr (.inr ?_))).trans a3, a4⟩
    rw [a1] at hb
    exact ⟨_, _, _, hb.cell_ 0 rfl, rfl⟩
/-- a queue that holds something: its row's block -/
theorem QI.row (h : QI w B a g lf tk zs) (h0 : 0 < zs.length) : ∃ r cap cur, Blk w g 60 #[.slice (some ⟨r, 0, none⟩) zs.length cap, .func (.func 30) #[.pointer (some ⟨a, 0, none⟩)] #[]] ∧ B ≤ g ∧ B ≤ r ∧ Blk w r 3 cur ∧ zs.length ≤ cap ∧ cap ≤ maxLen ∧ cur.size = cap ∧
    (∀ k, k < zs.length → cur[k]? = some (.int .i64 (el zs k))) ∧ Blk w a 58 (acells lf tk g) ∧ B ≤ a ∧ (∀ z ∈ zs, 0 ≤ z ∧ z < 16) ∧ At w g r := by
  obtain ⟨A, cap, hb, h2, ⟨h3, h4⟩, ha, h5, h6⟩ := h
  rcases h4 with ⟨_, h4⟩ | ⟨r, c, cur, a1, a2, a3, a4, a5, a6, a7⟩
  · omega
  · injection a1 with b1 b2 b3
    subst b1; subst b3
    refine ⟨r, cap, cur, hb, h2, a2, a3, a4, a5, by omega, fun k hk => ?_, ha, h5, h6, ⟨_, _, _, hb.cell_ 0 rfl, rfl⟩⟩
    have e : (cur.toList.take (zs.length * 1))[k]? = some (.int .i64 (el zs k)) := by
      rw [a7]; unfold ivals
      rw [List.getElem?_map, el_get hk]; rfl
    rw [List.getElem?_take, if_pos (by omega)] at e
    simpa using e
/-- from the row's cells back -/
theorem QI.of {r cap : Nat} {cur : Array Value} (hb : Blk w g 60 #[.slice (some ⟨r, 0, none⟩) zs.length cap, .func (.func 30) #[.pointer (some ⟨a, 0, none⟩)] #[]]) (hg : B ≤ g) (hr : B ≤ r) (hc : Blk w r 3 cur) (h1 : zs.length ≤ cap) (h2 : cap ≤ maxLen) (h3 : cur.size = cap)
    (h4 : ∀ k, k < zs.length → cur[k]? = some (.int .i64 (el zs k))) (ha : Blk w a 58 (acells lf tk g)) (h5 : B ≤ a) (h6 : ∀ z ∈ zs, 0 ≤ z ∧ z < 16) : QI w B a g lf tk zs := by
  refine ⟨_, cap, hb, hg, ⟨by simp [ivals], .inr ⟨r, cap, cur, rfl, hr, hc, h1, h2, by omega, ?_⟩⟩, ha, h5, h6⟩
  apply List.ext_getElem?
  intro k
  rw [List.getElem?_take]
  by_cases hk : k < zs.length
  · rw [if_pos (by omega)]
    unfold ivals
    rw [List.getElem?_map, el_get hk]
    simpa using h4 k hk
  · rw [if_neg (by omega)]
    symm
    apply List.getElem?_eq_none
    simp [ivals]; omega
end
theorem older_ok (a g x y : Nat) (lf : Nat → Int) (tk : Int) (w : World) (h : Blk w a 58 (acells lf tk g)) (hx : x < 16) (hy : y < 16) :
    Calls Try.prog 30 #[.pointer (some ⟨a, 0, none⟩), .int .i64 x, .int .i64 y] w fun e w' => e = .returned (.bool (decide (lf x < lf y))) ∧ w' = w.drew := by
  have cx := h.cell_ x (acells_at lf tk g hx)
  have cy := h.cell_ y (acells_at lf tk g hy)
  have l0 := h.lt
  have i0 : (0 : Int) ≤ (x : Int) := by omega
  have i1 : (x : Int) < 16 := by omega
  have j0 : (0 : Int) ≤ (y : Int) := by omega
  have j1 : (y : Int) < 16 := by omega
  clear h
  go_enter Try.func30, Try.ntmps30
  go_wp2
  go_region
  go_wp2
  go_ret
  exact ⟨rfl, rfl⟩
theorem qlen (B a g : Nat) (lf : Nat → Int) (tk : Int) (zs : List Int) (w : World) (h : QI w B a g lf tk zs) :
    Calls Try.prog 34 #[.pointer (some ⟨g, 0, none⟩)] w fun e w' => e = .returned (.int .i64 zs.length) ∧ w = w' := by
  obtain ⟨A, cap, hb, _⟩ := h
  have c0 : w.cell? ⟨g, 0, none⟩ = some (.slice A zs.length cap) := hb.cell_ 0 rfl
  have l0 := hb.lt
  go_enter Try.func34, Try.ntmps34
  go_wp2
  go_ret
  exact ⟨rfl, rfl⟩
theorem qless (i j B a g : Nat) (lf : Nat → Int) (tk : Int) (zs : List Int) (w : World) (h : QI w B a g lf tk zs) (hi : i < zs.length) (hj : j < zs.length) :
    Calls Try.prog 80 #[.pointer (some ⟨g, 0, none⟩), .int .i64 i, .int .i64 j] w fun e w' => e = .returned (.bool (decide (kf lf (el zs i) < kf lf (el zs j)))) ∧ w' = w.drew.drew := by
  obtain ⟨r, cap, cur, hb, _, _, hc, h1, h2, h3, h4, ha, _, h5, _⟩ := h.row (by omega)
  obtain ⟨a0, a1⟩ := h5 _ (el_mem hi)
  obtain ⟨b0, b1⟩ := h5 _ (el_mem hj)
  have h4i := h4 i hi
  have h4j := h4 j hj
  obtain ⟨p, hp⟩ := Int.eq_ofNat_of_zero_le a0
  obtain ⟨q, hq⟩ := Int.eq_ofNat_of_zero_le b0
  rw [hp] at a1 h4i ⊢
  rw [hq] at b1 h4j ⊢
  have hp16 : p < 16 := by omega
  have hq16 : q < 16 := by omega
  have e1 : kf lf (p : Int) = lf p := rfl
  have e2 : kf lf (q : Int) = lf q := rfl
  rw [e1, e2]
  have c0 : w.cell? ⟨g, 0, none⟩ = some (.slice (some ⟨r, 0, none⟩) zs.length cap) := hb.cell_ 0 rfl
  have c1 : w.cell? ⟨g, 1, none⟩ = some (.func (.func 30) #[.pointer (some ⟨a, 0, none⟩)] #[]) := hb.cell_ 1 rfl
  have ci : w.cell? ⟨r, i, none⟩ = some (.int .i64 (p : Int)) := hc.cell_ i h4i
  have cj : w.cell? ⟨r, j, none⟩ = some (.int .i64 (q : Int)) := hc.cell_ j h4j
  have i0 : (0 : Int) ≤ (i : Int) := by omega
  have i1 : (i : Int) < (zs.length : Int) := by omega
  have j0 : (0 : Int) ≤ (j : Int) := by omega
  have j1 : (j : Int) < (zs.length : Int) := by omega
  clear h hb hc h1 h2 h3 h4 h4i h4j h5 a0 a1 b0 b1 hp hq e1 e2
  go_enter Try.func80, Try.ntmps80
  go_wp2_with fail
  go_region_held3 (fun w' => w'.cell? ⟨g, 0, none⟩ = some (.slice (some ⟨r, 0, none⟩) zs.length cap) ∧ w'.cell? ⟨g, 1, none⟩ = some (.func (.func 30) #[.pointer (some ⟨a, 0, none⟩)] #[]) ∧ w'.cell? ⟨r, i, none⟩ = some (.int .i64 (p : Int)) ∧ w'.cell? ⟨r, j, none⟩ = some (.int .i64 (q : Int)))
    (exact ⟨c0, c1, ci, cj⟩)
    (first | (go_at_call 30; refine (older_ok a g p q lf tk _ ha.drew hp16 hq16).mono ?_; rintro e w1 ⟨rfl, rfl⟩))
  go_wp2_with fail
  go_ret
  exact ⟨rfl, rfl⟩
theorem assert_int (z : Int) (W : World) : (Instr.typeAssert (.iface 3 (.int .i64 z)) 20 3 true).run Try.prog W = .ok (.tuple #[.int .i64 z, .bool true]) W := by kernel_rfl
theorem qpop (B a g : Nat) (lf : Nat → Int) (tk : Int) (zs : List Int) (z : Int) (w : World) (h : QI w B a g lf tk (zs ++ [z])) :
    Calls Try.prog 81 #[.pointer (some ⟨g, 0, none⟩)] w fun e w' => e = .returned (.iface 3 (.int .i64 z)) ∧ QI w' B a g lf tk zs ∧ Fr a g w w' := by
  have hl : (zs ++ [z]).length = zs.length + 1 := by simp
  obtain ⟨r, cap, cur, hb, hg, hr, hc, h1, h2, h3, h4, ha, h5, h6, h7⟩ := h.row (by omega)
  have hez : el (zs ++ [z]) zs.length = z := by
    unfold el; rw [List.getD_eq_getElem?_getD]; simp
  have he : ∀ k, k < zs.length → el (zs ++ [z]) k = el zs k := fun k hk => by
    unfold el; rw [List.getD_eq_getElem?_getD, List.getD_eq_getElem?_getD, List.getElem?_append_left hk]
  have h4' := h4 zs.length (by omega)
  rw [hez] at h4'
  rw [hl] at hb h1
  have hb2 := hb.set_to 0 (.slice (some ⟨r, 0, none⟩) zs.length cap) (cs' := #[.slice (some ⟨r, 0, none⟩) zs.length cap, .func (.func 30) #[.pointer (some ⟨a, 0, none⟩)] #[]]) rfl
  have hq : QI (w.setCell ⟨g, 0, none⟩ (.slice (some ⟨r, 0, none⟩) zs.length cap)) B a g lf tk zs :=
    QI.of hb2 hg hr (hc.far (p := ⟨g, 0, none⟩) (hc.ne_ hb (by decide)) _) (by omega) h2 h3 (fun k hk => by rw [← he k hk]; exact h4 k (by omega)) (ha.far (p := ⟨g, 0, none⟩) (ha.ne_ hb (by decide)) _) h5 (fun y hy => h6 y (List.mem_append_left _ hy))
  have hN2 : Fr a g w (w.setCell ⟨g, 0, none⟩ (.slice (some ⟨r, 0, none⟩) zs.length cap)) := Fr.setHead hb (by simp) (.inl h7)
  have c0 : w.cell? ⟨g, 0, none⟩ = some (.slice (some ⟨r, 0, none⟩) (zs.length + 1) cap) := hb.cell_ 0 rfl
  have f0 := hb.frozen 0
  have l0 := hb.lt
  have cz : w.cell? ⟨r, zs.length, none⟩ = some (.int .i64 z) := hc.cell_ _ h4'
  have hm : zs.length + 1 ≤ cap := h1
  have hm2 : cap ≤ 9223372036854775807 := by unfold maxLen at h2; omega
  have HQ := Lib.hid hq; have HN := Lib.hid hN2
  clear h hb hg hr hc h1 h2 h3 h4 he hez h4' hb2 hq hN2 hl ha h5 h6 h7
  go_enter Try.func81, Try.ntmps81
  go_wp2
  go_ret
  exact ⟨rfl, HQ.out, HN.out⟩
theorem qpush (B a g : Nat) (lf : Nat → Int) (tk : Int) (zs : List Int) (z : Int) (w : World) (h : QI w B a g lf tk zs) (hl : zs.length ≤ 100) (hB : B ≤ w.heap.size) (hz : 0 ≤ z ∧ z < 16) :
    Calls Try.prog 82 #[.pointer (some ⟨g, 0, none⟩), .iface 3 (.int .i64 z)] w fun e w' => e = .returned (.tuple #[]) ∧ QI w' B a g lf tk (zs ++ [z]) ∧ Fr a g w w' := by
  have hrows := h.rows
  have hag := h.ne
  obtain ⟨A, cap, hb, hg, ho, hba, h5, h6⟩ := h
  obtain ⟨i0, hi, hz0, hz1, hz2⟩ := info_parts info3
  have c0 : w.cell? ⟨g, 0, none⟩ = some (.slice A zs.length cap) := hb.cell_ 0 rfl
  have l0 := hb.lt
  have hown : (w.alloc (.cells #[.int .i64 z] 3)).ownsRow B 3 1 (.slice A zs.length cap) zs.length (ivals zs) := ho.alloc _
  have hat : ∀ k, (Value.slice A zs.length cap).ownBlock = some k → At w g k := fun k hk => by
    cases A with
    | none => simp [Value.ownBlock] at hk
    | some x =>
      simp only [Value.ownBlock] at hk
      injection hk with hk
      exact ⟨_, _, _, c0, hk⟩
  have hneb : ∀ (y t : Nat) (cs : Array Value), Blk w y t cs → t ≠ 3 → some y ≠ (Value.slice A zs.length cap).ownBlock := fun y t cs hy ht e => by
    obtain ⟨_, _, cs', hs⟩ := hrows y (hat y e.symm)
    exact (hy.ne_ hs ht) rfl
  have ha := assert_int z
  have HAT := Lib.hid (And.intro hat hneb)
  have HAG := Lib.hid hag
  clear hat hneb hrows hag
  go_enter Try.func82, Try.ntmps82
  go_wp2_with (at_builtin; go_loud (refine wpList_append_lies _ rfl _ _ 26 rfl B 3 i0 (.int .i64 0) 1 8 Try.underlying26 hi hz0 hz1 hz2 rfl (by decide) _ _ _ rfl hown ⟨w.heap.size, 0, none⟩ 1 1 [.int .i64 z] rfl (by simp) (cell_one_new _ _ _) (fun v hv => by rw [List.mem_singleton.1 hv]; rfl) (by omega) (by unfold maxLen; omega) (by omega) (by simp; omega) _ rfl ?_))
  obtain ⟨hat, hneb⟩ := HAT.out
  have hag := HAG.out
  intro g' cap' w1 hown1 hgrow hlies hlt1
  have hb1 : Blk w1 g 60 #[.slice A zs.length cap, .func (.func 30) #[.pointer (some ⟨a, 0, none⟩)] #[]] := (hb.alloc _).grown hgrow (hneb g 60 _ hb (by decide))
  have ha1 : Blk w1 a 58 (acells lf tk g) := (hba.alloc _).grown hgrow (hneb a 58 _ hba (by decide))
  have c1 : w1.cell? ⟨g, 0, none⟩ = some (.slice A zs.length cap) := hb1.cell_ 0 rfl
  have f1 := hb1.frozen 0
  have l1 := hb1.lt
  have hF1 : Fr a g w w1 := by
    refine ⟨((Below.refl 0 w).alloc (Nat.zero_le _) _).grown hgrow (Nat.zero_le _) (fun _ _ => Nat.zero_le _), fun b hbl h1 h2 h3 => ?_, fun s ⟨A', n, c, hs, e⟩ => .inl ⟨A', n, c, ?_, e⟩⟩
    · exact (hgrow.block b (by simp; omega) (fun e => h3 (hat b e.symm))).trans (Below.heap_alloc w _ b hbl)
    · rw [c1] at hs; rw [c0]; exact hs
  have hF2 : Fr a g w (w1.setCell ⟨g, 0, none⟩ (.slice (some ⟨g', 0, none⟩) (zs.length + 1) cap')) := by
    refine ⟨hF1.1.setCell (Nat.zero_le _) _, fun b hbl h1 h2 h3 => (Below.heap_setCell w1 _ _ b h2).trans (hF1.2.1 b hbl h1 h2 h3), fun s ⟨A', n', c', hs, e⟩ => ?_⟩
    have := (hb1.set_ 0 (.slice (some ⟨g', 0, none⟩) (zs.length + 1) cap')).cell 0
    rw [hs] at this
    simp at this
    obtain ⟨rfl, _⟩ := this
    rcases hlies with hl | hl
    · exact .inl (e ▸ hat _ hl)
    · right
      rw [← e]
      simp only
      rw [hl]; simp
  have hb2 := hb1.set_to 0 (.slice (some ⟨g', 0, none⟩) (zs.length + 1) cap') (cs' := #[.slice (some ⟨g', 0, none⟩) (zs.length + 1) cap', .func (.func 30) #[.pointer (some ⟨a, 0, none⟩)] #[]]) rfl
  have hq : QI (w1.setCell ⟨g, 0, none⟩ (.slice (some ⟨g', 0, none⟩) (zs.length + 1) cap')) B a g lf tk (zs ++ [z]) := by
    refine ⟨some ⟨g', 0, none⟩, cap', by simpa using hb2, hg, ?_, ha1.far (p := ⟨g, 0, none⟩) hag _, h5, fun y hy => ?_⟩
    · obtain ⟨h1, h2⟩ := hown1
      rw [List.length_append, List.length_singleton]
      refine ⟨by simp [ivals], ?_⟩
      rcases h2 with ⟨_, h0⟩ | ⟨r, c, cur, a1, a2, a3, a4⟩
      · omega
      · refine .inr ⟨r, c, cur, a1, a2, ((show Blk w1 r 3 cur from a3).far (p := ⟨g, 0, none⟩) ((show Blk w1 r 3 cur from a3).ne_ hb1 (by decide)) _), ?_⟩
        simpa [ivals] using a4
    · rw [List.mem_append, List.mem_singleton] at hy
      rcases hy with hy | rfl
      · exact h6 y hy
      · exact hz
  have HQ := Lib.hid hq; have HN := Lib.hid hF2
  clear hown hgrow hb1 hown1 hF1 hF2 hb2 hq hb hg ho c0 l0 hi hz0 hz1 hz2 hlies hlt1 hat hneb hba ha1 h6 HAT HAG hag
  go_wp2_with fail
  go_end0
  exact ⟨rfl, HQ.out, HN.out⟩
theorem qswap (i j B a g : Nat) (lf : Nat → Int) (tk : Int) (zs : List Int) (w : World) (h : QI w B a g lf tk zs) (hi : i < zs.length) (hj : j < zs.length) :
    Calls Try.prog 83 #[.pointer (some ⟨g, 0, none⟩), .int .i64 i, .int .i64 j] w fun e w' => e = .returned (.tuple #[]) ∧ QI w' B a g lf tk (swp zs i j) ∧ Fr a g w w' := by
  obtain ⟨r, cap, cur, hb, hg, hr, hc, h1, h2, h3, h4, ha, h5, h6, h7⟩ := h.row (by omega)
  have c0 : w.cell? ⟨g, 0, none⟩ = some (.slice (some ⟨r, 0, none⟩) zs.length cap) := hb.cell_ 0 rfl
  have ci : w.cell? ⟨r, i, none⟩ = some (.int .i64 (el zs i)) := hc.cell_ i (h4 i hi)
  have cj : w.cell? ⟨r, j, none⟩ = some (.int .i64 (el zs j)) := hc.cell_ j (h4 j hj)
  have i0 : (0 : Int) ≤ (i : Int) := by omega
  have i1 : (i : Int) < (zs.length : Int) := by omega
  have j0 : (0 : Int) ≤ (j : Int) := by omega
  have j1 : (j : Int) < (zs.length : Int) := by omega
  have fi := hc.frozen i
  have fj := hc.frozen j
  have lr := hc.lt
  have hrg : r ≠ g := hc.ne_ hb (by decide)
  have d1 := hc.set_ i (.int .i64 (el zs j))
  have d2 := d1.set_ j (.int .i64 (el zs i))
  have e1 := (hb.far (p := ⟨r, i, none⟩) (hb.ne_ hc (by decide)) (.int .i64 (el zs j))).far (p := ⟨r, j, none⟩) (hb.ne_ hc (by decide)) (.int .i64 (el zs i))
  have a1 := (ha.far (p := ⟨r, i, none⟩) (ha.ne_ hc (by decide)) (.int .i64 (el zs j))).far (p := ⟨r, j, none⟩) (ha.ne_ hc (by decide)) (.int .i64 (el zs i))
  have hq : QI ((w.setCell ⟨r, i, none⟩ (.int .i64 (el zs j))).setCell ⟨r, j, none⟩ (.int .i64 (el zs i))) B a g lf tk (swp zs i j) := by
    refine QI.of (by rw [swp_len]; exact e1) hg hr d2 (by rw [swp_len]; exact h1) h2 (by simp [h3]) (fun k hk => ?_) a1 h5 (fun z hz => h6 z ((swp_perm hi hj).mem_iff.1 hz))
    rw [swp_len] at hk
    rw [el_swp hi hj, Array.getElem?_setIfInBounds, Array.getElem?_setIfInBounds]
    by_cases kj : k = j
    · subst kj; simp; omega
    · rw [if_neg (Ne.symm kj), if_neg kj]
      by_cases ki : k = i
      · subst ki; simp; omega
      · rw [if_neg (Ne.symm ki), if_neg ki]; exact h4 k hk
  obtain ⟨u, hu⟩ : ∃ u, (w.setCell ⟨r, i, none⟩ (.int .i64 (el zs j))).cell? ⟨r, j, none⟩ = some u := ⟨_, (d1.cell j).trans (Array.getElem?_eq_getElem (by simp; omega))⟩
  have F1 : Fr a g w (w.setCell ⟨r, i, none⟩ (.int .i64 (el zs j))) := Fr.setOld hc (.inl h7) hrg _
  have h7' : At (w.setCell ⟨r, i, none⟩ (.int .i64 (el zs j))) g r := by
    obtain ⟨A, n, c, hs, e⟩ := h7
    exact ⟨A, n, c, (World.cell?_setCell_other _ _ _ _ (fun e => hrg (by injection e))).trans hs, e⟩
  have hN2 := F1.trans (Fr.setOld (a := a) (i := j) d1 (.inl h7') hrg (.int .i64 (el zs i)))
  have HQ := Lib.hid hq; have HN := Lib.hid hN2
  clear h hb hg hr hc h1 h2 h3 h4 d1 d2 e1 a1 hq F1 hN2 h7 h7' ha h5 h6 hrg
  go_enter Try.func83, Try.ntmps83
  go_wp2_with fail
  go_region
  go_wp2
  go_end0
  exact ⟨rfl, HQ.out, HN.out.drew⟩
end Go.Proofs.Ytbmpocalapgmjac
