/- Spare's known. -/
import Derived.Test.YtbmpocalapgmjabSRef
namespace Go.Proofs.Ytbmpocalapgmjab
open Go.RowKit
set_option linter.unusedVariables false
def l52 (i : Nat) : Int := if i = 0 then 5 else 2
theorem known_ok (w : World) : Calls Try.prog 28 #[] w fun e w' => e = .returned (.bool true) ∧ Near w.heap.size w w' := by
  have hrow : InRow (w.alloc (.cells #[.int .i64 5, .int .i64 2] 3)) (some ⟨w.heap.size, 0, none⟩) 2 l52 := by
    refine .inr ⟨w.heap.size, 0, rfl, by simp, fun i hi => ?_⟩
    have hb := Blk.new w 3 #[.int .i64 5, .int .i64 2]
    rcases (show i = 0 ∨ i = 1 by omega) with rfl | rfl
    · exact hb.cell_ 0 rfl
    · exact hb.cell_ 1 rfl
  have hN0 := (Near.refl w.heap.size w).alloc (Nat.le_refl _) (.cells #[.int .i64 5, .int .i64 2] 3)
  have HR := Lib.hid hrow
  clear hrow
  go_enter Try.func28, Try.ntmps28
  go_wp2_with fail
  refine (snew_ok _ 2 2 l52 _ HR.out (by omega)).mono ?_
  rintro e w1 ⟨rfl, zs, hs, hN, hz⟩
  have hp : zs.Perm [2, 5] := (List.perm_ext_iff_of_nodup hs.2.2.1 (by decide)).2 fun z => by
    rw [hz]
    constructor
    · rintro ⟨_, _, i, hi, rfl⟩
      rcases (show i = 0 ∨ i = 1 by omega) with rfl | rfl <;> simp [l52]
    · intro h
      simp only [List.mem_cons, List.not_mem_nil, or_false] at h
      rcases h with rfl | rfl
      · exact ⟨by omega, by omega, 1, by omega, rfl⟩
      · exact ⟨by omega, by omega, 0, by omega, rfl⟩
  have hl : zs.length = 2 := hp.length_eq
  have hm : el zs 0 = 2 := by
    have a := hs.least (hp.mem_iff.2 (by simp : (2 : Int) ∈ [2, 5]))
    have b := hp.mem_iff.1 (el_mem (zs := zs) (k := 0) (by omega))
    simp only [List.mem_cons, List.not_mem_nil, or_false] at b
    omega
  have hN1 : Near w.heap.size w w1 := hN0.trans (hN.mono (by simp))
  have ht := fun W h => take_ok (w.alloc (.cells #[.int .i64 5, .int .i64 2] 3)).heap.size (w.alloc (.cells #[.int .i64 5, .int .i64 2] 3)).heap.size zs W h (by intro e; subst e; simp at hl)
  rw [hm] at ht
  obtain ⟨g, hg⟩ : ∃ g, g = (w.alloc (.cells #[.int .i64 5, .int .i64 2] 3)).heap.size := ⟨_, rfl⟩
  rw [← hg] at hs hN ht ⊢
  have hgw : w.heap.size ≤ g := by rw [hg]; simp
  clear hg hN0 hz HR hN
  go_wp2_with fail
  refine (ht _ hs).mono ?_
  rintro e w2 ⟨rfl, ys, hs2, hN2, hp2⟩
  have hN3 := hN1.trans (hN2.mono hgw)
  have hyl : ys.length = 1 := by
    have := hp2.length_eq
    simp at this; omega
  have hnd := hp2.symm.nodup hs.2.2.1
  have h2 : decide ((2 : Int) ∈ ys) = false := by
    simp only [decide_eq_false_iff_not]
    intro h
    exact (List.nodup_append.1 hnd).2.2 2 h 2 (by simp) rfl
  have h5 : decide ((5 : Int) ∈ ys) = true := by
    simp only [decide_eq_true_eq]
    have := hp2.mem_iff.2 (hp.mem_iff.2 (by simp : (5 : Int) ∈ [2, 5]))
    rw [List.mem_append, List.mem_singleton] at this
    exact this.resolve_right (by decide)
  have hyc : (ys.length : Int) = 1 := by omega
  clear hs hN1 hN2 hp2 hnd hp ht hyl hl hm
  go_wp2_with fail
  refine (has_ok g g ys 5 _ hs2.1 (by have := hs2.len; omega)).mono ?_
  rintro e w3 ⟨rfl, rfl⟩
  go_wp2_with fail
  refine (has_ok g g ys 2 _ hs2.1 (by have := hs2.len; omega)).mono ?_
  rintro e w3 ⟨rfl, rfl⟩
  go_wp2_with fail
  refine (len_ok g g ys _ hs2.1).mono ?_
  rintro e w3 ⟨rfl, rfl⟩
  go_wp2_with fail
  go_ret
  exact ⟨rfl, hN3⟩
end Go.Proofs.Ytbmpocalapgmjab
