/- The walk of the law NonceSlots. -/
import Derived.Test.YtbmpocalapgmjaaNonce
namespace Go.Proofs.Ytbmpocalapgmjaa.nonceSlots
open Go.RowKit
set_option linter.unusedVariables false
theorem walk (a0 : Int) (a1 : Int) (a2 : Int) (w0 : (Lit.int .u64 a0).wf = true) (w1 : (Lit.int .u32 a1).wf = true) (w2 : (Lit.int .i64 a2).wf = true) (w : World) :
    Calls Try.prog 6 #[.int .u64 a0, .int .u32 a1, .int .i64 a2] w fun e w' => e = .returned (.bool true) ∧ Below w.heap.size w w' := by
  have b0 := bounds_u64 w0
  have b1 := bounds_u32 w1
  have b2 := bounds_i64 w2
  by_cases hb : a0 < 4294967296
  · have hb1 : Blk (w.alloc (.cells #[.int .u64 a0, .int .i64 0] 59)) w.heap.size 59 #[.int .u64 a0, .int .i64 0] := Blk.new _ _ _
    have bel1 : Below w.heap.size w (w.alloc (.cells #[.int .u64 a0, .int .i64 0] 59)) := (Below.refl _ _).alloc (Nat.le_refl _) _
    by_cases hs : a2 < 0 ∨ 65535 < a2
    · have hx := Lib.hid hs
      rcases hs with hs | hs
      all_goals
        go_enter Try.func6, Try.ntmps6
        go_wp2_with fail
        refine (new_ok a0 _ (by omega) (by omega)).mono ?_
        rintro e w1 ⟨rfl, rfl⟩
        go_wp2_with fail
        refine (next_slot _ a1 a2 _ hx.out).mono ?_
        rintro e w2 ⟨rfl, hg2⟩
        have hb2 := hb1.below_ hg2
        have hs := hg2.size
        simp only [World.size_alloc] at hs
        go_wp2_with fail
        refine (left_ok w.heap.size a0 0 _ (by omega) (by omega) (hb2.alloc _)).mono ?_
        rintro e w3 ⟨rfl, rfl⟩
        go_wp2_with fail
        refine (known_ok _).mono ?_
        rintro e w4 ⟨rfl, hg4⟩
        go_wp2_with fail
        go_ret
        exact ⟨rfl, ((bel1.trans (hg2.mono (by simp))).alloc (by omega) _).trans (hg4.mono (by simp; omega))⟩
    · have hs0 : 0 ≤ a2 := by omega
      have hs1 : a2 ≤ 65535 := by omega
      clear hs
      go_enter Try.func6, Try.ntmps6
      go_wp2_with fail
      refine (new_ok a0 _ (by omega) (by omega)).mono ?_
      rintro e w1 ⟨rfl, rfl⟩
      go_wp2_with fail
      refine (next_ok w.heap.size a0 0 a1 a2 _ (by omega) (by omega) (by omega) (by omega) (by omega) (by omega) (by omega) (by omega) hb1).mono ?_
      rintro e w2 ⟨rfl, hg2, hb2⟩
      have hs := hg2.size
      simp only [World.size_alloc] at hs
      go_wp2_with fail
      refine (boot_ok a0 1 _ _ _ (by omega) (by omega) (by omega) (by omega)).mono ?_
      rintro e w3 ⟨rfl, hg3⟩
      have hb3 := (hb2.alloc _).below_ hg3
      go_wp2_with fail
      refine (left_ok w.heap.size a0 1 _ (by omega) (by omega) hb3).mono ?_
      rintro e w4 ⟨rfl, rfl⟩
      go_wp2_with fail
      refine (known_ok _).mono ?_
      rintro e w5 ⟨rfl, hg5⟩
      have hs3 := hg3.size
      simp only [World.size_alloc] at hs3
      go_wp2_with fail
      go_ret
      exact ⟨rfl, (((below_only bel1 hg2 (by simp) (Nat.le_refl _)).alloc (by omega) _).trans (hg3.mono (by simp; omega))).trans (hg5.mono (by omega))⟩
  · go_enter Try.func6, Try.ntmps6
    go_wp2
    go_ret
    exact ⟨rfl, Below.refl _ _⟩
end Go.Proofs.Ytbmpocalapgmjaa.nonceSlots
