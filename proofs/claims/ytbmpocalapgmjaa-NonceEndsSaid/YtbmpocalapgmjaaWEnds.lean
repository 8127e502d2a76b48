/- The walk of the law NonceEnds. -/
import Derived.Test.YtbmpocalapgmjaaNonce
namespace Go.Proofs.Ytbmpocalapgmjaa.nonceEnds
open Go.RowKit
set_option linter.unusedVariables false
theorem walk (a0 : Int) (a1 : Int) (w0 : (Lit.int .u64 a0).wf = true) (w1 : (Lit.int .i64 a1).wf = true) (w : World) :
    Calls Try.prog 4 #[.int .u64 a0, .int .i64 a1] w fun e w' => e = .returned (.bool true) ∧ Below w.heap.size w w' := by
  have b0 := bounds_u64 w0
  have b1 := bounds_i64 w1
  clear w0 w1
  by_cases hb : a0 < 4294967296 ∧ 0 ≤ a1 ∧ a1 ≤ 20
  · have hb1 : Blk (w.alloc (.cells #[.int .u64 a0, .int .i64 0] 59)) w.heap.size 59 #[.int .u64 a0, .int .i64 0] := Blk.new _ _ _
    have bel1 : Below w.heap.size w (w.alloc (.cells #[.int .u64 a0, .int .i64 0] 59)) := (Below.refl _ _).alloc (Nat.le_refl _) _
    obtain ⟨x0, x1, x2⟩ := hb
    obtain ⟨q, rfl⟩ := Int.eq_ofNat_of_zero_le x1
    have hlt1 : w.heap.size < (w.alloc (.cells #[.int .u64 a0, .int .i64 0] 59)).heap.size := hb1.lt
    go_enter Try.func4, Try.ntmps4
    go_wp2_with fail
    refine (new_ok a0 _ (by omega) (by omega)).mono ?_
    rintro e w1 ⟨rfl, rfl⟩
    go_wp2_with fail
    go_loopw [7] (fun i wr => ∃ k : Nat, k ≤ 100 ∧ i = .int .i64 k ∧ Blk wr w.heap.size 59 #[.int .u64 a0, .int .i64 k] ∧ Below w.heap.size w wr) (fun i _ => 100 - (intOf i).toNat)
    case atStart => exact ⟨0, by omega, rfl, hb1, bel1⟩
    case round =>
      obtain ⟨k, hk, rfl, hbk, bel⟩ := hrel
      by_cases hlt : k < 100
      · go_wp2_with fail
        refine (next_ok w.heap.size a0 k 1 k _ (by omega) (by omega) (by omega) (by omega) (by omega) (by omega) (by omega) (by omega) hbk).mono ?_
        rintro e w2 ⟨rfl, hg2, hb2⟩
        have hs := hg2.size
        have hs' := bel.size
        go_wp2_with fail
        go_roundw
        case rel => exact ⟨k + 1, by omega, by go_num, hb2.alloc _, (below_only bel hg2 bel.size (Nat.le_refl _)).alloc (by omega) _⟩
        case measure => simp [intOf]; omega
      · have hbk' : Blk wr w.heap.size 59 #[.int .u64 a0, .int .i64 100] := by
          have e : k = 100 := by omega
          rw [e] at hbk
          exact hbk
        clear hbk
        go_wp2_with fail
        obtain ⟨wo, hwo⟩ : ∃ wo : World, wo = wr := ⟨_, rfl⟩
        subst hwo
        go_loopw [10] (fun i wr => ∃ k : Nat, k ≤ q ∧ i = .int .i64 k ∧ Blk wr w.heap.size 59 #[.int .u64 a0, .int .i64 100] ∧ Below w.heap.size w wr) (fun i _ => q - (intOf i).toNat)
        case atStart => exact ⟨0, by omega, rfl, hbk', bel⟩
        case round =>
          obtain ⟨j, hj, rfl, hbj, bel⟩ := hrel
          by_cases hltj : j < q
          · go_wp2_with fail
            refine (next_none w.heap.size a0 1 0 _ (by omega) (by omega) hbj).mono ?_
            rintro e w2 ⟨rfl, hg2⟩
            have hb2 := hbj.below_ hg2
            have hs := hg2.size
            have hs' := bel.size
            go_wp2_with fail
            go_roundw
            case rel => exact ⟨j + 1, by omega, by go_num, hb2.alloc _, (bel.trans (hg2.mono bel.size)).alloc (by omega) _⟩
            case measure => simp [intOf]; omega
          · go_wp2_with fail
            refine (next_nil 1 0 _ (by omega) (by omega)).mono ?_
            rintro e w2 ⟨rfl, hg2⟩
            have hb2 := hbj.below_ hg2
            have hs := hg2.size
            have hs' := bel.size
            go_wp2_with fail
            refine (left_ok w.heap.size a0 100 _ (by omega) (by omega) (hb2.alloc _)).mono ?_
            rintro e w3 ⟨rfl, rfl⟩
            go_wp2_with fail
            refine (left_nil _).mono ?_
            rintro e w3 ⟨rfl, rfl⟩
            go_wp2_with fail
            refine (known_ok _).mono ?_
            rintro e w4 ⟨rfl, hg4⟩
            go_wp2_with fail
            go_ret
            exact ⟨rfl, ((bel.trans (hg2.mono bel.size)).alloc (by omega) _).trans (hg4.mono (by simp; omega))⟩
  · have hb' : 4294967296 ≤ a0 ∨ (a0 < 4294967296 ∧ a1 < 0) ∨ (a0 < 4294967296 ∧ 0 ≤ a1 ∧ 20 < a1) := by omega
    clear hb
    rcases hb' with h | ⟨h, h'⟩ | ⟨h, h', h''⟩
    all_goals
      go_enter Try.func4, Try.ntmps4
      go_wp2
      go_ret
      exact ⟨rfl, Below.refl _ _⟩
end Go.Proofs.Ytbmpocalapgmjaa.nonceEnds
