/- The reference's Is and Do, and Same. -/
import Derived.Test.YtbmpocalapgmjabRef
namespace Go.Proofs.Ytbmpocalapgmjab
open Go.RowKit
set_option linter.unusedVariables false
theorem ris_ok (k i : Int) (A : Option Addr) (n c : Nat) (w : World) (h : okc k i n) :
    Calls Try.prog 16 #[.agg #[.int .i64 k, .int .i64 i, .slice A n c]] w fun e w' => e = .returned (.bool true) ∧ Below w.heap.size w w' := by
  have bel : Below w.heap.size w (w.alloc (.cells #[.int .i64 k, .int .i64 i, .slice A n c] 30)) := (Below.refl _ _).alloc (Nat.le_refl _) _
  rcases h with ⟨h, h0, h1⟩ | ⟨rfl, ⟨h0, h1⟩, rfl⟩ | h
  · have h2 : decide (i < 32) = true := by simpa using h1
    rcases h with rfl | rfl
    all_goals
      go_enter Try.func16, Try.ntmps16
      go_wp2_with fail
      go_ret
      exact ⟨rfl, bel⟩
  · have h2 : decide (i < 32) = true := by simpa using h1
    go_enter Try.func16, Try.ntmps16
    go_wp2_with fail
    go_ret
    exact ⟨rfl, bel⟩
  · by_cases h0 : 0 ≤ i
    · by_cases h1 : i < 32
      · have h2 : decide (i < 32) = true := by simpa using h1
        rcases h with rfl | rfl
        all_goals
          go_enter Try.func16, Try.ntmps16
          go_wp2_with fail
          go_ret
          exact ⟨rfl, bel⟩
      · have h2 : decide (i < 32) = false := by simpa using h1
        rcases h with rfl | rfl
        all_goals
          go_enter Try.func16, Try.ntmps16
          go_wp2_with fail
          go_ret
          exact ⟨rfl, bel⟩
    · rcases h with rfl | rfl
      all_goals
        go_enter Try.func16, Try.ntmps16
        go_wp2_with fail
        go_ret
        exact ⟨rfl, bel⟩
theorem ris_no (k i : Int) (A : Option Addr) (n c : Nat) (w : World) (h : ¬ okc k i n) :
    Calls Try.prog 16 #[.agg #[.int .i64 k, .int .i64 i, .slice A n c]] w fun e w' => e = .returned (.bool false) ∧ Below w.heap.size w w' := by
  have bel : Below w.heap.size w (w.alloc (.cells #[.int .i64 k, .int .i64 i, .slice A n c] 30)) := (Below.refl _ _).alloc (Nat.le_refl _) _
  rcases nokc h with ⟨hk, hi⟩ | ⟨rfl, hi⟩ | ⟨rfl, ⟨h0, h1⟩, hn⟩ | ⟨k1, k2, k3, k4, k5⟩
  · clear h
    rcases hi with hi | hi
    · rcases hk with rfl | rfl
      all_goals
        go_enter Try.func16, Try.ntmps16
        go_wp2_with fail
        go_ret
        exact ⟨rfl, bel⟩
    · have h0 : 0 ≤ i := by omega
      have h2 : decide (i < 32) = false := by simp; omega
      rcases hk with rfl | rfl
      all_goals
        go_enter Try.func16, Try.ntmps16
        go_wp2_with fail
        go_ret
        exact ⟨rfl, bel⟩
  · clear h
    rcases hi with hi | hi
    · go_enter Try.func16, Try.ntmps16
      go_wp2_with fail
      go_ret
      exact ⟨rfl, bel⟩
    · have h0 : 0 ≤ i := by omega
      have h2 : decide (i < 32) = false := by simp; omega
      go_enter Try.func16, Try.ntmps16
      go_wp2_with fail
      go_ret
      exact ⟨rfl, bel⟩
  · have hn' : ((n : Int) == 32) = false := by simp; omega
    have h2 : decide (i < 32) = true := by simpa using h1
    clear h hn
    go_enter Try.func16, Try.ntmps16
    go_wp2_with fail
    go_ret
    exact ⟨rfl, bel⟩
  · have e1 : (k == 1) = false := by simpa using k1
    have e2 : (k == 2) = false := by simpa using k2
    have e3 : (k == 3) = false := by simpa using k3
    have e4 : (k == 4) = false := by simpa using k4
    have e5 : (k == 5) = false := by simpa using k5
    clear h k1 k2 k3 k4 k5
    by_cases h0 : 0 ≤ i
    · by_cases h1 : i < 32
      · have h2 : decide (i < 32) = true := by simpa using h1
        go_enter Try.func16, Try.ntmps16
        go_wp2_with fail
        go_ret
        exact ⟨rfl, bel⟩
      · have h2 : decide (i < 32) = false := by simpa using h1
        go_enter Try.func16, Try.ntmps16
        go_wp2_with fail
        go_ret
        exact ⟨rfl, bel⟩
    · go_enter Try.func16, Try.ntmps16
      go_wp2_with fail
      go_ret
      exact ⟨rfl, bel⟩
end Go.Proofs.Ytbmpocalapgmjab
