/- The reference's Same by contract: two slices that hold the same integers are the same. -/
import Derived.Test.YtbmpocalapgmjacIRSlots
namespace Go.Proofs.Ytbmpocalapgmjac.index
open Go.RowKit
set_option linter.unusedVariables false
/-- n integers ls behind a slice -/
def Ints (w : World) (A : Option Addr) (n : Nat) (ls : Nat → Int) : Prop := n = 0 ∨ ∃ r, A = some ⟨r, 0, none⟩ ∧ r < w.heap.size ∧ ∀ j, j < n → w.cell? ⟨r, j, none⟩ = some (.int .i64 (ls j))
theorem Ints.below_ {w w' : World} {A : Option Addr} {n : Nat} {ls : Nat → Int} (h : Ints w A n ls) (hb : Below w.heap.size w w') : Ints w' A n ls := by
  rcases h with h | ⟨r, rfl, h1, h2⟩
  · exact .inl h
  · exact .inr ⟨r, rfl, Nat.lt_of_lt_of_le h1 hb.size, fun j hj => (hb.cell (p := ⟨r, j, none⟩) h1).trans (h2 j hj)⟩
theorem Own.ints {w : World} {B : Nat} {v : Value} {L : List Int} (h : Own w B v L) : ∃ A cap, v = .slice A L.length cap ∧ L.length ≤ 9223372036854775807 ∧ Ints w A L.length (fun j => L.getD j 0) := by
  rcases h.2 with ⟨rfl, hz⟩ | ⟨r, c, cur, rfl, a2, a3, a4, a5, a6, a7⟩
  · rw [hz]
    exact ⟨none, 0, rfl, by omega, .inl rfl⟩
  · refine ⟨_, c, rfl, by unfold maxLen at a5; omega, .inr ⟨r, rfl, (Array.getElem?_eq_some_iff.1 a3).1, fun j hj => ?_⟩⟩
    rw [cell_of_row w r j cur 3 (0, 0) a3]
    have e : (cur.toList.take (L.length * 1))[j]? = some (.int .i64 (L.getD j 0)) := by
      rw [a7, List.getElem?_map, List.getD_eq_getElem?_getD]
      rw [List.getElem?_eq_getElem hj]
      rfl
    rw [List.getElem?_take, if_pos (by omega)] at e
    simpa using e
theorem same_ok (A B : Option Addr) (n ca cb : Nat) (ls : Nat → Int) (w : World) (hn : n ≤ 9223372036854775807) (hA : Ints w A n ls) (hB : Ints w B n ls) :
    Calls Try.prog 28 #[.slice A n ca, .slice B n cb] w fun e w' => e = .returned (.bool true) ∧ Below w.heap.size w w' := by
  go_enter Try.func28, Try.ntmps28
  go_wp2_with fail
  go_loopw [5] (fun i wr => ∃ (j d : Nat), i = .int .i64 j ∧ j ≤ n ∧ wr = w.drewN d) (fun i _ => n - (intOf i).toNat)
  case atStart => exact ⟨0, 0, rfl, by omega, rfl⟩
  case round =>
    obtain ⟨j, d, rfl, hj, rfl⟩ := hrel
    by_cases hlt : j < n
    · obtain ⟨r, rfl, hr, hc⟩ := hA.resolve_left (by omega)
      obtain ⟨r2, rfl, hr2, hc2⟩ := hB.resolve_left (by omega)
      have i0 : (0 : Int) ≤ (j : Int) := by omega
      have i1 : (j : Int) < (n : Int) := by omega
      have f1 : w.cell? ⟨r, 0 + j, none⟩ = some (.int .i64 (ls j)) := by rw [Nat.zero_add]; exact hc j hlt
      have f2 : w.cell? ⟨r2, 0 + j, none⟩ = some (.int .i64 (ls j)) := by rw [Nat.zero_add]; exact hc2 j hlt
      have f3 := hc j hlt
      have f4 := hc2 j hlt
      obtain ⟨v, hv⟩ : ∃ v, v = ls j := ⟨_, rfl⟩
      rw [← hv] at f1 f2 f3 f4
      have t1 : (v != v) = false := by simp
      clear hc hc2 hA hB hv
      go_wp2_with fail
      go_quiet (fail)
      go_wp2_with fail
      go_roundw
      case rel => exact ⟨j + 1, d + nq, by go_num, by omega, rfl⟩
      case measure => simp [intOf]; omega
    · obtain rfl : j = n := by omega
      have hd : decide ((j : Int) < (j : Int)) = false := by simp
      go_wp2_with fail
      go_ret
      exact ⟨rfl, below_drewN (Below.refl _ _) d⟩
end Go.Proofs.Ytbmpocalapgmjac.index
