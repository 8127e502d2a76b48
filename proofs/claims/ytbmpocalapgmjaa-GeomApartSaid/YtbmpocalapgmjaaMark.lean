/- The law's own 'mark', and rows of numbers that are given by a function. -/
import Derived.Test.YtbmpocalapgmjaaGeomR
namespace Go.Proofs.Ytbmpocalapgmjaa.geo
open Go.RowKit
set_option linter.unusedVariables false

def rowA (N : Nat) (f : Nat → Int) : Array Value := ((List.range N).map (fun x => Value.int .i64 (f x))).toArray
theorem rowA_at (N : Nat) (f : Nat → Int) (x : Nat) (h : x < N) : (rowA N f)[x]? = some (.int .i64 (f x)) := by
  simp [rowA, h]
theorem rowA_congr {N : Nat} {f g : Nat → Int} (h : ∀ x, x < N → f x = g x) : rowA N f = rowA N g := by
  unfold rowA
  congr 1
  apply List.map_congr_left
  intro x hx
  rw [h x (List.mem_range.1 hx)]
theorem rowA_set (N : Nat) (f : Nat → Int) (x : Nat) (v : Int) : (rowA N f).setIfInBounds x (.int .i64 v) = rowA N (fun y => if y = x then v else f y) := by
  apply Array.ext
  · simp [rowA]
  · intro i h1 h2
    simp only [rowA, List.setIfInBounds_toArray, List.getElem_toArray, List.getElem_set, List.getElem_map, List.getElem_range]
    by_cases c : x = i
    · subst c; simp
    · rw [if_neg c, if_neg (by omega)]
/-- one more at each of the places from 'at' on, 'j' of them -/
def bump (f : Nat → Int) (a j : Nat) : Nat → Int := fun x => if a ≤ x ∧ x < a + j then f x + 1 else f x
theorem bump_zero (f : Nat → Int) (a : Nat) : bump f a 0 = f := by
  funext x; unfold bump; rw [if_neg (by omega)]
theorem bump_here (f : Nat → Int) (a j : Nat) : bump f a j (a + j) = f (a + j) := by
  unfold bump; rw [if_neg (by omega)]
theorem bump_succ (f : Nat → Int) (a j : Nat) : (fun y => if y = a + j then f (a + j) + 1 else bump f a j y) = bump f a (j + 1) := by
  funext y
  unfold bump
  by_cases c : y = a + j
  · rw [if_pos c, if_pos (by omega), c]
  · rw [if_neg c]
    by_cases d : a ≤ y ∧ y < a + j
    · rw [if_pos d, if_pos (by omega)]
    · rw [if_neg d, if_neg (by omega)]

theorem mark_ok (g S a l : Nat) (f : Nat → Int) (w : World) (hB : Blk w g 3 (rowA S f)) (hf : ∀ x, 0 ≤ f x ∧ f x ≤ 1000) (hS : S ≤ 100000) (hl : l ≤ 100) (ha : a + l ≤ S) :
    Calls Try.prog 29 #[.slice (some ⟨g, 0, none⟩) S S, .int .i64 a, .int .i64 l] w fun e w' => e = .returned (.bool true) ∧ w.grownBy w' (some g) ∧ Blk w' g 3 (rowA S (bump f a l)) := by
  go_enter Try.func29, Try.ntmps29
  go_wp2_with fail
  go_loopw [7] (fun i wr => ∃ j : Nat, j ≤ l ∧ i = .int .i64 (a + j) ∧ Blk wr g 3 (rowA S (bump f a j)) ∧ w.grownBy wr (some g)) (fun i _ => a + l - (intOf i).toNat)
  case atStart => exact ⟨0, by omega, by go_num, by rw [bump_zero]; exact hB, only_refl _ _⟩
  case round =>
    obtain ⟨j, hj, rfl, hBj, hg⟩ := hrel
    by_cases hlt : j < l
    · obtain ⟨v, hv⟩ : ∃ v, v = f (a + j) := ⟨_, rfl⟩
      have hfx := hf (a + j)
      rw [← hv] at hfx
      have hc : wr.cell? ⟨g, a + j, none⟩ = some (.int .i64 v) := by
        rw [hBj.cell, rowA_at _ _ _ (by omega), bump_here, ← hv]
      have hfr := hBj.frozen (a + j)
      have hset : (rowA S (bump f a j)).setIfInBounds (a + j) (.int .i64 (v + 1)) = rowA S (bump f a (j + 1)) := by
        rw [rowA_set, hv, bump_succ]
      have H := Lib.hid hset
      clear hset hv
      go_wp2_with fail
      go_roundw
      case rel => exact ⟨j + 1, by omega, by go_num, hBj.set_to _ _ H.out, only_setCell hg (.inl rfl) _⟩
      case measure => simp [intOf]; omega
    · have e : j = l := by omega
      subst e
      go_wp2_with fail
      go_ret
      exact ⟨rfl, hg, hBj⟩
end Go.Proofs.Ytbmpocalapgmjaa.geo
