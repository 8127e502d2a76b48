/- The slots that blocks have, from the least: the list that index's Slots and the reference's Slots both answer (plain). -/
import Derived.Test.YtbmpocalapgmjacIx
namespace Go.Proofs.Ytbmpocalapgmjac.index
open Go.RowKit Go.Maps
set_option linter.unusedVariables false
/-- slot s, once for each of the first k blocks that has it -/
def rowS (S : Nat → Int) (s k : Nat) : List Int := ((List.range k).filter (fun i => decide (S i = (s : Int) + 1))).map (fun _ => (s : Int))
def slk (S : Nat → Int) (k m : Nat) : List Int := (List.range m).flatMap (fun s => rowS S s k)
def sl (S : Nat → Int) : List Int := slk S 32 16
def vk (S : Nat → Int) (k : Nat) : List Int := ((List.range k).filter (fun i => decide (S i ≠ 0))).map (fun i => S i - 1)
theorem rowS_succ (S : Nat → Int) (s k : Nat) : rowS S s (k + 1) = rowS S s k ++ (if S k = (s : Int) + 1 then [(s : Int)] else []) := by
  unfold rowS
  rw [List.range_succ, List.filter_append, List.map_append]
  by_cases h : S k = (s : Int) + 1
  · simp [h]
  · simp [h]
theorem slk_succ (S : Nat → Int) (k m : Nat) : slk S k (m + 1) = slk S k m ++ rowS S m k := by
  unfold slk
  rw [List.range_succ, List.flatMap_append]
  simp
theorem slk_same (S : Nat → Int) (k : Nat) : ∀ m : Nat, (∀ s, s < m → S k ≠ (s : Int) + 1) → slk S (k + 1) m = slk S k m
  | 0, _ => rfl
  | m + 1, h => by
    rw [slk_succ, slk_succ, slk_same S k m (fun s hs => h s (by omega)), rowS_succ, if_neg (h m (by omega)), List.append_nil]
theorem slk_more (S : Nat → Int) (k : Nat) : ∀ m : Nat, (∃ s : Nat, s < m ∧ S k = (s : Int) + 1) → (slk S (k + 1) m).Perm (slk S k m ++ [S k - 1])
  | 0, h => by obtain ⟨s, hs, _⟩ := h; omega
  | m + 1, h => by
    rw [slk_succ, slk_succ, rowS_succ]
    by_cases e : S k = (m : Int) + 1
    · rw [if_pos e, slk_same S k m (fun s hs => by omega), show S k - 1 = (m : Int) by omega]
      rw [List.append_assoc]
    · rw [if_neg e, List.append_nil]
      obtain ⟨s, hs, hk⟩ := h
      have hm : s < m := by
        rcases Nat.lt_or_ge s m with h | h
        · exact h
        · have : s = m := by omega
          subst this
          exact absurd hk e
      refine ((slk_more S k m ⟨s, hm, hk⟩).append_right _).trans ?_
      rw [List.append_assoc, List.append_assoc]
      exact List.Perm.append_left _ List.perm_append_comm
theorem slk_perm (S : Nat → Int) : ∀ k : Nat, (∀ x, x < k → 0 ≤ S x ∧ S x ≤ 16) → (slk S k 16).Perm (vk S k)
  | 0, _ => by
    have : slk S 0 16 = [] := by simp [slk, rowS]
    rw [this]; exact List.Perm.refl _
  | k + 1, h => by
    have ih := slk_perm S k (fun x hx => h x (by omega))
    have hk := h k (by omega)
    by_cases e : S k = 0
    · rw [slk_same S k 16 (fun s hs => by omega)]
      have : vk S (k + 1) = vk S k := by
        unfold vk
        rw [List.range_succ, List.filter_append]
        simp [e]
      rw [this]; exact ih
    · have : vk S (k + 1) = vk S k ++ [S k - 1] := by
        unfold vk
        rw [List.range_succ, List.filter_append, List.map_append]
        simp [e]
      rw [this]
      exact (slk_more S k 16 ⟨(S k - 1).toNat, by omega, by omega⟩).trans (ih.append_right _)
theorem slk_sorted (S : Nat → Int) (k m : Nat) : (slk S k m).Pairwise (fun x y => x ≤ y) := by
  unfold slk
  rw [List.pairwise_flatMap]
  refine ⟨fun s _ => ?_, ?_⟩
  · unfold rowS
    rw [List.pairwise_map]
    exact ((List.nodup_range (n := k)).filter _).imp (fun _ => Int.le_refl _)
  · refine (List.pairwise_lt_range (n := m)).imp fun {a b} hab x hx y hy => ?_
    unfold rowS at hx hy
    obtain ⟨_, _, rfl⟩ := List.mem_map.1 hx
    obtain ⟨_, _, rfl⟩ := List.mem_map.1 hy
    omega
theorem sort_sl {S : Nat → Int} {ss : List Int} (h : ∀ x, x < 32 → 0 ≤ S x ∧ S x ≤ 16) (hp : ss.Perm (vk S 32)) : ss.mergeSort (fun x y => decide (x ≤ y)) = sl S := by
  rw [mergeSort_of_perm_i (hp.trans (slk_perm S 32 h).symm)]
  exact List.mergeSort_of_pairwise ((slk_sorted S 32 16).imp (fun h => by simpa using h))
theorem sl_len {S : Nat → Int} (h : ∀ x, x < 32 → 0 ≤ S x ∧ S x ≤ 16) : (sl S).length = cnt S := by
  have := (slk_perm S 32 h).length_eq
  unfold sl
  rw [this]
  unfold vk cnt
  rw [List.length_map]
theorem cnt_le (S : Nat → Int) : cnt S ≤ 32 := by
  have := List.length_filter_le (fun x => decide (S x ≠ 0)) (List.range 32)
  rwa [List.length_range] at this
end Go.Proofs.Ytbmpocalapgmjac.index
