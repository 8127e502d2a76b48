/- The reference of spare: sixteen bools. -/
import Derived.Test.YtbmpocalapgmjabSNew
namespace Go.Proofs.Ytbmpocalapgmjab
open Go.RowKit
set_option linter.unusedVariables false
def bls (S : Nat → Bool) : Array Value := ((List.range 16).map (fun k => Value.bool (S k))).toArray
def RS (w : World) (x : Nat) (S : Nat → Bool) : Prop := Blk w x 55 (bls S)
theorem bls_at (S : Nat → Bool) {k : Nat} (hk : k < 16) : (bls S)[k]? = some (.bool (S k)) := by
  unfold bls
  rw [List.getElem?_toArray, List.getElem?_map, List.getElem?_range hk]; rfl
theorem bls_set (S : Nat → Bool) {k : Nat} (hk : k < 16) (b : Bool) : (bls S).setIfInBounds k (.bool b) = bls (fun i => if i = k then b else S i) := by
  apply Array.ext_getElem?
  intro i
  rw [Array.getElem?_setIfInBounds]
  by_cases hi : i < 16
  · rw [bls_at _ hi, bls_at _ hi]
    by_cases e : k = i
    · subst e; simp [bls, hk]
    · rw [if_neg e, if_neg (Ne.symm e)]
  · have hz : ∀ T : Nat → Bool, (bls T)[i]? = none := fun T => by
      apply Array.getElem?_eq_none; simp [bls]; omega
    rw [hz, hz, if_neg (by omega)]
section
variable {w w' : World} {x : Nat} {S : Nat → Bool}
theorem RS.near {B : Nat} (h : RS w x S) (hN : Near B w w') : RS w' x S := hN.2 x _ h
theorem RS.cell (h : RS w x S) {k : Nat} (hk : k < 16) : w.cell? ⟨x, k, none⟩ = some (.bool (S k)) := Blk.cell_ h k (bls_at S hk)
theorem RS.set (h : RS w x S) {k : Nat} (hk : k < 16) (b : Bool) : RS (w.setCell ⟨x, k, none⟩ (.bool b)) x (fun i => if i = k then b else S i) := Blk.set_to h k (.bool b) (bls_set S hk b)
end
theorem rgive_yes (x k : Nat) (S : Nat → Bool) (w : World) (h : RS w x S) (hk : k < 16) (hS : S k = false) :
    Calls Try.prog 20 #[.pointer (some ⟨x, 0, none⟩), .int .i64 k] w fun e w' => e = .returned (.bool true) ∧ RS w' x (fun i => if i = k then true else S i) ∧ w.grownBy w' (some x) := by
  have c0 := h.cell hk
  rw [hS] at c0
  have f0 := Blk.frozen h k
  have l0 := Blk.lt h
  have hs := h.set hk true
  have i0 : (0 : Int) ≤ (k : Int) := by omega
  have i1 : (k : Int) < 16 := by omega
  have i2 : decide ((16 : Int) ≤ (k : Int)) = false := by simp; omega
  have HS := Lib.hid hs
  clear hs h hS
  go_enter Try.func20, Try.ntmps20
  go_wp2_with fail
  go_ret
  exact ⟨rfl, HS.out, only_setCell (only_refl _ _) (.inl rfl) _⟩
theorem rgive_no (x : Nat) (k : Int) (S : Nat → Bool) (w : World) (h : RS w x S) (hk : k < 0 ∨ 16 ≤ k ∨ ∃ n : Nat, k = n ∧ n < 16 ∧ S n = true) :
    Calls Try.prog 20 #[.pointer (some ⟨x, 0, none⟩), .int .i64 k] w fun e w' => e = .returned (.bool false) ∧ w = w' := by
  by_cases h1 : k < 0
  · clear hk
    go_enter Try.func20, Try.ntmps20
    go_wp2_with fail
    go_ret
    exact ⟨rfl, rfl⟩
  · by_cases h2 : 16 ≤ k
    · have h1' : 0 ≤ k := by omega
      clear hk h1
      go_enter Try.func20, Try.ntmps20
      go_wp2_with fail
      go_ret
      exact ⟨rfl, rfl⟩
    · obtain ⟨n, rfl, hn, hS⟩ := (hk.resolve_left h1).resolve_left h2
      have c0 := h.cell hn
      rw [hS] at c0
      have l0 := Blk.lt h
      have i0 : (0 : Int) ≤ (n : Int) := by omega
      have i1 : (n : Int) < 16 := by omega
      have i2 : decide ((16 : Int) ≤ (n : Int)) = false := by simp; omega
      clear hk h1 h2 h hS
      go_enter Try.func20, Try.ntmps20
      go_wp2_with fail
      go_ret
      exact ⟨rfl, rfl⟩
theorem rhas_yes (x k : Nat) (S : Nat → Bool) (w : World) (h : RS w x S) (hk : k < 16) :
    Calls Try.prog 25 #[.pointer (some ⟨x, 0, none⟩), .int .i64 k] w fun e w' => e = .returned (.bool (S k)) ∧ w = w' := by
  have c0 := h.cell hk
  have l0 := Blk.lt h
  have i0 : (0 : Int) ≤ (k : Int) := by omega
  have i1 : (k : Int) < 16 := by omega
  clear h
  go_enter Try.func25, Try.ntmps25
  go_wp2_with fail
  go_ret
  exact ⟨rfl, rfl⟩
theorem rhas_no (x : Nat) (k : Int) (w : World) (hk : k < 0 ∨ 16 ≤ k) :
    Calls Try.prog 25 #[.pointer (some ⟨x, 0, none⟩), .int .i64 k] w fun e w' => e = .returned (.bool false) ∧ w = w' := by
  rcases (show k < 0 ∨ (0 ≤ k ∧ 16 ≤ k) by omega) with h | ⟨h, h2⟩
  · have i0 : decide (0 ≤ k) = false := by simpa using h
    clear hk
    go_enter Try.func25, Try.ntmps25
    go_wp2_with fail
    go_ret
    exact ⟨rfl, rfl⟩
  · have i0 : decide (k < 16) = false := by simpa using h2
    clear hk h2
    go_enter Try.func25, Try.ntmps25
    go_wp2_with fail
    go_ret
    exact ⟨rfl, rfl⟩
theorem rlen_ok (x : Nat) (S : Nat → Bool) (w : World) (h : RS w x S) :
    Calls Try.prog 27 #[.pointer (some ⟨x, 0, none⟩)] w fun e w' => e = .returned (.int .i64 (cnt S 16)) ∧ w = w' := by
  have l0 := Blk.lt h
  go_enter Try.func27, Try.ntmps27
  go_wp2_with fail
  go_loopw [4, 3] (fun i n wr => ∃ j : Nat, i = .int .i64 j ∧ n = .int .i64 (cnt S j) ∧ w = wr ∧ j ≤ 16) (fun i _ _ => 16 - (intOf i).toNat)
  case atStart => exact ⟨0, rfl, rfl, rfl, by omega⟩
  case round =>
    obtain ⟨j, rfl, rfl, rfl, hj⟩ := hrel
    have hle := cnt_le S j
    by_cases hlt : j < 16
    · have c0 := h.cell hlt
      have hsucc := cnt_succ S j
      have i0 : (0 : Int) ≤ (j : Int) := by omega
      have i1 : (j : Int) < 16 := by omega
      cases hS : S j with
      | true =>
        rw [hS] at c0 hsucc
        have hs2 : (cnt S (j + 1) : Int) = (cnt S j : Int) + 1 := by simp at hsucc; omega
        clear hsucc h
        obtain ⟨q, hq⟩ : ∃ q, q = cnt S (j + 1) := ⟨_, rfl⟩
        rw [← hq] at hs2
        have HQ := Lib.hid hq
        clear hq hS
        go_wp2_with fail
        go_roundw
        case rel => exact ⟨j + 1, by go_num, by rw [← HQ.out]; go_num, trivial, by omega⟩
        case measure => simp [intOf]; omega
      | false =>
        rw [hS] at c0 hsucc
        have hs2 : cnt S (j + 1) = cnt S j := by simpa using hsucc
        clear hsucc h hS
        have HQ := Lib.hid hs2
        clear hs2
        go_wp2_with fail
        go_roundw
        case rel => exact ⟨j + 1, by go_num, by rw [HQ.out], trivial, by omega⟩
        case measure => simp [intOf]; omega
    · obtain rfl : j = 16 := by omega
      clear h
      go_wp2_with fail
      go_ret
      exact ⟨rfl, rfl⟩
theorem rtake_no (x : Nat) (S : Nat → Bool) (w : World) (h : RS w x S) (hS : ∀ k, k < 16 → S k = false) :
    Calls Try.prog 23 #[.pointer (some ⟨x, 0, none⟩)] w fun e w' => e = .returned (.tuple #[.int .i64 0, .bool false]) ∧ w = w' := by
  have l0 := Blk.lt h
  go_enter Try.func23, Try.ntmps23
  go_wp2_with fail
  go_loopw [4] (fun i wr => ∃ j : Nat, i = .int .i64 j ∧ w = wr ∧ j ≤ 16) (fun i _ => 16 - (intOf i).toNat)
  case atStart => exact ⟨0, rfl, rfl, by omega⟩
  case round =>
    obtain ⟨j, rfl, rfl, hj⟩ := hrel
    by_cases hlt : j < 16
    · have c0 := h.cell hlt
      rw [hS j hlt] at c0
      have i0 : (0 : Int) ≤ (j : Int) := by omega
      have i1 : (j : Int) < 16 := by omega
      clear h hS
      go_wp2_with fail
      go_roundw
      case rel => exact ⟨j + 1, by go_num, trivial, by omega⟩
      case measure => simp [intOf]; omega
    · obtain rfl : j = 16 := by omega
      clear h hS
      go_wp2_with fail
      go_ret2
      exact ⟨rfl, rfl⟩
theorem rtake_ok (x m : Nat) (S : Nat → Bool) (w : World) (h : RS w x S) (hm : m < 16) (h1 : S m = true) (h0 : ∀ k, k < m → S k = false) :
    Calls Try.prog 23 #[.pointer (some ⟨x, 0, none⟩)] w fun e w' => e = .returned (.tuple #[.int .i64 m, .bool true]) ∧ RS w' x (fun i => if i = m then false else S i) ∧ w.grownBy w' (some x) := by
  have l0 := Blk.lt h
  have HS := Lib.hid (h.set hm false)
  go_enter Try.func23, Try.ntmps23
  go_wp2_with fail
  go_loopw [4] (fun i wr => ∃ j : Nat, i = .int .i64 j ∧ w = wr ∧ j ≤ m) (fun i _ => 16 - (intOf i).toNat)
  case atStart => exact ⟨0, rfl, rfl, by omega⟩
  case round =>
    obtain ⟨j, rfl, rfl, hj⟩ := hrel
    have i0 : (0 : Int) ≤ (j : Int) := by omega
    have i1 : (j : Int) < 16 := by omega
    by_cases hlt : j < m
    · have c0 := h.cell (k := j) (by omega)
      rw [h0 j hlt] at c0
      clear h h0 h1
      go_wp2_with fail
      go_roundw
      case rel => exact ⟨j + 1, by go_num, trivial, by omega⟩
      case measure => simp [intOf]; omega
    · obtain rfl : j = m := by omega
      have c0 := h.cell hm
      rw [h1] at c0
      have f0 := Blk.frozen h j
      clear h h0 h1
      go_wp2_with fail
      go_ret2
      exact ⟨rfl, HS.out, only_setCell (only_refl _ _) (.inl rfl) _⟩
end Go.Proofs.Ytbmpocalapgmjab
