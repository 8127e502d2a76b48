/- Index: its map as a table of 32 numbers, and New, Get, Len, Del by contract. -/
import Derived.Test.YtbmpocalapgmjacKit
import Derived.Maps.OwnSet
import Derived.Maps.OwnOps
import Derived.Maps.RangeWalk
import Derived.BigRegion
import Derived.Lib.SlKeysI
namespace Go.Proofs.Ytbmpocalapgmjac.index
open Go.RowKit Go.Maps
set_option linter.unusedVariables false
abbrev ik (x : Int) : Lit := .int .i64 x
/-- S: of each block its slot and one; nought: it has none -/
def IX (D : DataW Unit) (S : Nat → Int) : Prop :=
  IsMap D ∧ (∀ x : Int, has D (ik x) = decide (0 ≤ x ∧ x < 32 ∧ S x.toNat ≠ 0)) ∧ ∀ x : Nat, x < 32 → S x ≠ 0 → ∀ zd, D.atKey (ik x) zd = .lit (.int .i64 (S x - 1))
def upS (S : Nat → Int) (k : Nat) (v : Int) : Nat → Int := fun i => if i = k then v else S i
theorem isKey (x : Int) : WideAt.IsKeyLit (ik x) := by simp [WideAt.IsKeyLit]
theorem IX.start : IX (.map []) (fun _ => 0) := ⟨isMap_empty, fun x => by simp [has], fun x _ h => absurd rfl h⟩
theorem IX.put {D : DataW Unit} {S : Nat → Int} (h : IX D S) {k : Nat} (hk : k < 32) {v : Int} (hv : 0 ≤ v) : IX (D.put (ik k) (.lit (.int .i64 v))) (upS S k (v + 1)) := by
  obtain ⟨h1, h2, h3⟩ := h
  refine ⟨h1.put _ _, fun x => ?_, fun x hx hs zd => ?_⟩
  · by_cases e : x = (k : Int)
    · subst e
      rw [has_put_same h1 (isKey _)]
      symm
      simp only [decide_eq_true_eq]
      refine ⟨by omega, by omega, ?_⟩
      simp [upS]; omega
    · rw [has_put_other (fun c => e (by injection c)), h2]
      by_cases hr : 0 ≤ x ∧ x < 32
      · have : x.toNat ≠ k := by omega
        simp [upS, this]
      · have a : ¬ (0 ≤ x ∧ x < 32 ∧ S x.toNat ≠ 0) := fun c => hr ⟨c.1, c.2.1⟩
        have b : ¬ (0 ≤ x ∧ x < 32 ∧ upS S k (v + 1) x.toNat ≠ 0) := fun c => hr ⟨c.1, c.2.1⟩
        rw [decide_eq_false a, decide_eq_false b]
  · by_cases e : x = k
    · subst e
      rw [atKey_put_same h1 (isKey _)]
      simp [upS]
    · rw [atKey_put_other (fun c => e (by injection c with c; omega))]
      have : upS S k (v + 1) x = S x := by simp [upS, e]
      rw [this] at hs ⊢
      exact h3 x hx hs zd
theorem IX.del {D : DataW Unit} {S : Nat → Int} (h : IX D S) {k : Nat} (hk : k < 32) : IX (D.del (ik k)) (upS S k 0) := by
  obtain ⟨h1, h2, h3⟩ := h
  refine ⟨h1.del _, fun x => ?_, fun x hx hs zd => ?_⟩
  · by_cases e : x = (k : Int)
    · subst e
      rw [has_del_same]
      symm
      simp [upS]
    · rw [has_del_other (fun c => e (by injection c)), h2]
      by_cases hr : 0 ≤ x ∧ x < 32
      · have : x.toNat ≠ k := by omega
        simp [upS, this]
      · have a : ¬ (0 ≤ x ∧ x < 32 ∧ S x.toNat ≠ 0) := fun c => hr ⟨c.1, c.2.1⟩
        have b : ¬ (0 ≤ x ∧ x < 32 ∧ upS S k 0 x.toNat ≠ 0) := fun c => hr ⟨c.1, c.2.1⟩
        rw [decide_eq_false a, decide_eq_false b]
  · by_cases e : x = k
    · subst e
      exact absurd (by simp [upS]) hs
    · rw [atKey_del_other (fun c => e (by injection c with c; omega))]
      have : upS S k 0 x = S x := by simp [upS, e]
      rw [this] at hs ⊢
      exact h3 x hx hs zd
end Go.Proofs.Ytbmpocalapgmjac.index
