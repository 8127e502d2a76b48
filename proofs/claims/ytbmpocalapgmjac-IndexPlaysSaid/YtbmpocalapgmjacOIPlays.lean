/- The arguments of IndexPlays, opened. -/
import Derived.Test.YtbmpocalapgmjacOpen
import Derived.Test.YtbmpocalapgmjacWIPlays
namespace Go.Proofs.Ytbmpocalapgmjac.indexPlays
open Go.ChangeShapes Go.WideShapes Go.Deep Go.RowKit
set_option linter.unusedVariables false
variable {H : Type} {enc : TypeId × Value → H} {w : World}
theorem actRow_of {A : Option Addr} {len cap : Nat} {d : DataW H} {p : List MemPlace} (h : DataW.Trod enc Try.prog w 0 (fun _ => true) true 45 (.slice A len cap) d p) :
    ActRow w A len ∧ len ≤ 9223372036854775807 := by
  obtain ⟨fuel, hf⟩ := h
  rcases open_slice_fields Try.underlying45 Try.underlying51 (by kernel_rfl) (by kernel_rfl) hf with ⟨hcs, _⟩ | ⟨a, l, c, m, D, Pl, hcs, _, hl, hm, hmm, _, hi⟩
  · simp [Value.cells] at hcs
    obtain ⟨rfl, rfl, rfl⟩ := hcs
    exact ⟨.inl rfl, by omega⟩
  · simp [Value.cells] at hcs
    obtain ⟨rfl, rfl, rfl⟩ := hcs
    unfold maxLen at hm
    refine ⟨?_, by omega⟩
    by_cases h0 : len = 0
    · exact .inl h0
    · have hm' : m = cap := by simpa using hmm
      have hlt : ∃ b off, a = ⟨b, off, none⟩ ∧ b < w.heap.size := by
        obtain ⟨ys, n, _, _, _, hfj⟩ := hi 0 (by omega)
        obtain ⟨v, y, hc, _, _⟩ := hfj 0 _ rfl
        exact spot_none hc (by simp)
      obtain ⟨b, off, rfl, hb⟩ := hlt
      refine .inr ⟨b, off, rfl, hb, fun i hi' => ?_⟩
      obtain ⟨ys, n, _, _, _, hfj⟩ := hi i (by omega)
      obtain ⟨v0, y0, hc0, _, t0⟩ := hfj 0 _ rfl
      obtain ⟨v1, y1, hc1, _, t1⟩ := hfj 1 _ rfl
      obtain ⟨v2, y2, hc2, _, t2⟩ := hfj 2 _ rfl
      obtain ⟨k, hk, _, _⟩ := DataW.trod_int Try.underlying3 t0
      obtain ⟨l, hl', _, hwl⟩ := DataW.trod_int Try.underlying3 t1
      obtain ⟨s, hs', _, _⟩ := DataW.trod_int Try.underlying3 t2
      injection hk with hk
      injection hl' with hl'
      injection hs' with hs'
      subst hk; subst hl'; subst hs'
      rw [add_plain] at hc0 hc1 hc2
      exact ⟨k, l, s, hc0, hc1, hc2, hwl⟩
end Go.Proofs.Ytbmpocalapgmjac.indexPlays
