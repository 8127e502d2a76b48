/- The arguments of ModelPlays, opened. -/
import Derived.Test.YtbmpocalapgmjabOpen
import Derived.Test.YtbmpocalapgmjabWMPlays
namespace Go.Proofs.Ytbmpocalapgmjab.modelPlays
open Go.ChangeShapes Go.WideShapes Go.Deep Go.RowKit
set_option linter.unusedVariables false
section
variable {H : Type} {enc : TypeId × Value → H} {w : World}
theorem byte_back {z : Int} (h0 : 0 ≤ z) (h1 : z ≤ 255) : (((UInt8.ofNat z.toNat).toNat : Nat) : Int) = z := by
  rw [UInt8.toNat_ofNat']
  omega
theorem data_of {fuel n0 : Nat} {v : Value} {y : DataW H × List MemPlace} (h : DataW.trod enc Try.prog w 0 (fun _ => true) true fuel 24 [v] = some y) :
    ∃ (B : Option Addr) (n c : Nat) (d : List UInt8), v = .slice B n c ∧ n ≤ 9223372036854775807 ∧ (n = 32 → Data32 w B d) := by
  rcases open_ints Try.underlying24 Try.underlying5 (by kernel_rfl) h with ⟨hcs, _⟩ | ⟨a, len, cap, zs, hcs, _, hl, hm, hz, _, hcell, hwz⟩
  · injection hcs with hcs
    exact ⟨none, 0, 0, [], hcs, by omega, fun h => by omega⟩
  · injection hcs with hcs
    unfold maxLen at hm
    refine ⟨some a, len, cap, (zs.take 32).map (fun z => UInt8.ofNat z.toNat), hcs, by omega, fun h32 => ?_⟩
    have hz' : zs.length = cap := by simpa using hz
    obtain ⟨b, off, rfl, hlt⟩ := spot_none (hcell 0 (by omega)) rfl
    refine ⟨by simp; omega, b, off, rfl, hlt, fun j u hu => ?_⟩
    have hj : j < 32 := by
      have := (List.getElem?_eq_some_iff.1 hu).1
      simp at this; omega
    rw [List.getElem?_map, List.getElem?_take, if_pos hj, Option.map_eq_some_iff] at hu
    obtain ⟨z, hzj, rfl⟩ := hu
    have hc := hcell j (by omega)
    rw [add_plain] at hc
    have hw := bounds_u8 (hwz z (List.mem_of_getElem? hzj))
    rw [hc, byte_back hw.1 hw.2, List.getD_eq_getElem?_getD, hzj]
    rfl
theorem callRow_of {A : Option Addr} {len cap : Nat} {d : DataW H} {p : List MemPlace} (h : DataW.Trod enc Try.prog w 0 (fun _ => true) true 36 (.slice A len cap) d p) :
    CallRow w A len ∧ len ≤ 9223372036854775807 := by
  obtain ⟨fuel, hf⟩ := h
  rcases open_slice_fields Try.underlying36 Try.underlying30 (by kernel_rfl) (by kernel_rfl) hf with ⟨hcs, _⟩ | ⟨a, l, c, m, D, Pl, hcs, _, hl, hm, hmm, _, hi⟩
  · simp [Value.cells] at hcs
    obtain ⟨rfl, rfl, rfl⟩ := hcs
    exact ⟨.inl rfl, by omega⟩
  · simp [Value.cells] at hcs
    obtain ⟨rfl, rfl, rfl⟩ := hcs
    unfold maxLen at hm
    refine ⟨?_, by omega⟩
    by_cases h0 : len = 0
    · exact .inl h0
    · have hm' : m = cap := by simpa using hmm
      have hlt : ∃ b off, a = ⟨b, off, none⟩ ∧ b < w.heap.size := by
        obtain ⟨ys, n, _, _, _, hfj⟩ := hi 0 (by omega)
        obtain ⟨v, y, hc, _, _⟩ := hfj 0 _ rfl
        exact spot_none hc (by simp)
      obtain ⟨b, off, rfl, hb⟩ := hlt
      refine .inr ⟨b, off, rfl, hb, fun i hi' => ?_⟩
      obtain ⟨ys, n, _, _, _, hfj⟩ := hi i (by omega)
      obtain ⟨v0, y0, hc0, _, t0⟩ := hfj 0 _ rfl
      obtain ⟨v1, y1, hc1, _, t1⟩ := hfj 1 _ rfl
      obtain ⟨v2, y2, hc2, _, t2⟩ := hfj 2 _ rfl
      obtain ⟨k, hk, _, _⟩ := DataW.trod_int Try.underlying3 t0
      obtain ⟨l, hl', _, _⟩ := DataW.trod_int Try.underlying3 t1
      obtain ⟨B, nn, c, d', hv, hn, hd⟩ := data_of (n0 := 0) t2
      injection hk with hk
      injection hl' with hl'
      subst hk; subst hl'; subst hv
      rw [add_plain] at hc0 hc1 hc2
      exact ⟨k, l, B, nn, c, d', hc0, hc1, hc2, hn, hd⟩
theorem boolRow_of {A : Option Addr} {len cap : Nat} {d : DataW H} {p : List MemPlace} (h : DataW.Trod enc Try.prog w 0 (fun _ => true) true 37 (.slice A len cap) d p) :
    BoolRow w A len ∧ len ≤ 9223372036854775807 := by
  obtain ⟨fuel, hf⟩ := h
  rcases open_bools Try.underlying37 Try.underlying4 (by kernel_rfl) hf with ⟨hcs, _⟩ | ⟨a, l, c, B, hcs, _, hl, hm, _, hcell⟩
  · simp [Value.cells] at hcs
    obtain ⟨rfl, rfl, rfl⟩ := hcs
    exact ⟨.inl rfl, by omega⟩
  · simp [Value.cells] at hcs
    obtain ⟨rfl, rfl, rfl⟩ := hcs
    unfold maxLen at hm
    refine ⟨?_, by omega⟩
    by_cases h0 : len = 0
    · exact .inl h0
    · obtain ⟨b, off, rfl, hb⟩ := spot_none (hcell 0 (by omega)) rfl
      refine .inr ⟨b, off, rfl, hb, fun i hi => ?_⟩
      have hc := hcell i (by omega)
      rw [add_plain] at hc
      exact ⟨_, hc⟩
end
end Go.Proofs.Ytbmpocalapgmjab.modelPlays
