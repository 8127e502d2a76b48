/- What a write to the model leaves of bytes elsewhere; one byte among noughts. -/
import Derived.Test.YtbmpocalapgmjabMKnown
namespace Go.Proofs.Ytbmpocalapgmjab
open Go.RowKit
set_option linter.unusedVariables false
theorem Has.mi {w w' : World} {v : Value} {l : List UInt8} {g : Nat} {N L : Nat → List UInt8} (h : Has w v l) (hm : MI w g N L) (hg : w.grownBy w' (some g)) : Has w' v l := by
  obtain ⟨vs, us, hb, _⟩ := hm
  exact h.only hg hb (by decide)
theorem Has.data {w : World} {b c : Nat} {l : List UInt8} (h : Has w (.slice (some ⟨b, 0, none⟩) 32 c) l) : Data32 w (some ⟨b, 0, none⟩) l := by
  obtain ⟨hl, h⟩ := h
  rcases h with ⟨h, _⟩ | ⟨b', c', cs, fr, hv, hb, hc⟩
  · injection h with h; cases h
  · injection hv with h1 h2 h3
    injection h1 with h1
    injection h1 with h1
    subst h1
    exact ⟨hl, b, 0, rfl, heap_lt hb, fun j u hu => by rw [Nat.zero_add, cell_of_row w b j cs 5 fr hb]; exact hc j u hu⟩
/-- noughts, but for one byte -/
def one (i : Nat) (d : Int) : List UInt8 := zeros.set i (UInt8.ofNat d.toNat)
theorem one_cells (i : Nat) (d : Int) (h0 : 0 ≤ d) (h1 : d ≤ 255) : (bcells zeros).setIfInBounds i (.int .u8 d) = bcells (one i d) := by
  unfold bcells one
  rw [List.setIfInBounds_toArray, List.map_set]
  congr 3
  have e : (UInt8.ofNat d.toNat).toNat = d.toNat := by
    rw [UInt8.toNat_ofNat']
    omega
  rw [e]
  congr 1
  omega
end Go.Proofs.Ytbmpocalapgmjab
