/- Do, the program's and the reference's, at whatever call: one contract for both. -/
import Derived.Test.YtbmpocalapgmjabMi
namespace Go.Proofs.Ytbmpocalapgmjab
open Go.RowKit
set_option linter.unusedVariables false
open Classical in
noncomputable def nN (k i : Int) (n : Nat) (d : List UInt8) (N : Nat → List UInt8) : Nat → List UInt8 :=
  if okc k i n then (if k = 2 then upd N i.toNat d else if k = 4 then upd N i.toNat zeros else N) else N
open Classical in
noncomputable def nL (k i : Int) (n : Nat) (N L : Nat → List UInt8) : Nat → List UInt8 :=
  if okc k i n then (if k = 3 ∨ k = 5 then N else L) else L
open Classical in
noncomputable def outV (k i : Int) (n : Nat) (N : Nat → List UInt8) : Option (List UInt8) := if okc k i n then (if k = 1 then some (N i.toNat) else none) else none
open Classical in
noncomputable def erV (k i : Int) (n : Nat) : Int := if okc k i n then 0 else 1
open Classical in
noncomputable def okB (k i : Int) (n : Nat) : Bool := if okc k i n then true else false
/-- what is told: nothing, or 32 bytes -/
def Out (w : World) (v : Value) (o : Option (List UInt8)) : Prop :=
  match o with
  | none => v = .slice none 0 0
  | some l => ∃ b c, v = .slice (some ⟨b, 0, none⟩) 32 c ∧ Has w v l
def DoPost (k i : Int) (n : Nat) (N : Nat → List UInt8) (e : Ending) (w' : World) : Prop :=
  ∃ v, e = .returned (.agg #[.int .i64 (erV k i n), v]) ∧ Out w' v (outV k i n N)
/-- the model's block -/
theorem MI.cs {w : World} {g : Nat} {N L : Nat → List UInt8} (h : MI w g N L) : ∃ cs, Blk w g 68 cs := by
  obtain ⟨vs, us, b, _⟩ := h; exact ⟨_, b⟩
theorem MI.blk {w : World} {g : Nat} {N L : Nat → List UInt8} (h : MI w g N L) : Blk w g 68 (Classical.choose h.cs) := Classical.choose_spec h.cs
theorem MI.len {w : World} {g : Nat} {N L : Nat → List UInt8} (h : MI w g N L) {i : Nat} (hi : i < 32) : (N i).length = 32 := by
  obtain ⟨vs, us, _, _, _, h3, _⟩ := h
  obtain ⟨v, _, hh⟩ := h3 i hi
  exact hh.1
theorem MI.lenL {w : World} {g : Nat} {N L : Nat → List UInt8} (h : MI w g N L) {i : Nat} (hi : i < 32) : (L i).length = 32 := by
  obtain ⟨vs, us, _, _, _, _, h3⟩ := h
  obtain ⟨v, _, hh⟩ := h3 i hi
  exact hh.1
theorem isany (k i : Int) (A : Option Addr) (n c : Nat) (w : World) :
    Calls Try.prog 15 #[.agg #[.int .i64 k, .int .i64 i, .slice A n c]] w fun e w' => e = .returned (.bool (okB k i n)) ∧ Below w.heap.size w w' := by
  by_cases h : okc k i n
  · rw [show okB k i n = true from if_pos h]; exact is_ok k i A n c w h
  · rw [show okB k i n = false from if_neg h]; exact is_no k i A n c w h
theorem risany (k i : Int) (A : Option Addr) (n c : Nat) (w : World) :
    Calls Try.prog 16 #[.agg #[.int .i64 k, .int .i64 i, .slice A n c]] w fun e w' => e = .returned (.bool (okB k i n)) ∧ Below w.heap.size w w' := by
  by_cases h : okc k i n
  · rw [show okB k i n = true from if_pos h]; exact ris_ok k i A n c w h
  · rw [show okB k i n = false from if_neg h]; exact ris_no k i A n c w h
theorem do_any (g : Nat) (k i : Int) (A : Option Addr) (n c : Nat) (d : List UInt8) (N L : Nat → List UInt8) (w : World) (h : MI w g N L) (hd : n = 32 → Data32 w A d) :
    Calls Try.prog 10 #[.pointer (some ⟨g, 0, none⟩), .agg #[.int .i64 k, .int .i64 i, .slice A n c]] w fun e w' => DoPost k i n N e w' ∧ MI w' g (nN k i n d N) (nL k i n N L) ∧ w.grownBy w' (some g) := by
  by_cases ho : okc k i n
  · have ee : erV k i n = 0 := if_pos ho
    have eN : nN k i n d N = if k = 2 then upd N i.toNat d else if k = 4 then upd N i.toNat zeros else N := if_pos ho
    have eL : nL k i n N L = if k = 3 ∨ k = 5 then N else L := if_pos ho
    have eO : outV k i n N = if k = 1 then some (N i.toNat) else none := if_pos ho
    unfold DoPost
    rw [ee, eN, eL, eO]
    rcases ho with ⟨hk, h0, h1⟩ | ⟨rfl, ⟨h0, h1⟩, rfl⟩ | hk
    · obtain ⟨j, rfl⟩ := Int.eq_ofNat_of_zero_le h0
      rw [Int.toNat_natCast]
      rcases hk with rfl | rfl
      · refine (do_read g j A n c N L w h (by omega)).mono fun e w' hh => ?_
        obtain ⟨a, rfl, hv, hb, _⟩ := hh
        exact ⟨⟨_, rfl, a, 32, rfl, hv⟩, h.below hb, only_of_below hb _⟩
      · refine (do_discard g j A n c N L w h (by omega)).mono fun e w' hh => ?_
        obtain ⟨rfl, hm, hg⟩ := hh
        exact ⟨⟨_, rfl, rfl⟩, hm, hg⟩
    · obtain ⟨j, rfl⟩ := Int.eq_ofNat_of_zero_le h0
      rw [Int.toNat_natCast]
      refine (do_write g j A c d N L w h (by omega) (hd rfl)).mono fun e w' hh => ?_
      obtain ⟨rfl, hm, hg⟩ := hh
      exact ⟨⟨_, rfl, rfl⟩, hm, hg⟩
    · rw [if_neg (by omega), if_neg (by omega), if_pos hk, if_neg (by omega)]
      refine (do_flush g k i A n c N L w h hk).mono fun e w' hh => ?_
      obtain ⟨rfl, hm, hg⟩ := hh
      exact ⟨⟨_, rfl, rfl⟩, hm, hg⟩
  · have ee : erV k i n = 1 := if_neg ho
    have eN : nN k i n d N = N := if_neg ho
    have eL : nL k i n N L = L := if_neg ho
    have eO : outV k i n N = none := if_neg ho
    unfold DoPost
    rw [ee, eN, eL, eO]
    refine (do_bad g k i A n c w ho _ (.inl rfl)).mono fun e w' hh => ?_
    obtain ⟨rfl, hb⟩ := hh
    exact ⟨⟨_, rfl, rfl⟩, h.below hb, only_of_below hb _⟩
theorem rdo_any (g : Nat) (k i : Int) (A : Option Addr) (n c : Nat) (d : List UInt8) (N L : Nat → List UInt8) (w : World) (h : RI w g N L) (hN : ∀ j, j < 32 → (N j).length = 32) (hd : n = 32 → Data32 w A d) :
    Calls Try.prog 17 #[.pointer (some ⟨g, 0, none⟩), .agg #[.int .i64 k, .int .i64 i, .slice A n c]] w fun e w' => DoPost k i n N e w' ∧ RI w' g (nN k i n d N) (nL k i n N L) ∧ w.grownBy w' (some g) := by
  by_cases ho : okc k i n
  · have ee : erV k i n = 0 := if_pos ho
    have eN : nN k i n d N = if k = 2 then upd N i.toNat d else if k = 4 then upd N i.toNat zeros else N := if_pos ho
    have eL : nL k i n N L = if k = 3 ∨ k = 5 then N else L := if_pos ho
    have eO : outV k i n N = if k = 1 then some (N i.toNat) else none := if_pos ho
    unfold DoPost
    rw [ee, eN, eL, eO]
    rcases ho with ⟨hk, h0, h1⟩ | ⟨rfl, ⟨h0, h1⟩, rfl⟩ | hk
    · obtain ⟨j, rfl⟩ := Int.eq_ofNat_of_zero_le h0
      rw [Int.toNat_natCast]
      rcases hk with rfl | rfl
      · refine (rdo_read g j A n c N L w h (by omega) (hN j (by omega))).mono fun e w' hh => ?_
        obtain ⟨a, c', rfl, hv, hb⟩ := hh
        exact ⟨⟨_, rfl, a, c', rfl, hv⟩, h.below hb, only_of_below hb _⟩
      · refine (rdo_discard g j A n c N L w h (by omega)).mono fun e w' hh => ?_
        obtain ⟨rfl, hm, hg⟩ := hh
        exact ⟨⟨_, rfl, rfl⟩, hm, hg⟩
    · obtain ⟨j, rfl⟩ := Int.eq_ofNat_of_zero_le h0
      rw [Int.toNat_natCast]
      refine (rdo_write g j A c d N L w h (by omega) (hd rfl)).mono fun e w' hh => ?_
      obtain ⟨rfl, hm, hg⟩ := hh
      exact ⟨⟨_, rfl, rfl⟩, hm, hg⟩
    · rw [if_neg (by omega), if_neg (by omega), if_pos hk, if_neg (by omega)]
      refine (rdo_flush g k i A n c N L w h hk).mono fun e w' hh => ?_
      obtain ⟨rfl, hm, hg⟩ := hh
      exact ⟨⟨_, rfl, rfl⟩, hm, hg⟩
  · have ee : erV k i n = 1 := if_neg ho
    have eN : nN k i n d N = N := if_neg ho
    have eL : nL k i n N L = L := if_neg ho
    have eO : outV k i n N = none := if_neg ho
    unfold DoPost
    rw [ee, eN, eL, eO]
    refine (rdo_bad g k i A n c w ho).mono fun e w' hh => ?_
    obtain ⟨rfl, hb⟩ := hh
    exact ⟨⟨_, rfl, rfl⟩, h.below hb, only_of_below hb _⟩
theorem Out.only {w w' : World} {v : Value} {o : Option (List UInt8)} {g t : Nat} {cs : Array Value} (h : Out w v o) (hg : w.grownBy w' (some g)) (hb : Blk w g t cs) (ht : t ≠ 5) : Out w' v o := by
  cases o with
  | none => exact h
  | some l =>
    obtain ⟨b, c, hv, hh⟩ := h
    exact ⟨b, c, hv, hh.only hg hb ht⟩
theorem same_any (v v' : Value) (e : Int) (o : Option (List UInt8)) (w : World) (h : Out w v o) (h' : Out w v' o) :
    Calls Try.prog 12 #[.agg #[.int .i64 e, v], .agg #[.int .i64 e, v']] w fun e w' => e = .returned (.bool true) ∧ Below w.heap.size w w' := by
  cases o with
  | none =>
    have e1 : v = .slice none 0 0 := h
    have e2 : v' = .slice none 0 0 := h'
    rw [e1, e2]
    exact same_none e w
  | some l =>
    obtain ⟨b, c, rfl, hh⟩ := h
    obtain ⟨b', c', rfl, hh'⟩ := h'
    exact same_data b c b' c' l e w hh hh'
end Go.Proofs.Ytbmpocalapgmjab
