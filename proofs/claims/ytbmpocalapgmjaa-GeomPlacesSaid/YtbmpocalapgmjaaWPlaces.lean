/- The walk of the law GeomPlaces. -/
import Derived.Test.YtbmpocalapgmjaaGeomR
namespace Go.Proofs.Ytbmpocalapgmjaa.geomPlaces
open Go.RowKit Go.Proofs.Ytbmpocalapgmjaa.geo
set_option linter.unusedVariables false
open Classical in
noncomputable def isV (n : Int) : Bool := if V n then true else false
open Classical in
noncomputable def datV (n i : Int) : Int := if V n ∧ 0 ≤ i ∧ i < n then i * 32 else -1
open Classical in
noncomputable def leafV (n a i : Int) : Int := if V n ∧ (0 ≤ a ∧ a < 2) ∧ 0 ≤ i ∧ i < n then n * 32 + a * (n * 64) + i * 32 else -1
open Classical in
noncomputable def nodeV (n a i : Int) : Int := if V n ∧ (0 ≤ a ∧ a < 2) ∧ 0 ≤ i ∧ i < 2 * n then n * 32 + a * (n * 64) + n * 32 + i * 16 else -1
open Classical in
noncomputable def recV (n i : Int) : Int := if V n ∧ 0 ≤ i ∧ i < 2 then n * 32 + 2 * (n * 64) + i * 60 else -1
open Classical in
noncomputable def sizeV (n : Int) : Int := if V n then n * 160 + 120 else 0
def I64 (n : Int) : Prop := -9223372036854775808 ≤ n ∧ n ≤ 9223372036854775807
theorem is_any (n : Int) (w : World) (hn : I64 n) : Calls Try.prog 16 #[.int .i64 n] w fun e w' => e = .returned (.bool (isV n)) ∧ w = w' := by
  by_cases c : V n
  · have e0 : isV n = _ := if_pos c
    rw [e0]
    exact is_yes n w c
  · have e0 : isV n = _ := if_neg c
    rw [e0]
    exact is_no n w c
theorem ris_any (n : Int) (w : World) (hn : I64 n) : Calls Try.prog 17 #[.int .i64 n] w fun e w' => e = .returned (.bool (isV n)) ∧ w = w' := by
  by_cases c : V n
  · have e0 : isV n = _ := if_pos c
    rw [e0]
    exact ris_yes n w c
  · have e0 : isV n = _ := if_neg c
    rw [e0]
    exact ris_no n w c
theorem data_any (n i : Int) (w : World) (hn : I64 n) (hi : I64 i) : Calls Try.prog 18 #[.agg #[.int .i64 n], .int .i64 i] w fun e w' => e = .returned (.int .i64 (datV n i)) ∧ Below w.heap.size w w' := by
  by_cases c : V n ∧ 0 ≤ i ∧ i < n
  · have e0 : datV n i = _ := if_pos c
    rw [e0]
    exact data_ok n i w c.1 c.2.1 c.2.2
  · have e0 : datV n i = _ := if_neg c
    rw [e0]
    exact data_no n i w c
theorem rdata_any (n i : Int) (w : World) (hn : I64 n) (hi : I64 i) : Calls Try.prog 19 #[.int .i64 n, .int .i64 i] w fun e w' => e = .returned (.int .i64 (datV n i)) ∧ w = w' := by
  by_cases c : V n ∧ 0 ≤ i ∧ i < n
  · have e0 : datV n i = _ := if_pos c
    rw [e0]
    exact rdata_ok n i w c.1 c.2.1 c.2.2
  · have e0 : datV n i = _ := if_neg c
    rw [e0]
    exact rdata_no n i w c
theorem leaf_any (n a i : Int) (w : World) (hn : I64 n) (ha : I64 a) (hi : I64 i) : Calls Try.prog 20 #[.agg #[.int .i64 n], .int .i64 a, .int .i64 i] w fun e w' => e = .returned (.int .i64 (leafV n a i)) ∧ Below w.heap.size w w' := by
  by_cases c : V n ∧ (0 ≤ a ∧ a < 2) ∧ 0 ≤ i ∧ i < n
  · have e0 : leafV n a i = _ := if_pos c
    rw [e0]
    exact leaf_ok n a i w c.1 c.2.2.1 c.2.2.2 c.2.1.1 c.2.1.2
  · have e0 : leafV n a i = _ := if_neg c
    rw [e0]
    exact leaf_no n a i w c
theorem rleaf_any (n a i : Int) (w : World) (hn : I64 n) (ha : I64 a) (hi : I64 i) : Calls Try.prog 21 #[.int .i64 n, .int .i64 a, .int .i64 i] w fun e w' => e = .returned (.int .i64 (leafV n a i)) ∧ w = w' := by
  by_cases c : V n ∧ (0 ≤ a ∧ a < 2) ∧ 0 ≤ i ∧ i < n
  · have e0 : leafV n a i = _ := if_pos c
    rw [e0]
    exact rleaf_ok n a i w c.1 c.2.2.1 c.2.2.2 c.2.1.1 c.2.1.2
  · have e0 : leafV n a i = _ := if_neg c
    rw [e0]
    exact rleaf_no n a i w c
theorem node_any (n a i : Int) (w : World) (hn : I64 n) (ha : I64 a) (hi : I64 i) : Calls Try.prog 22 #[.agg #[.int .i64 n], .int .i64 a, .int .i64 i] w fun e w' => e = .returned (.int .i64 (nodeV n a i)) ∧ Below w.heap.size w w' := by
  by_cases c : V n ∧ (0 ≤ a ∧ a < 2) ∧ 0 ≤ i ∧ i < 2 * n
  · have e0 : nodeV n a i = _ := if_pos c
    rw [e0]
    exact node_ok n a i w c.1 c.2.2.1 c.2.2.2 c.2.1.1 c.2.1.2
  · have e0 : nodeV n a i = _ := if_neg c
    rw [e0]
    exact node_no n a i w hn c
theorem rnode_any (n a i : Int) (w : World) (hn : I64 n) (ha : I64 a) (hi : I64 i) : Calls Try.prog 23 #[.int .i64 n, .int .i64 a, .int .i64 i] w fun e w' => e = .returned (.int .i64 (nodeV n a i)) ∧ w = w' := by
  by_cases c : V n ∧ (0 ≤ a ∧ a < 2) ∧ 0 ≤ i ∧ i < 2 * n
  · have e0 : nodeV n a i = _ := if_pos c
    rw [e0]
    exact rnode_ok n a i w c.1 c.2.2.1 c.2.2.2 c.2.1.1 c.2.1.2
  · have e0 : nodeV n a i = _ := if_neg c
    rw [e0]
    exact rnode_no n a i w c
theorem rec_any (n i : Int) (w : World) (hn : I64 n) (hi : I64 i) : Calls Try.prog 24 #[.agg #[.int .i64 n], .int .i64 i] w fun e w' => e = .returned (.int .i64 (recV n i)) ∧ Below w.heap.size w w' := by
  by_cases c : V n ∧ 0 ≤ i ∧ i < 2
  · have e0 : recV n i = _ := if_pos c
    rw [e0]
    exact rec_ok n i w c.1 c.2.1 c.2.2
  · have e0 : recV n i = _ := if_neg c
    rw [e0]
    exact rec_no n i w c
theorem rrec_any (n i : Int) (w : World) (hn : I64 n) (hi : I64 i) : Calls Try.prog 25 #[.int .i64 n, .int .i64 i] w fun e w' => e = .returned (.int .i64 (recV n i)) ∧ w = w' := by
  by_cases c : V n ∧ 0 ≤ i ∧ i < 2
  · have e0 : recV n i = _ := if_pos c
    rw [e0]
    exact rrec_ok n i w c.1 c.2.1 c.2.2
  · have e0 : recV n i = _ := if_neg c
    rw [e0]
    exact rrec_no n i w hi c
theorem size_any (n : Int) (w : World) (hn : I64 n) : Calls Try.prog 26 #[.agg #[.int .i64 n]] w fun e w' => e = .returned (.int .i64 (sizeV n)) ∧ Below w.heap.size w w' := by
  by_cases c : V n
  · have e0 : sizeV n = _ := if_pos c
    rw [e0]
    exact size_ok n w c
  · have e0 : sizeV n = _ := if_neg c
    rw [e0]
    exact size_no n w c
theorem rsize_any (n : Int) (w : World) (hn : I64 n) : Calls Try.prog 27 #[.int .i64 n] w fun e w' => e = .returned (.int .i64 (sizeV n)) ∧ w = w' := by
  by_cases c : V n
  · have e0 : sizeV n = _ := if_pos c
    rw [e0]
    exact rsize_ok n w c
  · have e0 : sizeV n = _ := if_neg c
    rw [e0]
    exact rsize_no n w c
theorem walk (a0 : Int) (a1 : Int) (a2 : Int) (w0 : (Lit.int .i64 a0).wf = true) (w1 : (Lit.int .i64 a1).wf = true) (w2 : (Lit.int .i64 a2).wf = true) (w : World) :
    Calls Try.prog 7 #[.int .i64 a0, .int .i64 a1, .int .i64 a2] w fun e w' => e = .returned (.bool true) ∧ Below w.heap.size w w' := by
  have b0 : I64 a0 := bounds_i64 w0
  have b1 : I64 a1 := bounds_i64 w1
  have b2 : I64 a2 := bounds_i64 w2
  clear w0 w1 w2
  have k1 : Blk (w.alloc (.cells #[.int .i64 a0] 51)) w.heap.size 51 #[.int .i64 a0] := Blk.new _ _ _
  have bel1 : Below w.heap.size w (w.alloc (.cells #[.int .i64 a0] 51)) := (Below.refl _ _).alloc (Nat.le_refl _) _
  go_enter Try.func7, Try.ntmps7
  go_wp2_with fail
  refine (is_any a0 _ b0).mono ?_
  rintro e w2 ⟨rfl, rfl⟩
  go_wp2_with fail
  refine (ris_any a0 _ b0).mono ?_
  rintro e w2 ⟨rfl, rfl⟩
  go_wp2_with fail
  refine (data_any a0 a2 _ b0 b2).mono ?_
  rintro e w2 ⟨rfl, hb2⟩
  have k2 := k1.below_ hb2
  have c2 : w2.cell? ⟨w.heap.size, 0, none⟩ = some (.int .i64 a0) := k2.cell_ 0 rfl
  have l2 := k2.lt
  have bel2 : Below w.heap.size w w2 := bel1.trans (hb2.mono (by first | omega | (simp; done) | (simp; omega)))
  go_wp2_with fail
  refine (rdata_any a0 a2 _ b0 b2).mono ?_
  rintro e w' ⟨rfl, rfl⟩
  go_wp2_with fail
  refine (leaf_any a0 a1 a2 _ b0 b1 b2).mono ?_
  rintro e w3 ⟨rfl, hb3⟩
  have k3 := k2.below_ hb3
  have c3 : w3.cell? ⟨w.heap.size, 0, none⟩ = some (.int .i64 a0) := k3.cell_ 0 rfl
  have l3 := k3.lt
  have bel3 : Below w.heap.size w w3 := bel2.trans (hb3.mono (by first | omega | (simp; done) | (simp; omega)))
  go_wp2_with fail
  refine (rleaf_any a0 a1 a2 _ b0 b1 b2).mono ?_
  rintro e w' ⟨rfl, rfl⟩
  go_wp2_with fail
  refine (node_any a0 a1 a2 _ b0 b1 b2).mono ?_
  rintro e w4 ⟨rfl, hb4⟩
  have k4 := k3.below_ hb4
  have c4 : w4.cell? ⟨w.heap.size, 0, none⟩ = some (.int .i64 a0) := k4.cell_ 0 rfl
  have l4 := k4.lt
  have bel4 : Below w.heap.size w w4 := bel3.trans (hb4.mono (by first | omega | (simp; done) | (simp; omega)))
  go_wp2_with fail
  refine (rnode_any a0 a1 a2 _ b0 b1 b2).mono ?_
  rintro e w' ⟨rfl, rfl⟩
  go_wp2_with fail
  refine (rec_any a0 a2 _ b0 b2).mono ?_
  rintro e w5 ⟨rfl, hb5⟩
  have k5 := k4.below_ hb5
  have c5 : w5.cell? ⟨w.heap.size, 0, none⟩ = some (.int .i64 a0) := k5.cell_ 0 rfl
  have l5 := k5.lt
  have bel5 : Below w.heap.size w w5 := bel4.trans (hb5.mono (by first | omega | (simp; done) | (simp; omega)))
  go_wp2_with fail
  refine (rrec_any a0 a2 _ b0 b2).mono ?_
  rintro e w' ⟨rfl, rfl⟩
  go_wp2_with fail
  refine (size_any a0 _ b0).mono ?_
  rintro e w6 ⟨rfl, hb6⟩
  have k6 := k5.below_ hb6
  have c6 : w6.cell? ⟨w.heap.size, 0, none⟩ = some (.int .i64 a0) := k6.cell_ 0 rfl
  have l6 := k6.lt
  have bel6 : Below w.heap.size w w6 := bel5.trans (hb6.mono (by first | omega | (simp; done) | (simp; omega)))
  go_wp2_with fail
  refine (rsize_any a0 _ b0).mono ?_
  rintro e w' ⟨rfl, rfl⟩
  go_wp2_with fail
  refine (gknown_ok _).mono ?_
  rintro e w8 ⟨rfl, hb8⟩
  go_wp2_with fail
  go_ret
  exact ⟨rfl, bel6.trans (hb8.mono (by omega))⟩
end Go.Proofs.Ytbmpocalapgmjaa.geomPlaces
