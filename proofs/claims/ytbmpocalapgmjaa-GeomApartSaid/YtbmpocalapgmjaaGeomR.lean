/- The contracts of the reference's places. -/
import Derived.Test.YtbmpocalapgmjaaGeom
namespace Go.Proofs.Ytbmpocalapgmjaa.geo
open Go.RowKit
set_option linter.unusedVariables false

theorem ret_int {k : IntKind} {a b : Int} (h : a = b) : Ending.returned (.int k a) = Ending.returned (.int k b) := by rw [h]
theorem one_yes (x : Int) (w : World) : Calls Try.prog 31 #[.bool true, .int .i64 x] w fun e w' => e = .returned (.int .i64 x) ∧ w = w' := by
  go_enter Try.func31, Try.ntmps31
  go_wp2
  go_ret
  exact ⟨rfl, rfl⟩
theorem one_no (x : Int) (w : World) : Calls Try.prog 31 #[.bool false, .int .i64 x] w fun e w' => e = .returned (.int .i64 (-1)) ∧ w = w' := by
  go_enter Try.func31, Try.ntmps31
  go_wp2
  go_ret
  exact ⟨rfl, rfl⟩
def SomeI (e : Ending) : Prop := ∃ x : Int, e = .returned (.int .i64 x)
theorem rarea_any (n : Int) (w : World) : Calls Try.prog 33 #[.int .i64 n] w fun e w' => SomeI e ∧ w = w' := by
  go_enter Try.func33, Try.ntmps33
  go_wp2
  go_ret
  exact ⟨⟨_, rfl⟩, rfl⟩
theorem rarea_ok (n : Int) (w : World) (h : V n) : Calls Try.prog 33 #[.int .i64 n] w fun e w' => e = .returned (.int .i64 (n * 64)) ∧ w = w' := by
  have hn : 4 ≤ n ∧ n ≤ 16 := by unfold V at h; omega
  have e0 : n * 32 + 2 * n * 16 = n * 64 := by omega
  have E0 := Lib.hid e0; clear e0 h
  go_enter Try.func33, Try.ntmps33
  go_wp2
  rw [E0.out]
  go_ret
  exact ⟨rfl, rfl⟩
theorem rdata_ok (n i : Int) (w : World) (h : V n) (h0 : 0 ≤ i) (h1 : i < n) :
    Calls Try.prog 19 #[.int .i64 n, .int .i64 i] w fun e w' => e = .returned (.int .i64 (i * 32)) ∧ w = w' := by
  have hn : 4 ≤ n ∧ n ≤ 16 := by unfold V at h; omega
  have H := Lib.hid h; clear h
  have d1 : decide (i < n) = true := by simpa using h1
  go_enter Try.func19, Try.ntmps19
  go_wp2_with fail
  refine (ris_yes n _ H.out).mono ?_
  rintro e w3 ⟨rfl, rfl⟩
  go_wp2_with fail
  refine (one_yes _ _).mono ?_
  rintro e w3 ⟨rfl, rfl⟩
  go_wp2_with fail
  go_ret
  exact ⟨rfl, rfl⟩
theorem rdata_no (n i : Int) (w : World) (h : ¬ (V n ∧ 0 ≤ i ∧ i < n)) :
    Calls Try.prog 19 #[.int .i64 n, .int .i64 i] w fun e w' => e = .returned (.int .i64 (-1)) ∧ w = w' := by
  by_cases c : V n
  · have H := Lib.hid c
    have hc : i < 0 ∨ (0 ≤ i ∧ n ≤ i) := by
      have hn : 4 ≤ n ∧ n ≤ 16 := by unfold V at c; omega
      by_cases d : 0 ≤ i ∧ i < n
      · exact absurd ⟨c, d⟩ h
      · omega
    clear h c
    rcases hc with h | ⟨h, h1⟩
    · go_enter Try.func19, Try.ntmps19
      go_wp2_with fail
      refine (ris_yes n _ H.out).mono ?_
      rintro e w3 ⟨rfl, rfl⟩
      go_wp2_with fail
      refine (one_no _ _).mono ?_
      rintro e w3 ⟨rfl, rfl⟩
      go_wp2_with fail
      go_ret
      exact ⟨rfl, rfl⟩
    · have d1 : decide (i < n) = false := by simpa using h1
      go_enter Try.func19, Try.ntmps19
      go_wp2_with fail
      refine (ris_yes n _ H.out).mono ?_
      rintro e w3 ⟨rfl, rfl⟩
      go_wp2_with fail
      refine (one_no _ _).mono ?_
      rintro e w3 ⟨rfl, rfl⟩
      go_wp2_with fail
      go_ret
      exact ⟨rfl, rfl⟩
  · have H := Lib.hid c
    clear h c
    go_enter Try.func19, Try.ntmps19
    go_wp2_with fail
    refine (ris_no n _ H.out).mono ?_
    rintro e w3 ⟨rfl, rfl⟩
    go_wp2_with fail
    refine (one_no _ _).mono ?_
    rintro e w3 ⟨rfl, rfl⟩
    go_wp2_with fail
    go_ret
    exact ⟨rfl, rfl⟩
theorem rleaf_ok (n a i : Int) (w : World) (h : V n) (h0 : 0 ≤ i) (h1 : i < n) (ha0 : 0 ≤ a) (ha1 : a < 2) :
    Calls Try.prog 21 #[.int .i64 n, .int .i64 a, .int .i64 i] w fun e w' => e = .returned (.int .i64 (n * 32 + a * (n * 64) + i * 32)) ∧ w = w' := by
  have hn : 4 ≤ n ∧ n ≤ 16 := by unfold V at h; omega
  have H := Lib.hid h; clear h
  have d1 : decide (i < n) = true := by simpa using h1
  rcases (by omega : a = 0 ∨ a = 1) with rfl | rfl
  all_goals
    go_enter Try.func21, Try.ntmps21
    go_wp2_with fail
    refine (ris_yes n _ H.out).mono ?_
    rintro e w3 ⟨rfl, rfl⟩
    go_wp2_with fail
    refine (rarea_ok n _ H.out).mono ?_
    rintro e w3 ⟨rfl, rfl⟩
    go_wp2_with fail
    refine (one_yes _ _).mono ?_
    rintro e w3 ⟨rfl, rfl⟩
    go_wp2_with fail
    go_ret
    exact ⟨ret_int (by omega), rfl⟩
theorem rleaf_no (n a i : Int) (w : World) (h : ¬ (V n ∧ (0 ≤ a ∧ a < 2) ∧ 0 ≤ i ∧ i < n)) :
    Calls Try.prog 21 #[.int .i64 n, .int .i64 a, .int .i64 i] w fun e w' => e = .returned (.int .i64 (-1)) ∧ w = w' := by
  by_cases c : V n
  · have H := Lib.hid c
    have hn : 4 ≤ n ∧ n ≤ 16 := by unfold V at c; omega
    by_cases ca : 0 ≤ a ∧ a < 2
    · have hc : i < 0 ∨ (0 ≤ i ∧ n ≤ i) := by
        by_cases d : 0 ≤ i ∧ i < n
        · exact absurd ⟨c, ca, d⟩ h
        · omega
      clear h c
      rcases hc with h | ⟨h, h1⟩
      · rcases (by omega : a = 0 ∨ a = 1) with rfl | rfl
        all_goals
        go_enter Try.func21, Try.ntmps21
        go_wp2_with fail
        refine (ris_yes n _ H.out).mono ?_
        rintro e w3 ⟨rfl, rfl⟩
        go_wp2_with fail
        refine (rarea_ok n _ H.out).mono ?_
        rintro e w3 ⟨rfl, rfl⟩
        go_wp2_with fail
        refine (one_no _ _).mono ?_
        rintro e w3 ⟨rfl, rfl⟩
        go_wp2_with fail
        go_ret
        exact ⟨rfl, rfl⟩
      · have d1 : decide (i < n) = false := by simpa using h1
        rcases (by omega : a = 0 ∨ a = 1) with rfl | rfl
        all_goals
        go_enter Try.func21, Try.ntmps21
        go_wp2_with fail
        refine (ris_yes n _ H.out).mono ?_
        rintro e w3 ⟨rfl, rfl⟩
        go_wp2_with fail
        refine (rarea_ok n _ H.out).mono ?_
        rintro e w3 ⟨rfl, rfl⟩
        go_wp2_with fail
        refine (one_no _ _).mono ?_
        rintro e w3 ⟨rfl, rfl⟩
        go_wp2_with fail
        go_ret
        exact ⟨rfl, rfl⟩
    · have a0 : (a == 0) = false := by simp; omega
      have a1 : (a == 1) = false := by simp; omega
      clear h c ca
      go_enter Try.func21, Try.ntmps21
      go_wp2_with fail
      refine (ris_yes n _ H.out).mono ?_
      rintro e w3 ⟨rfl, rfl⟩
      go_wp2_with fail
      refine (rarea_ok n _ H.out).mono ?_
      rintro e w3 ⟨rfl, rfl⟩
      go_wp2_with fail
      refine (one_no _ _).mono ?_
      rintro e w3 ⟨rfl, rfl⟩
      go_wp2_with fail
      go_ret
      exact ⟨rfl, rfl⟩
  · have H := Lib.hid c
    clear h c
    go_enter Try.func21, Try.ntmps21
    go_wp2_with fail
    refine (ris_no n _ H.out).mono ?_
    rintro e w3 ⟨rfl, rfl⟩
    go_wp2_with fail
    refine (rarea_any n _).mono ?_
    rintro e w3 ⟨⟨x, rfl⟩, rfl⟩
    go_wp2_with fail
    refine (one_no _ _).mono ?_
    rintro e w3 ⟨rfl, rfl⟩
    go_wp2_with fail
    go_ret
    exact ⟨rfl, rfl⟩
theorem rnode_ok (n a i : Int) (w : World) (h : V n) (h0 : 0 ≤ i) (h1 : i < 2 * n) (ha0 : 0 ≤ a) (ha1 : a < 2) :
    Calls Try.prog 23 #[.int .i64 n, .int .i64 a, .int .i64 i] w fun e w' => e = .returned (.int .i64 (n * 32 + a * (n * 64) + n * 32 + i * 16)) ∧ w = w' := by
  have hn : 4 ≤ n ∧ n ≤ 16 := by unfold V at h; omega
  have H := Lib.hid h; clear h
  have d1 : decide (i < 2 * n) = true := by simpa using h1
  rcases (by omega : a = 0 ∨ a = 1) with rfl | rfl
  all_goals
    go_enter Try.func23, Try.ntmps23
    go_wp2_with fail
    refine (ris_yes n _ H.out).mono ?_
    rintro e w3 ⟨rfl, rfl⟩
    go_wp2_with fail
    refine (rarea_ok n _ H.out).mono ?_
    rintro e w3 ⟨rfl, rfl⟩
    go_wp2_with fail
    refine (one_yes _ _).mono ?_
    rintro e w3 ⟨rfl, rfl⟩
    go_wp2_with fail
    go_ret
    exact ⟨ret_int (by omega), rfl⟩
theorem rnode_no (n a i : Int) (w : World) (h : ¬ (V n ∧ (0 ≤ a ∧ a < 2) ∧ 0 ≤ i ∧ i < 2 * n)) :
    Calls Try.prog 23 #[.int .i64 n, .int .i64 a, .int .i64 i] w fun e w' => e = .returned (.int .i64 (-1)) ∧ w = w' := by
  by_cases c : V n
  · have H := Lib.hid c
    have hn : 4 ≤ n ∧ n ≤ 16 := by unfold V at c; omega
    by_cases ca : 0 ≤ a ∧ a < 2
    · have hc : i < 0 ∨ (0 ≤ i ∧ 2 * n ≤ i) := by
        by_cases d : 0 ≤ i ∧ i < 2 * n
        · exact absurd ⟨c, ca, d⟩ h
        · omega
      clear h c
      rcases hc with h | ⟨h, h1⟩
      · rcases (by omega : a = 0 ∨ a = 1) with rfl | rfl
        all_goals
        go_enter Try.func23, Try.ntmps23
        go_wp2_with fail
        refine (ris_yes n _ H.out).mono ?_
        rintro e w3 ⟨rfl, rfl⟩
        go_wp2_with fail
        refine (rarea_ok n _ H.out).mono ?_
        rintro e w3 ⟨rfl, rfl⟩
        go_wp2_with fail
        refine (one_no _ _).mono ?_
        rintro e w3 ⟨rfl, rfl⟩
        go_wp2_with fail
        go_ret
        exact ⟨rfl, rfl⟩
      · have d1 : decide (i < 2 * n) = false := by simpa using h1
        rcases (by omega : a = 0 ∨ a = 1) with rfl | rfl
        all_goals
        go_enter Try.func23, Try.ntmps23
        go_wp2_with fail
        refine (ris_yes n _ H.out).mono ?_
        rintro e w3 ⟨rfl, rfl⟩
        go_wp2_with fail
        refine (rarea_ok n _ H.out).mono ?_
        rintro e w3 ⟨rfl, rfl⟩
        go_wp2_with fail
        refine (one_no _ _).mono ?_
        rintro e w3 ⟨rfl, rfl⟩
        go_wp2_with fail
        go_ret
        exact ⟨rfl, rfl⟩
    · have a0 : (a == 0) = false := by simp; omega
      have a1 : (a == 1) = false := by simp; omega
      clear h c ca
      go_enter Try.func23, Try.ntmps23
      go_wp2_with fail
      refine (ris_yes n _ H.out).mono ?_
      rintro e w3 ⟨rfl, rfl⟩
      go_wp2_with fail
      refine (rarea_ok n _ H.out).mono ?_
      rintro e w3 ⟨rfl, rfl⟩
      go_wp2_with fail
      refine (one_no _ _).mono ?_
      rintro e w3 ⟨rfl, rfl⟩
      go_wp2_with fail
      go_ret
      exact ⟨rfl, rfl⟩
  · have H := Lib.hid c
    clear h c
    go_enter Try.func23, Try.ntmps23
    go_wp2_with fail
    refine (ris_no n _ H.out).mono ?_
    rintro e w3 ⟨rfl, rfl⟩
    go_wp2_with fail
    refine (rarea_any n _).mono ?_
    rintro e w3 ⟨⟨x, rfl⟩, rfl⟩
    go_wp2_with fail
    refine (one_no _ _).mono ?_
    rintro e w3 ⟨rfl, rfl⟩
    go_wp2_with fail
    go_ret
    exact ⟨rfl, rfl⟩
theorem rrec_ok (n i : Int) (w : World) (h : V n) (h0 : 0 ≤ i) (h1 : i < 2) :
    Calls Try.prog 25 #[.int .i64 n, .int .i64 i] w fun e w' => e = .returned (.int .i64 (n * 32 + 2 * (n * 64) + i * 60)) ∧ w = w' := by
  have hn : 4 ≤ n ∧ n ≤ 16 := by unfold V at h; omega
  have H := Lib.hid h; clear h
  rcases (by omega : i = 0 ∨ i = 1) with rfl | rfl
  all_goals
    go_enter Try.func25, Try.ntmps25
    go_wp2_with fail
    refine (ris_yes n _ H.out).mono ?_
    rintro e w3 ⟨rfl, rfl⟩
    go_wp2_with fail
    refine (rarea_ok n _ H.out).mono ?_
    rintro e w3 ⟨rfl, rfl⟩
    go_wp2_with fail
    refine (one_yes _ _).mono ?_
    rintro e w3 ⟨rfl, rfl⟩
    go_wp2_with fail
    go_ret
    exact ⟨ret_int (by omega), rfl⟩
theorem rrec_no (n i : Int) (w : World) (hl : -9223372036854775808 ≤ i ∧ i ≤ 9223372036854775807) (h : ¬ (V n ∧ 0 ≤ i ∧ i < 2)) :
    Calls Try.prog 25 #[.int .i64 n, .int .i64 i] w fun e w' => e = .returned (.int .i64 (-1)) ∧ w = w' := by
  by_cases c : V n
  · have H := Lib.hid c
    have hn : 4 ≤ n ∧ n ≤ 16 := by unfold V at c; omega
    have ci : ¬ (0 ≤ i ∧ i < 2) := fun d => h ⟨c, d⟩
    have a0 : (i == 0) = false := by simp; omega
    have a1 : (i == 1) = false := by simp; omega
    clear h c ci
    go_enter Try.func25, Try.ntmps25
    go_wp2_with fail
    refine (ris_yes n _ H.out).mono ?_
    rintro e w3 ⟨rfl, rfl⟩
    go_wp2_with fail
    refine (rarea_ok n _ H.out).mono ?_
    rintro e w3 ⟨rfl, rfl⟩
    go_wp2_with fail
    refine (one_no _ _).mono ?_
    rintro e w3 ⟨rfl, rfl⟩
    go_wp2_with fail
    go_ret
    exact ⟨rfl, rfl⟩
  · have H := Lib.hid c
    clear h c
    go_enter Try.func25, Try.ntmps25
    go_wp2_with fail
    refine (ris_no n _ H.out).mono ?_
    rintro e w3 ⟨rfl, rfl⟩
    go_wp2_with fail
    refine (rarea_any n _).mono ?_
    rintro e w3 ⟨⟨x, rfl⟩, rfl⟩
    go_wp2_with fail
    refine (one_no _ _).mono ?_
    rintro e w3 ⟨rfl, rfl⟩
    go_wp2_with fail
    go_ret
    exact ⟨rfl, rfl⟩
theorem rsize_ok (n : Int) (w : World) (h : V n) :
    Calls Try.prog 27 #[.int .i64 n] w fun e w' => e = .returned (.int .i64 (n * 160 + 120)) ∧ w = w' := by
  have hn : 4 ≤ n ∧ n ≤ 16 := by unfold V at h; omega
  have H := Lib.hid h; clear h
  go_enter Try.func27, Try.ntmps27
  go_wp2_with fail
  refine (ris_yes n _ H.out).mono ?_
  rintro e w3 ⟨rfl, rfl⟩
  go_wp2_with fail
  refine (rarea_ok n _ H.out).mono ?_
  rintro e w3 ⟨rfl, rfl⟩
  go_wp2_with fail
  go_ret
  exact ⟨ret_int (by omega), rfl⟩
theorem rsize_no (n : Int) (w : World) (h : ¬ V n) :
    Calls Try.prog 27 #[.int .i64 n] w fun e w' => e = .returned (.int .i64 0) ∧ w = w' := by
  have H := Lib.hid h; clear h
  go_enter Try.func27, Try.ntmps27
  go_wp2_with fail
  refine (ris_no n _ H.out).mono ?_
  rintro e w3 ⟨rfl, rfl⟩
  go_wp2_with fail
  go_ret
  exact ⟨rfl, rfl⟩
theorem gknown_ok (w : World) : Calls Try.prog 28 #[] w fun e w' => e = .returned (.bool true) ∧ Below w.heap.size w w' := by
  have v4 : V 4 := .inl rfl
  have H := Lib.hid v4; clear v4
  have b1 : Blk (w.alloc (.cells #[.int .i64 4] 51)) w.heap.size 51 #[.int .i64 4] := Blk.new _ _ _
  have bel1 : Below w.heap.size w (w.alloc (.cells #[.int .i64 4] 51)) := (Below.refl _ _).alloc (Nat.le_refl _) _
  go_enter Try.func28, Try.ntmps28
  go_wp2_with fail
  refine (size_ok 4 _ H.out).mono ?_
  rintro e w2 ⟨rfl, hb2⟩
  have b2 := b1.below_ hb2
  have c2 : w2.cell? ⟨w.heap.size, 0, none⟩ = some (.int .i64 4) := b2.cell_ 0 rfl
  have l2 := b2.lt
  have bel2 : Below w.heap.size w w2 := bel1.trans (hb2.mono (by simp))
  go_wp2_with fail
  refine (data_ok 4 1 _ H.out (by omega) (by omega)).mono ?_
  rintro e w3 ⟨rfl, hb3⟩
  have b3 := b2.below_ hb3
  have c3 : w3.cell? ⟨w.heap.size, 0, none⟩ = some (.int .i64 4) := b3.cell_ 0 rfl
  have l3 := b3.lt
  have bel3 : Below w.heap.size w w3 := bel2.trans (hb3.mono (by omega))
  go_wp2_with fail
  refine (rec_no 4 2 _ (fun d => by omega)).mono ?_
  rintro e w4 ⟨rfl, hb4⟩
  have bel4 : Below w.heap.size w w4 := bel3.trans (hb4.mono (by omega))
  go_wp2_with fail
  refine (is_yes 4 _ H.out).mono ?_
  rintro e w5 ⟨rfl, rfl⟩
  go_wp2_with fail
  refine (is_no 6 _ (by unfold V; omega)).mono ?_
  rintro e w5 ⟨rfl, rfl⟩
  go_wp2_with fail
  go_ret
  exact ⟨rfl, bel4⟩
end Go.Proofs.Ytbmpocalapgmjaa.geo
