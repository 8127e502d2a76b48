/- The walk of the law GeomApart: one theorem for each number of slots (printed by a program of this claim's own, gen_apart.py). -/
import Derived.Test.YtbmpocalapgmjaaMark
namespace Go.Proofs.Ytbmpocalapgmjaa.geomApart
open Go.RowKit Go.Proofs.Ytbmpocalapgmjaa.geo
set_option linter.unusedVariables false
/-- what is marked: all below A, and r bytes from R on -/
def cov (A R r : Nat) : Nat → Int := fun x => if x < A ∨ (R ≤ x ∧ x < R + r) then 1 else 0
theorem cov_bd (A R r : Nat) : ∀ x, 0 ≤ cov A R r x ∧ cov A R r x ≤ 1000 := by
  intro x; unfold cov; split <;> omega
theorem cov_front (A R r l : Nat) (h : A + l ≤ R) : bump (cov A R r) A l = cov (A + l) R r := by
  funext x
  unfold bump cov
  by_cases c : A ≤ x ∧ x < A + l
  · rw [if_pos c, if_neg (by omega), if_pos (by omega)]; rfl
  · rw [if_neg c]
    by_cases d : x < A ∨ (R ≤ x ∧ x < R + r)
    · rw [if_pos d, if_pos (by omega)]
    · rw [if_neg d, if_neg (by omega)]
theorem cov_back (A R r l : Nat) (h : A ≤ R) : bump (cov A R r) (R + r) l = cov A R (r + l) := by
  funext x
  unfold bump cov
  by_cases c : R + r ≤ x ∧ x < R + r + l
  · rw [if_pos c, if_neg (by omega), if_pos (by omega)]; rfl
  · rw [if_neg c]
    by_cases d : x < A ∨ (R ≤ x ∧ x < R + r)
    · rw [if_pos d, if_pos (by omega)]
    · rw [if_neg d, if_neg (by omega)]
theorem front_ok (g S A R r l : Nat) (at_ : Int) (hat : at_ = A) (w : World) (hB : Blk w g 3 (rowA S (cov A R r))) (hS : S ≤ 100000) (hl : l ≤ 100) (ha : A + l ≤ R) (hR : R ≤ S) :
    Calls Try.prog 29 #[.slice (some ⟨g, 0, none⟩) S S, .int .i64 at_, .int .i64 l] w fun e w' => e = .returned (.bool true) ∧ w.grownBy w' (some g) ∧ Blk w' g 3 (rowA S (cov (A + l) R r)) := by
  subst hat
  have h := mark_ok g S A l (cov A R r) w hB (cov_bd A R r) hS hl (by omega)
  rw [cov_front A R r l ha] at h
  exact h
theorem back_ok (g S A R r l : Nat) (at_ : Int) (hat : at_ = ((R + r : Nat) : Int)) (w : World) (hB : Blk w g 3 (rowA S (cov A R r))) (hS : S ≤ 100000) (hl : l ≤ 100) (ha : A ≤ R) (hR : R + r + l ≤ S) :
    Calls Try.prog 29 #[.slice (some ⟨g, 0, none⟩) S S, .int .i64 at_, .int .i64 l] w fun e w' => e = .returned (.bool true) ∧ w.grownBy w' (some g) ∧ Blk w' g 3 (rowA S (cov A R (r + l))) := by
  subst hat
  have h := mark_ok g S (R + r) l (cov A R r) w hB (cov_bd A R r) hS hl (by omega)
  rw [cov_back A R r l ha] at h
  exact h
theorem info3 : (Try.prog.info? 3).map (fun i => (i.zero, i.size, i.bytes)) = some (some (.int .i64 0), 1, 8) := by kernel_rfl
theorem made (S : Nat) : madeCells (Value.int .i64 0).cells (S * 1) = rowA S (cov 0 S 0) := by
  apply Array.ext
  · simp [madeCells, rowA]
  · intro i h1 h2
    have hi : i < S := by simpa [madeCells] using h1
    have e : cov 0 S 0 i = 0 := by unfold cov; rw [if_neg (by omega)]
    simp [madeCells, rowA, Value.cells, e, Nat.mod_one]
theorem make_ok (S : Nat) (hS : S ≤ 100000) (w : World) : (Instr.makeSlice 24 (.int .i64 (S : Int)) (.int .i64 (S : Int))).run Try.prog w = .ok (.slice (some ⟨w.heap.size, 0, none⟩) S S) (w.alloc (.cells (rowA S (cov 0 S 0)) 3)) := by
  obtain ⟨i0, hi, hz0, hz1, hz2⟩ := info_parts info3
  have h := run_make (P := Try.prog) w 24 3 i0 (.int .i64 0) Try.underlying24 hi hz0 .i64 .i64 S S (by omega) (by omega) (by rw [hz2]; omega) (by omega)
  rw [hz1] at h
  simp only [Int.toNat_natCast] at h
  rw [made] at h
  exact h

set_option maxRecDepth 100000 in
set_option maxHeartbeats 1000000 in
theorem walk2 (w : World) : Calls Try.prog 8 #[.int .i64 2] w fun e w' => e = .returned (.bool true) ∧ Below w.heap.size w w' := by
  have v : V 4 := by unfold V; omega
  have H := Lib.hid v; clear v
  have g1 : Blk (w.alloc (.cells #[.int .i64 4] 51)) w.heap.size 51 #[.int .i64 4] := Blk.new _ _ _
  have bel1 : Below w.heap.size w (w.alloc (.cells #[.int .i64 4] 51)) := (Below.refl _ _).alloc (Nat.le_refl _) _
  have hmk : ∀ w : World, (Instr.makeSlice 24 (.int .i64 760) (.int .i64 760)).run Try.prog w = .ok (.slice (some ⟨w.heap.size, 0, none⟩) 760 760) (w.alloc (.cells (rowA 760 (cov 0 760 0)) 3)) := fun w => make_ok 760 (by omega) w
  go_enter Try.func8, Try.ntmps8
  go_wp2_with fail
  refine (size_ok 4 _ H.out).mono ?_
  rintro e w2 ⟨rfl, hb2⟩
  have g2 := g1.below_ hb2
  have c2 : w2.cell? ⟨w.heap.size, 0, none⟩ = some (.int .i64 4) := g2.cell_ 0 rfl
  have l2 := g2.lt
  have bel2 : Below w.heap.size w w2 := bel1.trans (hb2.mono (by simp))
  go_wp2_with fail
  refine (size_ok 4 _ H.out).mono ?_
  rintro e w3 ⟨rfl, hb3⟩
  have g3 := g2.below_ hb3
  have c3 : w3.cell? ⟨w.heap.size, 0, none⟩ = some (.int .i64 4) := g3.cell_ 0 rfl
  have l3 := g3.lt
  have bel3 : Below w.heap.size w w3 := bel2.trans (hb3.mono (by omega))
  go_wp2_with fail
  refine (size_ok 4 _ H.out).mono ?_
  rintro e w4 ⟨rfl, hb4⟩
  have g4 := g3.below_ hb4
  have c4 : w4.cell? ⟨w.heap.size, 0, none⟩ = some (.int .i64 4) := g4.cell_ 0 rfl
  have l4 := g4.lt
  have bel4 : Below w.heap.size w w4 := bel3.trans (hb4.mono (by omega))
  have e4 : rowA 760 (cov 0 760 0) = rowA 760 (cov 0 640 0) := rowA_congr (fun x hx => by unfold cov; rw [if_neg (by omega), if_neg (by omega)])
  have m4 : Blk (w4.alloc (.cells (rowA 760 (cov 0 760 0)) 3)) w4.heap.size 3 (rowA 760 (cov 0 640 0)) := by rw [e4]; exact Blk.new _ _ _
  have E4 := Lib.hid e4; clear e4
  go_wp2_with fail
  go_loopw [6, 7] (fun ok i wr => ∃ k : Nat, k ≤ 4 ∧ ok = .bool true ∧ i = .int .i64 k ∧ Blk wr w.heap.size 51 #[.int .i64 4] ∧ Blk wr w4.heap.size 3 (rowA 760 (cov (32 * k) 640 0)) ∧ Below w.heap.size w wr) (fun _ i _ => 4 - (intOf i).toNat)
  case atStart => exact ⟨0, by omega, rfl, rfl, g4.alloc _, m4, bel4.alloc (by omega) _⟩
  case round =>
    obtain ⟨k, hk, rfl, rfl, gr, mr, bel⟩ := hrel
    have cr : wr.cell? ⟨w.heap.size, 0, none⟩ = some (.int .i64 4) := gr.cell_ 0 rfl
    by_cases hlt : k < 4
    · go_wp2_with fail
      refine (data_ok 4 k _ H.out (by omega) (by omega)).mono ?_
      rintro e w5 ⟨rfl, hb5⟩
      have g5 := gr.below_ hb5
      have m5 := mr.below_ hb5
      have bel5 : Below w.heap.size w w5 := bel.trans (hb5.mono bel.size)
      go_wp2_with fail
      refine (front_ok w4.heap.size 760 (32 * k) 640 0 32 _ (by omega) _ m5 (by omega) (by omega) (by omega) (by omega)).mono ?_
      rintro e w6 ⟨rfl, hg6, m6⟩
      have g6 := g5.grown hg6 (by simp; omega)
      have bel6 := below_only bel5 hg6 bel5.size (by omega)
      go_wp2_with fail
      go_roundw
      case rel => exact ⟨k + 1, by omega, rfl, by go_num, g6, by rw [show 32 * (k + 1) = 32 * k + 32 from by omega]; exact m6, bel6⟩
      case measure => simp [intOf]; omega
    · have e : k = 4 := by omega
      have mr' : Blk wr w4.heap.size 3 (rowA 760 (cov 128 640 0)) := by rw [e] at mr; exact mr
      clear e mr
      obtain ⟨wo, hwo⟩ : ∃ wo : World, wo = wr := ⟨_, rfl⟩
      subst hwo
      go_wp2_with fail
      go_loopw [6, 8] (fun ok i wr => ∃ a : Nat, a ≤ 2 ∧ ok = .bool true ∧ i = .int .i64 a ∧ Blk wr w.heap.size 51 #[.int .i64 4] ∧ Blk wr w4.heap.size 3 (rowA 760 (cov (128 + 256 * a) 640 (60 * a))) ∧ Below w.heap.size w wr) (fun _ i _ => 2 - (intOf i).toNat)
      case atStart => exact ⟨0, by omega, rfl, rfl, gr, mr', bel⟩
      case round =>
        obtain ⟨a, ha, rfl, rfl, gr, mr, bel⟩ := hrel
        have cr : wr.cell? ⟨w.heap.size, 0, none⟩ = some (.int .i64 4) := gr.cell_ 0 rfl
        by_cases hlta : a < 2
        · have hda : decide ((a : Int) < 2) = true := by simp; omega
          obtain ⟨w7, hw7⟩ : ∃ w7 : World, w7 = wr := ⟨_, rfl⟩
          subst hw7
          go_wp2_with fail
          go_loopw [6, 9] (fun ok i wr => ∃ k : Nat, k ≤ 4 ∧ ok = .bool true ∧ i = .int .i64 k ∧ Blk wr w.heap.size 51 #[.int .i64 4] ∧ Blk wr w4.heap.size 3 (rowA 760 (cov (128 + 256 * a + 32 * k) 640 (60 * a))) ∧ Below w.heap.size w wr) (fun _ i _ => 4 - (intOf i).toNat)
          case atStart => exact ⟨0, by omega, rfl, rfl, gr, mr, bel⟩
          case round =>
            obtain ⟨k, hk, rfl, rfl, gr, mr, bel⟩ := hrel
            have cr : wr.cell? ⟨w.heap.size, 0, none⟩ = some (.int .i64 4) := gr.cell_ 0 rfl
            by_cases hlt : k < 4
            · go_wp2_with fail
              refine (leaf_ok 4 a k _ H.out (by omega) (by omega) (by omega) (by omega)).mono ?_
              rintro e w5 ⟨rfl, hb5⟩
              have g5 := gr.below_ hb5
              have m5 := mr.below_ hb5
              have bel5 : Below w.heap.size w w5 := bel.trans (hb5.mono bel.size)
              go_wp2_with fail
              refine (front_ok w4.heap.size 760 (128 + 256 * a + 32 * k) 640 (60 * a) 32 _ (by omega) _ m5 (by omega) (by omega) (by omega) (by omega)).mono ?_
              rintro e w6 ⟨rfl, hg6, m6⟩
              have g6 := g5.grown hg6 (by simp; omega)
              have bel6 := below_only bel5 hg6 bel5.size (by omega)
              go_wp2_with fail
              go_roundw
              case rel => exact ⟨k + 1, by omega, rfl, by go_num, g6, by rw [show 128 + 256 * a + 32 * (k + 1) = 128 + 256 * a + 32 * k + 32 from by omega]; exact m6, bel6⟩
              case measure => simp [intOf]; omega
            · have hdk : decide ((k : Int) < 4) = false := by simp; omega
              have mr' : Blk wr w4.heap.size 3 (rowA 760 (cov (256 + 256 * a) 640 (60 * a))) := by
                rw [show 128 + 256 * a + 32 * k = 256 + 256 * a from by omega] at mr
                exact mr
              clear mr
              obtain ⟨w8, hw8⟩ : ∃ w8 : World, w8 = wr := ⟨_, rfl⟩
              subst hw8
              go_wp2_with fail
              go_loopw [6, 10] (fun ok i wr => ∃ j : Nat, j ≤ 8 ∧ ok = .bool true ∧ i = .int .i64 j ∧ Blk wr w.heap.size 51 #[.int .i64 4] ∧ Blk wr w4.heap.size 3 (rowA 760 (cov (256 + 256 * a + 16 * j) 640 (60 * a))) ∧ Below w.heap.size w wr) (fun _ i _ => 8 - (intOf i).toNat)
              case atStart => exact ⟨0, by omega, rfl, rfl, gr, mr', bel⟩
              case round =>
                obtain ⟨j, hj, rfl, rfl, gr, mr, bel⟩ := hrel
                have cr : wr.cell? ⟨w.heap.size, 0, none⟩ = some (.int .i64 4) := gr.cell_ 0 rfl
                by_cases hltj : j < 8
                · go_wp2_with fail
                  refine (node_ok 4 a j _ H.out (by omega) (by omega) (by omega) (by omega)).mono ?_
                  rintro e w5 ⟨rfl, hb5⟩
                  have g5 := gr.below_ hb5
                  have m5 := mr.below_ hb5
                  have bel5 : Below w.heap.size w w5 := bel.trans (hb5.mono bel.size)
                  go_wp2_with fail
                  refine (front_ok w4.heap.size 760 (256 + 256 * a + 16 * j) 640 (60 * a) 16 _ (by omega) _ m5 (by omega) (by omega) (by omega) (by omega)).mono ?_
                  rintro e w6 ⟨rfl, hg6, m6⟩
                  have g6 := g5.grown hg6 (by simp; omega)
                  have bel6 := below_only bel5 hg6 bel5.size (by omega)
                  go_wp2_with fail
                  go_roundw
                  case rel => exact ⟨j + 1, by omega, rfl, by go_num, g6, by rw [show 256 + 256 * a + 16 * (j + 1) = 256 + 256 * a + 16 * j + 16 from by omega]; exact m6, bel6⟩
                  case measure => simp [intOf]; omega
                · go_wp2_with fail
                  refine (rec_ok 4 a _ H.out (by omega) (by omega)).mono ?_
                  rintro e w5 ⟨rfl, hb5⟩
                  have g5 := gr.below_ hb5
                  have m5 := mr.below_ hb5
                  have bel5 : Below w.heap.size w w5 := bel.trans (hb5.mono bel.size)
                  go_wp2_with fail
                  refine (back_ok w4.heap.size 760 (256 + 256 * a + 16 * j) 640 (60 * a) 60 _ (by omega) _ m5 (by omega) (by omega) (by omega) (by omega)).mono ?_
                  rintro e w6 ⟨rfl, hg6, m6⟩
                  have g6 := g5.grown hg6 (by simp; omega)
                  have bel6 := below_only bel5 hg6 bel5.size (by omega)
                  go_wp2_with fail
                  refine ⟨⟨a + 1, by omega, rfl, by go_num, g6, by rw [show 128 + 256 * (a + 1) = 256 + 256 * a + 16 * j from by omega, show 60 * (a + 1) = 60 * a + 60 from by omega]; exact m6, bel6⟩, ?_⟩
                  simp [intOf]; omega
        · have mf : ∀ x, x < 760 → wr.cell? ⟨w4.heap.size, x, none⟩ = some (.int .i64 1) := by
            intro x hx
            rw [mr.cell, rowA_at _ _ _ hx]
            unfold cov
            rw [if_pos (by omega)]
          go_wp2_with fail
          go_loop [6, 11] (fun ok i => ∃ k : Nat, k ≤ 760 ∧ ok = .bool true ∧ i = .int .i64 k) (fun _ i => 760 - (intOf i).toNat)
          case atStart => exact ⟨0, by omega, rfl, rfl⟩
          case round =>
            obtain ⟨k, hk, rfl, rfl⟩ := hrel
            by_cases hlt : k < 760
            · have cx := mf k hlt
              clear mf
              go_wp2_with fail
              go_round
              case rel => exact ⟨k + 1, by omega, rfl, by go_num⟩
              case measure => simp [intOf]; omega
            · clear mf
              go_wp2_with fail
              refine (gknown_ok _).mono ?_
              rintro e w9 ⟨rfl, hb9⟩
              go_wp2_with fail
              go_ret
              exact ⟨rfl, bel.trans (hb9.mono bel.size)⟩

set_option maxRecDepth 100000 in
set_option maxHeartbeats 1000000 in
theorem walk3 (w : World) : Calls Try.prog 8 #[.int .i64 3] w fun e w' => e = .returned (.bool true) ∧ Below w.heap.size w w' := by
  have v : V 8 := by unfold V; omega
  have H := Lib.hid v; clear v
  have g1 : Blk (w.alloc (.cells #[.int .i64 8] 51)) w.heap.size 51 #[.int .i64 8] := Blk.new _ _ _
  have bel1 : Below w.heap.size w (w.alloc (.cells #[.int .i64 8] 51)) := (Below.refl _ _).alloc (Nat.le_refl _) _
  have hmk : ∀ w : World, (Instr.makeSlice 24 (.int .i64 1400) (.int .i64 1400)).run Try.prog w = .ok (.slice (some ⟨w.heap.size, 0, none⟩) 1400 1400) (w.alloc (.cells (rowA 1400 (cov 0 1400 0)) 3)) := fun w => make_ok 1400 (by omega) w
  go_enter Try.func8, Try.ntmps8
  go_wp2_with fail
  refine (size_ok 8 _ H.out).mono ?_
  rintro e w2 ⟨rfl, hb2⟩
  have g2 := g1.below_ hb2
  have c2 : w2.cell? ⟨w.heap.size, 0, none⟩ = some (.int .i64 8) := g2.cell_ 0 rfl
  have l2 := g2.lt
  have bel2 : Below w.heap.size w w2 := bel1.trans (hb2.mono (by simp))
  go_wp2_with fail
  refine (size_ok 8 _ H.out).mono ?_
  rintro e w3 ⟨rfl, hb3⟩
  have g3 := g2.below_ hb3
  have c3 : w3.cell? ⟨w.heap.size, 0, none⟩ = some (.int .i64 8) := g3.cell_ 0 rfl
  have l3 := g3.lt
  have bel3 : Below w.heap.size w w3 := bel2.trans (hb3.mono (by omega))
  go_wp2_with fail
  refine (size_ok 8 _ H.out).mono ?_
  rintro e w4 ⟨rfl, hb4⟩
  have g4 := g3.below_ hb4
  have c4 : w4.cell? ⟨w.heap.size, 0, none⟩ = some (.int .i64 8) := g4.cell_ 0 rfl
  have l4 := g4.lt
  have bel4 : Below w.heap.size w w4 := bel3.trans (hb4.mono (by omega))
  have e4 : rowA 1400 (cov 0 1400 0) = rowA 1400 (cov 0 1280 0) := rowA_congr (fun x hx => by unfold cov; rw [if_neg (by omega), if_neg (by omega)])
  have m4 : Blk (w4.alloc (.cells (rowA 1400 (cov 0 1400 0)) 3)) w4.heap.size 3 (rowA 1400 (cov 0 1280 0)) := by rw [e4]; exact Blk.new _ _ _
  have E4 := Lib.hid e4; clear e4
  go_wp2_with fail
  go_loopw [6, 7] (fun ok i wr => ∃ k : Nat, k ≤ 8 ∧ ok = .bool true ∧ i = .int .i64 k ∧ Blk wr w.heap.size 51 #[.int .i64 8] ∧ Blk wr w4.heap.size 3 (rowA 1400 (cov (32 * k) 1280 0)) ∧ Below w.heap.size w wr) (fun _ i _ => 8 - (intOf i).toNat)
  case atStart => exact ⟨0, by omega, rfl, rfl, g4.alloc _, m4, bel4.alloc (by omega) _⟩
  case round =>
    obtain ⟨k, hk, rfl, rfl, gr, mr, bel⟩ := hrel
    have cr : wr.cell? ⟨w.heap.size, 0, none⟩ = some (.int .i64 8) := gr.cell_ 0 rfl
    by_cases hlt : k < 8
    · go_wp2_with fail
      refine (data_ok 8 k _ H.out (by omega) (by omega)).mono ?_
      rintro e w5 ⟨rfl, hb5⟩
      have g5 := gr.below_ hb5
      have m5 := mr.below_ hb5
      have bel5 : Below w.heap.size w w5 := bel.trans (hb5.mono bel.size)
      go_wp2_with fail
      refine (front_ok w4.heap.size 1400 (32 * k) 1280 0 32 _ (by omega) _ m5 (by omega) (by omega) (by omega) (by omega)).mono ?_
      rintro e w6 ⟨rfl, hg6, m6⟩
      have g6 := g5.grown hg6 (by simp; omega)
      have bel6 := below_only bel5 hg6 bel5.size (by omega)
      go_wp2_with fail
      go_roundw
      case rel => exact ⟨k + 1, by omega, rfl, by go_num, g6, by rw [show 32 * (k + 1) = 32 * k + 32 from by omega]; exact m6, bel6⟩
      case measure => simp [intOf]; omega
    · have e : k = 8 := by omega
      have mr' : Blk wr w4.heap.size 3 (rowA 1400 (cov 256 1280 0)) := by rw [e] at mr; exact mr
      clear e mr
      obtain ⟨wo, hwo⟩ : ∃ wo : World, wo = wr := ⟨_, rfl⟩
      subst hwo
      go_wp2_with fail
      go_loopw [6, 8] (fun ok i wr => ∃ a : Nat, a ≤ 2 ∧ ok = .bool true ∧ i = .int .i64 a ∧ Blk wr w.heap.size 51 #[.int .i64 8] ∧ Blk wr w4.heap.size 3 (rowA 1400 (cov (256 + 512 * a) 1280 (60 * a))) ∧ Below w.heap.size w wr) (fun _ i _ => 2 - (intOf i).toNat)
      case atStart => exact ⟨0, by omega, rfl, rfl, gr, mr', bel⟩
      case round =>
        obtain ⟨a, ha, rfl, rfl, gr, mr, bel⟩ := hrel
        have cr : wr.cell? ⟨w.heap.size, 0, none⟩ = some (.int .i64 8) := gr.cell_ 0 rfl
        by_cases hlta : a < 2
        · have hda : decide ((a : Int) < 2) = true := by simp; omega
          obtain ⟨w7, hw7⟩ : ∃ w7 : World, w7 = wr := ⟨_, rfl⟩
          subst hw7
          go_wp2_with fail
          go_loopw [6, 9] (fun ok i wr => ∃ k : Nat, k ≤ 8 ∧ ok = .bool true ∧ i = .int .i64 k ∧ Blk wr w.heap.size 51 #[.int .i64 8] ∧ Blk wr w4.heap.size 3 (rowA 1400 (cov (256 + 512 * a + 32 * k) 1280 (60 * a))) ∧ Below w.heap.size w wr) (fun _ i _ => 8 - (intOf i).toNat)
          case atStart => exact ⟨0, by omega, rfl, rfl, gr, mr, bel⟩
          case round =>
            obtain ⟨k, hk, rfl, rfl, gr, mr, bel⟩ := hrel
            have cr : wr.cell? ⟨w.heap.size, 0, none⟩ = some (.int .i64 8) := gr.cell_ 0 rfl
            by_cases hlt : k < 8
            · go_wp2_with fail
              refine (leaf_ok 8 a k _ H.out (by omega) (by omega) (by omega) (by omega)).mono ?_
              rintro e w5 ⟨rfl, hb5⟩
              have g5 := gr.below_ hb5
              have m5 := mr.below_ hb5
              have bel5 : Below w.heap.size w w5 := bel.trans (hb5.mono bel.size)
              go_wp2_with fail
              refine (front_ok w4.heap.size 1400 (256 + 512 * a + 32 * k) 1280 (60 * a) 32 _ (by omega) _ m5 (by omega) (by omega) (by omega) (by omega)).mono ?_
              rintro e w6 ⟨rfl, hg6, m6⟩
              have g6 := g5.grown hg6 (by simp; omega)
              have bel6 := below_only bel5 hg6 bel5.size (by omega)
              go_wp2_with fail
              go_roundw
              case rel => exact ⟨k + 1, by omega, rfl, by go_num, g6, by rw [show 256 + 512 * a + 32 * (k + 1) = 256 + 512 * a + 32 * k + 32 from by omega]; exact m6, bel6⟩
              case measure => simp [intOf]; omega
            · have hdk : decide ((k : Int) < 8) = false := by simp; omega
              have mr' : Blk wr w4.heap.size 3 (rowA 1400 (cov (512 + 512 * a) 1280 (60 * a))) := by
                rw [show 256 + 512 * a + 32 * k = 512 + 512 * a from by omega] at mr
                exact mr
              clear mr
              obtain ⟨w8, hw8⟩ : ∃ w8 : World, w8 = wr := ⟨_, rfl⟩
              subst hw8
              go_wp2_with fail
              go_loopw [6, 10] (fun ok i wr => ∃ j : Nat, j ≤ 16 ∧ ok = .bool true ∧ i = .int .i64 j ∧ Blk wr w.heap.size 51 #[.int .i64 8] ∧ Blk wr w4.heap.size 3 (rowA 1400 (cov (512 + 512 * a + 16 * j) 1280 (60 * a))) ∧ Below w.heap.size w wr) (fun _ i _ => 16 - (intOf i).toNat)
              case atStart => exact ⟨0, by omega, rfl, rfl, gr, mr', bel⟩
              case round =>
                obtain ⟨j, hj, rfl, rfl, gr, mr, bel⟩ := hrel
                have cr : wr.cell? ⟨w.heap.size, 0, none⟩ = some (.int .i64 8) := gr.cell_ 0 rfl
                by_cases hltj : j < 16
                · go_wp2_with fail
                  refine (node_ok 8 a j _ H.out (by omega) (by omega) (by omega) (by omega)).mono ?_
                  rintro e w5 ⟨rfl, hb5⟩
                  have g5 := gr.below_ hb5
                  have m5 := mr.below_ hb5
                  have bel5 : Below w.heap.size w w5 := bel.trans (hb5.mono bel.size)
                  go_wp2_with fail
                  refine (front_ok w4.heap.size 1400 (512 + 512 * a + 16 * j) 1280 (60 * a) 16 _ (by omega) _ m5 (by omega) (by omega) (by omega) (by omega)).mono ?_
                  rintro e w6 ⟨rfl, hg6, m6⟩
                  have g6 := g5.grown hg6 (by simp; omega)
                  have bel6 := below_only bel5 hg6 bel5.size (by omega)
                  go_wp2_with fail
                  go_roundw
                  case rel => exact ⟨j + 1, by omega, rfl, by go_num, g6, by rw [show 512 + 512 * a + 16 * (j + 1) = 512 + 512 * a + 16 * j + 16 from by omega]; exact m6, bel6⟩
                  case measure => simp [intOf]; omega
                · go_wp2_with fail
                  refine (rec_ok 8 a _ H.out (by omega) (by omega)).mono ?_
                  rintro e w5 ⟨rfl, hb5⟩
                  have g5 := gr.below_ hb5
                  have m5 := mr.below_ hb5
                  have bel5 : Below w.heap.size w w5 := bel.trans (hb5.mono bel.size)
                  go_wp2_with fail
                  refine (back_ok w4.heap.size 1400 (512 + 512 * a + 16 * j) 1280 (60 * a) 60 _ (by omega) _ m5 (by omega) (by omega) (by omega) (by omega)).mono ?_
                  rintro e w6 ⟨rfl, hg6, m6⟩
                  have g6 := g5.grown hg6 (by simp; omega)
                  have bel6 := below_only bel5 hg6 bel5.size (by omega)
                  go_wp2_with fail
                  refine ⟨⟨a + 1, by omega, rfl, by go_num, g6, by rw [show 256 + 512 * (a + 1) = 512 + 512 * a + 16 * j from by omega, show 60 * (a + 1) = 60 * a + 60 from by omega]; exact m6, bel6⟩, ?_⟩
                  simp [intOf]; omega
        · have mf : ∀ x, x < 1400 → wr.cell? ⟨w4.heap.size, x, none⟩ = some (.int .i64 1) := by
            intro x hx
            rw [mr.cell, rowA_at _ _ _ hx]
            unfold cov
            rw [if_pos (by omega)]
          go_wp2_with fail
          go_loop [6, 11] (fun ok i => ∃ k : Nat, k ≤ 1400 ∧ ok = .bool true ∧ i = .int .i64 k) (fun _ i => 1400 - (intOf i).toNat)
          case atStart => exact ⟨0, by omega, rfl, rfl⟩
          case round =>
            obtain ⟨k, hk, rfl, rfl⟩ := hrel
            by_cases hlt : k < 1400
            · have cx := mf k hlt
              clear mf
              go_wp2_with fail
              go_round
              case rel => exact ⟨k + 1, by omega, rfl, by go_num⟩
              case measure => simp [intOf]; omega
            · clear mf
              go_wp2_with fail
              refine (gknown_ok _).mono ?_
              rintro e w9 ⟨rfl, hb9⟩
              go_wp2_with fail
              go_ret
              exact ⟨rfl, bel.trans (hb9.mono bel.size)⟩

set_option maxRecDepth 100000 in
set_option maxHeartbeats 1000000 in
theorem walk4 (w : World) : Calls Try.prog 8 #[.int .i64 4] w fun e w' => e = .returned (.bool true) ∧ Below w.heap.size w w' := by
  have v : V 16 := by unfold V; omega
  have H := Lib.hid v; clear v
  have g1 : Blk (w.alloc (.cells #[.int .i64 16] 51)) w.heap.size 51 #[.int .i64 16] := Blk.new _ _ _
  have bel1 : Below w.heap.size w (w.alloc (.cells #[.int .i64 16] 51)) := (Below.refl _ _).alloc (Nat.le_refl _) _
  have hmk : ∀ w : World, (Instr.makeSlice 24 (.int .i64 2680) (.int .i64 2680)).run Try.prog w = .ok (.slice (some ⟨w.heap.size, 0, none⟩) 2680 2680) (w.alloc (.cells (rowA 2680 (cov 0 2680 0)) 3)) := fun w => make_ok 2680 (by omega) w
  go_enter Try.func8, Try.ntmps8
  go_wp2_with fail
  refine (size_ok 16 _ H.out).mono ?_
  rintro e w2 ⟨rfl, hb2⟩
  have g2 := g1.below_ hb2
  have c2 : w2.cell? ⟨w.heap.size, 0, none⟩ = some (.int .i64 16) := g2.cell_ 0 rfl
  have l2 := g2.lt
  have bel2 : Below w.heap.size w w2 := bel1.trans (hb2.mono (by simp))
  go_wp2_with fail
  refine (size_ok 16 _ H.out).mono ?_
  rintro e w3 ⟨rfl, hb3⟩
  have g3 := g2.below_ hb3
  have c3 : w3.cell? ⟨w.heap.size, 0, none⟩ = some (.int .i64 16) := g3.cell_ 0 rfl
  have l3 := g3.lt
  have bel3 : Below w.heap.size w w3 := bel2.trans (hb3.mono (by omega))
  go_wp2_with fail
  refine (size_ok 16 _ H.out).mono ?_
  rintro e w4 ⟨rfl, hb4⟩
  have g4 := g3.below_ hb4
  have c4 : w4.cell? ⟨w.heap.size, 0, none⟩ = some (.int .i64 16) := g4.cell_ 0 rfl
  have l4 := g4.lt
  have bel4 : Below w.heap.size w w4 := bel3.trans (hb4.mono (by omega))
  have e4 : rowA 2680 (cov 0 2680 0) = rowA 2680 (cov 0 2560 0) := rowA_congr (fun x hx => by unfold cov; rw [if_neg (by omega), if_neg (by omega)])
  have m4 : Blk (w4.alloc (.cells (rowA 2680 (cov 0 2680 0)) 3)) w4.heap.size 3 (rowA 2680 (cov 0 2560 0)) := by rw [e4]; exact Blk.new _ _ _
  have E4 := Lib.hid e4; clear e4
  go_wp2_with fail
  go_loopw [6, 7] (fun ok i wr => ∃ k : Nat, k ≤ 16 ∧ ok = .bool true ∧ i = .int .i64 k ∧ Blk wr w.heap.size 51 #[.int .i64 16] ∧ Blk wr w4.heap.size 3 (rowA 2680 (cov (32 * k) 2560 0)) ∧ Below w.heap.size w wr) (fun _ i _ => 16 - (intOf i).toNat)
  case atStart => exact ⟨0, by omega, rfl, rfl, g4.alloc _, m4, bel4.alloc (by omega) _⟩
  case round =>
    obtain ⟨k, hk, rfl, rfl, gr, mr, bel⟩ := hrel
    have cr : wr.cell? ⟨w.heap.size, 0, none⟩ = some (.int .i64 16) := gr.cell_ 0 rfl
    by_cases hlt : k < 16
    · go_wp2_with fail
      refine (data_ok 16 k _ H.out (by omega) (by omega)).mono ?_
      rintro e w5 ⟨rfl, hb5⟩
      have g5 := gr.below_ hb5
      have m5 := mr.below_ hb5
      have bel5 : Below w.heap.size w w5 := bel.trans (hb5.mono bel.size)
      go_wp2_with fail
      refine (front_ok w4.heap.size 2680 (32 * k) 2560 0 32 _ (by omega) _ m5 (by omega) (by omega) (by omega) (by omega)).mono ?_
      rintro e w6 ⟨rfl, hg6, m6⟩
      have g6 := g5.grown hg6 (by simp; omega)
      have bel6 := below_only bel5 hg6 bel5.size (by omega)
      go_wp2_with fail
      go_roundw
      case rel => exact ⟨k + 1, by omega, rfl, by go_num, g6, by rw [show 32 * (k + 1) = 32 * k + 32 from by omega]; exact m6, bel6⟩
      case measure => simp [intOf]; omega
    · have e : k = 16 := by omega
      have mr' : Blk wr w4.heap.size 3 (rowA 2680 (cov 512 2560 0)) := by rw [e] at mr; exact mr
      clear e mr
      obtain ⟨wo, hwo⟩ : ∃ wo : World, wo = wr := ⟨_, rfl⟩
      subst hwo
      go_wp2_with fail
      go_loopw [6, 8] (fun ok i wr => ∃ a : Nat, a ≤ 2 ∧ ok = .bool true ∧ i = .int .i64 a ∧ Blk wr w.heap.size 51 #[.int .i64 16] ∧ Blk wr w4.heap.size 3 (rowA 2680 (cov (512 + 1024 * a) 2560 (60 * a))) ∧ Below w.heap.size w wr) (fun _ i _ => 2 - (intOf i).toNat)
      case atStart => exact ⟨0, by omega, rfl, rfl, gr, mr', bel⟩
      case round =>
        obtain ⟨a, ha, rfl, rfl, gr, mr, bel⟩ := hrel
        have cr : wr.cell? ⟨w.heap.size, 0, none⟩ = some (.int .i64 16) := gr.cell_ 0 rfl
        by_cases hlta : a < 2
        · have hda : decide ((a : Int) < 2) = true := by simp; omega
          obtain ⟨w7, hw7⟩ : ∃ w7 : World, w7 = wr := ⟨_, rfl⟩
          subst hw7
          go_wp2_with fail
          go_loopw [6, 9] (fun ok i wr => ∃ k : Nat, k ≤ 16 ∧ ok = .bool true ∧ i = .int .i64 k ∧ Blk wr w.heap.size 51 #[.int .i64 16] ∧ Blk wr w4.heap.size 3 (rowA 2680 (cov (512 + 1024 * a + 32 * k) 2560 (60 * a))) ∧ Below w.heap.size w wr) (fun _ i _ => 16 - (intOf i).toNat)
          case atStart => exact ⟨0, by omega, rfl, rfl, gr, mr, bel⟩
          case round =>
            obtain ⟨k, hk, rfl, rfl, gr, mr, bel⟩ := hrel
            have cr : wr.cell? ⟨w.heap.size, 0, none⟩ = some (.int .i64 16) := gr.cell_ 0 rfl
            by_cases hlt : k < 16
            · go_wp2_with fail
              refine (leaf_ok 16 a k _ H.out (by omega) (by omega) (by omega) (by omega)).mono ?_
              rintro e w5 ⟨rfl, hb5⟩
              have g5 := gr.below_ hb5
              have m5 := mr.below_ hb5
              have bel5 : Below w.heap.size w w5 := bel.trans (hb5.mono bel.size)
              go_wp2_with fail
              refine (front_ok w4.heap.size 2680 (512 + 1024 * a + 32 * k) 2560 (60 * a) 32 _ (by omega) _ m5 (by omega) (by omega) (by omega) (by omega)).mono ?_
              rintro e w6 ⟨rfl, hg6, m6⟩
              have g6 := g5.grown hg6 (by simp; omega)
              have bel6 := below_only bel5 hg6 bel5.size (by omega)
              go_wp2_with fail
              go_roundw
              case rel => exact ⟨k + 1, by omega, rfl, by go_num, g6, by rw [show 512 + 1024 * a + 32 * (k + 1) = 512 + 1024 * a + 32 * k + 32 from by omega]; exact m6, bel6⟩
              case measure => simp [intOf]; omega
            · have hdk : decide ((k : Int) < 16) = false := by simp; omega
              have mr' : Blk wr w4.heap.size 3 (rowA 2680 (cov (1024 + 1024 * a) 2560 (60 * a))) := by
                rw [show 512 + 1024 * a + 32 * k = 1024 + 1024 * a from by omega] at mr
                exact mr
              clear mr
              obtain ⟨w8, hw8⟩ : ∃ w8 : World, w8 = wr := ⟨_, rfl⟩
              subst hw8
              go_wp2_with fail
              go_loopw [6, 10] (fun ok i wr => ∃ j : Nat, j ≤ 32 ∧ ok = .bool true ∧ i = .int .i64 j ∧ Blk wr w.heap.size 51 #[.int .i64 16] ∧ Blk wr w4.heap.size 3 (rowA 2680 (cov (1024 + 1024 * a + 16 * j) 2560 (60 * a))) ∧ Below w.heap.size w wr) (fun _ i _ => 32 - (intOf i).toNat)
              case atStart => exact ⟨0, by omega, rfl, rfl, gr, mr', bel⟩
              case round =>
                obtain ⟨j, hj, rfl, rfl, gr, mr, bel⟩ := hrel
                have cr : wr.cell? ⟨w.heap.size, 0, none⟩ = some (.int .i64 16) := gr.cell_ 0 rfl
                by_cases hltj : j < 32
                · go_wp2_with fail
                  refine (node_ok 16 a j _ H.out (by omega) (by omega) (by omega) (by omega)).mono ?_
                  rintro e w5 ⟨rfl, hb5⟩
                  have g5 := gr.below_ hb5
                  have m5 := mr.below_ hb5
                  have bel5 : Below w.heap.size w w5 := bel.trans (hb5.mono bel.size)
                  go_wp2_with fail
                  refine (front_ok w4.heap.size 2680 (1024 + 1024 * a + 16 * j) 2560 (60 * a) 16 _ (by omega) _ m5 (by omega) (by omega) (by omega) (by omega)).mono ?_
                  rintro e w6 ⟨rfl, hg6, m6⟩
                  have g6 := g5.grown hg6 (by simp; omega)
                  have bel6 := below_only bel5 hg6 bel5.size (by omega)
                  go_wp2_with fail
                  go_roundw
                  case rel => exact ⟨j + 1, by omega, rfl, by go_num, g6, by rw [show 1024 + 1024 * a + 16 * (j + 1) = 1024 + 1024 * a + 16 * j + 16 from by omega]; exact m6, bel6⟩
                  case measure => simp [intOf]; omega
                · go_wp2_with fail
                  refine (rec_ok 16 a _ H.out (by omega) (by omega)).mono ?_
                  rintro e w5 ⟨rfl, hb5⟩
                  have g5 := gr.below_ hb5
                  have m5 := mr.below_ hb5
                  have bel5 : Below w.heap.size w w5 := bel.trans (hb5.mono bel.size)
                  go_wp2_with fail
                  refine (back_ok w4.heap.size 2680 (1024 + 1024 * a + 16 * j) 2560 (60 * a) 60 _ (by omega) _ m5 (by omega) (by omega) (by omega) (by omega)).mono ?_
                  rintro e w6 ⟨rfl, hg6, m6⟩
                  have g6 := g5.grown hg6 (by simp; omega)
                  have bel6 := below_only bel5 hg6 bel5.size (by omega)
                  go_wp2_with fail
                  refine ⟨⟨a + 1, by omega, rfl, by go_num, g6, by rw [show 512 + 1024 * (a + 1) = 1024 + 1024 * a + 16 * j from by omega, show 60 * (a + 1) = 60 * a + 60 from by omega]; exact m6, bel6⟩, ?_⟩
                  simp [intOf]; omega
        · have mf : ∀ x, x < 2680 → wr.cell? ⟨w4.heap.size, x, none⟩ = some (.int .i64 1) := by
            intro x hx
            rw [mr.cell, rowA_at _ _ _ hx]
            unfold cov
            rw [if_pos (by omega)]
          go_wp2_with fail
          go_loop [6, 11] (fun ok i => ∃ k : Nat, k ≤ 2680 ∧ ok = .bool true ∧ i = .int .i64 k) (fun _ i => 2680 - (intOf i).toNat)
          case atStart => exact ⟨0, by omega, rfl, rfl⟩
          case round =>
            obtain ⟨k, hk, rfl, rfl⟩ := hrel
            by_cases hlt : k < 2680
            · have cx := mf k hlt
              clear mf
              go_wp2_with fail
              go_round
              case rel => exact ⟨k + 1, by omega, rfl, by go_num⟩
              case measure => simp [intOf]; omega
            · clear mf
              go_wp2_with fail
              refine (gknown_ok _).mono ?_
              rintro e w9 ⟨rfl, hb9⟩
              go_wp2_with fail
              go_ret
              exact ⟨rfl, bel.trans (hb9.mono bel.size)⟩

theorem walk (a0 : Int) (w0 : (Lit.int .i64 a0).wf = true) (w : World) :
    Calls Try.prog 8 #[.int .i64 a0] w fun e w' => e = .returned (.bool true) ∧ Below w.heap.size w w' := by
  have b0 := bounds_i64 w0
  clear w0
  by_cases c : 2 ≤ a0 ∧ a0 ≤ 4
  · rcases (by omega : a0 = 2 ∨ a0 = 3 ∨ a0 = 4) with rfl | rfl | rfl
    · exact walk2 w
    · exact walk3 w
    · exact walk4 w
  · rcases (by omega : a0 < 2 ∨ (2 ≤ a0 ∧ 4 < a0)) with h | ⟨h, h'⟩
    all_goals
      clear c
      go_enter Try.func8, Try.ntmps8
      go_wp2
      go_ret
      exact ⟨rfl, Below.refl _ _⟩
end Go.Proofs.Ytbmpocalapgmjaa.geomApart
