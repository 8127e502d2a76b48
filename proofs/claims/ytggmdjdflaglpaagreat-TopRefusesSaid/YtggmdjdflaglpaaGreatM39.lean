/- field: Add, double, Mul, Eval. wire: Get, Pair. flow: Sub, Xor, Bytes. gcm.pairs. -/
import Derived.Test.YtggmdjdflaglpaaGreatM11
import Derived.Test.YtggmdjdflaglpaaGreatM16
import Derived.Test.YtggmdjdflaglpaaGreatM21
namespace Go.Proofs.YtggmdjdflaglpaaGreat
open Go.RowKit
set_option linter.unusedVariables false
theorem fadd_ok (a b : Two) (w : World) : Calls Tryz.prog 126 #[pv a, pv b] w fun e w' => e = .returned (pv (fadd a b)) ∧ Below w.heap.size w w' := by
  obtain ⟨a0, a1⟩ := a
  obtain ⟨b0, b1⟩ := b
  unfold pv fadd
  simp only
  obtain ⟨x, hx⟩ : ∃ x, x = bits .xor .u64 a0 b0 := ⟨_, rfl⟩
  obtain ⟨y, hy⟩ : ∃ y, y = bits .xor .u64 a1 b1 := ⟨_, rfl⟩
  have HX := Lib.hid (And.intro hx hy)
  rw [← hx, ← hy]
  clear hx hy
  go_enter Tryz.func126, Tryz.ntmps126
  go_wp2_with fail
  rw [← HX.out.1, ← HX.out.2]
  refine bodyPost_ret (v := .agg #[.int .u64 x, .int .u64 y]) (by simp [results, Tryz.results126, go_sem]) rfl ⟨rfl, ?_⟩
  exact (((Below.refl _ _).alloc (Nat.le_refl _) _).alloc (by simp) _).alloc (by simp; omega) _
theorem fdouble_ok (a : Two) (w : World) (h : U2 a) : Calls Tryz.prog 178 #[pv a] w fun e w' => e = .returned (pv (fdouble a)) ∧ Below w.heap.size w w' := by
  obtain ⟨a0, a1⟩ := a
  obtain ⟨⟨h0, h1⟩, h2, h3⟩ := h
  unfold pv fdouble
  simp only at h0 h1 h2 h3 ⊢
  by_cases e : a0 / 9223372036854775808 = 1
  · have t : (a0 / 9223372036854775808 == 1) = true := by simpa using e
    rw [if_pos e]
    clear e
    go_enter Tryz.func178, Tryz.ntmps178
    go_wp2_with fail
    refine bodyPost_ret (v := .agg #[.int .u64 _, .int .u64 _]) (by simp [results, Tryz.results178, go_sem]) rfl ⟨rfl, ?_⟩
    exact (((Below.refl _ _).alloc (Nat.le_refl _) _).alloc (by simp) _).alloc (by simp; omega) _
  · have t : (a0 / 9223372036854775808 == 1) = false := by simpa using e
    rw [if_neg e]
    clear e
    go_enter Tryz.func178, Tryz.ntmps178
    go_wp2_with fail
    refine bodyPost_ret (v := .agg #[.int .u64 _, .int .u64 _]) (by simp [results, Tryz.results178, go_sem]) rfl ⟨rfl, ?_⟩
    exact (((Below.refl _ _).alloc (Nat.le_refl _) _).alloc (by simp) _).alloc (by simp; omega) _
theorem fdouble_u (a : Two) (h : U2 a) : U2 (fdouble a) := by
  have hw : ∀ x : Int, U64 (IntKind.u64.wrap x) := fun x => by
    have := bounds_u64 (wf_wrap .u64 x)
    unfold U64; omega
  unfold fdouble
  by_cases e : a.1 / 9223372036854775808 = 1
  · rw [if_pos e]
    unfold U2
    simp only
    exact ⟨u64_bits _ _ _, u64_bits _ _ _⟩
  · rw [if_neg e]
    unfold U2
    simp only
    exact ⟨u64_bits _ _ _, hw _⟩
theorem and_one (x : Int) (h : U64 x) : bits .and .u64 x 1 = x % 2 := by
  obtain ⟨h0, h1⟩ := h
  obtain ⟨n, rfl⟩ : ∃ n : Nat, x = n := ⟨x.toNat, by omega⟩
  have e : (BitVec.ofInt 64 (n : Int) &&& BitVec.ofInt 64 1).toNat = n % 2 := by
    rw [BitVec.toNat_and, BitVec.toNat_ofInt, BitVec.toNat_ofInt]
    have e1 : ((n : Int) % ((2 ^ 64 : Nat) : Int)).toNat = n := by omega
    have e2 : ((1 : Int) % ((2 ^ 64 : Nat) : Int)).toNat = 1 := by omega
    rw [e1, e2, Nat.and_one_is_mod]
  show IntKind.u64.wrap ((BitVec.ofInt 64 (n : Int) &&& BitVec.ofInt 64 1).toNat : Int) = _
  rw [e]
  exact IntWalk.u64_in _ ⟨by omega, by omega⟩
theorem u64_div {x : Int} (h0 : 0 ≤ x) (h1 : x < 18446744073709551616) (n : Nat) : U64 (x / 2 ^ n) := by
  have hp : (0 : Int) < 2 ^ n := Int.pow_pos (by omega)
  exact ⟨Int.ediv_nonneg h0 (by omega), Int.lt_of_le_of_lt (Int.ediv_le_self _ h0) h1⟩
theorem fstep_u (a b out : Two) (i : Nat) (h : U2 out) : U2 (fstep a b out i) := by
  unfold fstep
  split
  · exact fadd_u _ _
  · exact fdouble_u _ h
theorem fmulTo_u (a b : Two) : ∀ i, U2 (fmulTo a b i)
  | 0 => by unfold fmulTo U2 U64; decide
  | i + 1 => fstep_u _ _ _ _ (fmulTo_u a b i)
theorem fmul_no {w : World} {g i : Nat} {a b : Two} {F : Nat → Two} {o0 o1 d0 d1 : Int} (hs : F (i + 1) = fstep a b (F i) i) (hd : (d0, d1) = fdouble (F i) ∧ o0 = (F i).1 ∧ o1 = (F i).2) (hb : fbit b i = false) (h : Blk w g 101 #[.int .u64 d0, .int .u64 d1]) :
    Blk w g 101 #[.int .u64 (F (i + 1)).1, .int .u64 (F (i + 1)).2] := by
  rw [hs]
  unfold fstep
  rw [hb, ← hd.1]
  exact h
theorem fmul_yes {w : World} {g i : Nat} {a b : Two} {F : Nat → Two} {o0 o1 d0 d1 : Int} (hs : F (i + 1) = fstep a b (F i) i) (hd : (d0, d1) = fdouble (F i) ∧ o0 = (F i).1 ∧ o1 = (F i).2) (hb : fbit b i = true) (h : Blk w g 101 #[.int .u64 (fadd (d0, d1) a).1, .int .u64 (fadd (d0, d1) a).2]) :
    Blk w g 101 #[.int .u64 (F (i + 1)).1, .int .u64 (F (i + 1)).2] := by
  rw [hs]
  unfold fstep
  rw [hb, ← hd.1]
  exact h
set_option maxRecDepth 100000 in
theorem fmul_ok (a b : Two) (w : World) (ha : U2 a) (hb : U2 b) : Calls Tryz.prog 162 #[pv a, pv b] w fun e w' => e = .returned (pv (fmul a b)) ∧ Below w.heap.size w w' := by
  obtain ⟨a0, a1⟩ := a
  obtain ⟨b0, b1⟩ := b
  have hu := fmulTo_u (a0, a1) (b0, b1)
  obtain ⟨F, hF⟩ : ∃ F, F = fmulTo (a0, a1) (b0, b1) := ⟨_, rfl⟩
  have hs : ∀ i, F (i + 1) = fstep (a0, a1) (b0, b1) (F i) i := fun i => by rw [hF]; rfl
  have h0 : F 0 = (0, 0) := by rw [hF]; rfl
  have hE : fmul (a0, a1) (b0, b1) = F 128 := by rw [hF]; rfl
  rw [hE]
  rw [← hF] at hu
  obtain ⟨X, hX⟩ : ∃ X, X = F 128 := ⟨_, rfl⟩
  rw [← hX]
  obtain ⟨x, y⟩ := X
  unfold pv
  simp only
  obtain ⟨W, hW⟩ : ∃ W, W = (((w.alloc (.cells #[.int .u64 a0, .int .u64 a1] 101)).alloc (.cells #[.int .u64 b0, .int .u64 b1] 101)).alloc (.cells #[.int .u64 0, .int .u64 0] 101)).alloc (.cells #[.int .u64 0, .int .u64 0] 101) := ⟨_, rfl⟩
  have hA : Blk W w.heap.size 101 #[.int .u64 a0, .int .u64 a1] := by rw [hW]; exact (((Blk.new w 101 _).alloc _).alloc _).alloc _
  have hB : Blk W (w.heap.size + 1) 101 #[.int .u64 b0, .int .u64 b1] := by
    rw [hW]
    have := Blk.new (w.alloc (.cells #[.int .u64 a0, .int .u64 a1] 101)) 101 #[.int .u64 b0, .int .u64 b1]
    rw [World.size_alloc] at this
    exact (this.alloc _).alloc _
  have hR : Blk W (w.heap.size + 2) 101 #[.int .u64 0, .int .u64 0] := by
    rw [hW]
    have := Blk.new ((w.alloc (.cells #[.int .u64 a0, .int .u64 a1] 101)).alloc (.cells #[.int .u64 b0, .int .u64 b1] 101)) 101 #[.int .u64 0, .int .u64 0]
    rw [World.size_alloc, World.size_alloc] at this
    exact this.alloc _
  have hO : Blk W (w.heap.size + 3) 101 #[.int .u64 (F 0).1, .int .u64 (F 0).2] := by
    rw [hW, h0]
    have := Blk.new (((w.alloc (.cells #[.int .u64 a0, .int .u64 a1] 101)).alloc (.cells #[.int .u64 b0, .int .u64 b1] 101)).alloc (.cells #[.int .u64 0, .int .u64 0] 101)) 101 #[.int .u64 0, .int .u64 0]
    rw [World.size_alloc, World.size_alloc, World.size_alloc] at this
    exact this
  have hbw : Below w.heap.size w W := by rw [hW]; exact ((((Below.refl _ _).alloc (Nat.le_refl _) _).alloc (by simp) _).alloc (by simp; omega) _).alloc (by simp; omega) _
  have HU := Lib.hid (And.intro hu (And.intro hs (And.intro ha hb)))
  have HX := Lib.hid hX
  clear hX hu hs h0 hE hF ha hb
  go_enter Tryz.func162, Tryz.ntmps162
  go_wp2_with fail
  rw [← hW]
  clear hW
  go_loopw [6, 7] (fun _ t wr => ∃ i : Nat, t = .int .i64 i ∧ i ≤ 128 ∧ Blk wr w.heap.size 101 #[.int .u64 a0, .int .u64 a1] ∧ Blk wr (w.heap.size + 1) 101 #[.int .u64 b0, .int .u64 b1] ∧ Blk wr (w.heap.size + 2) 101 #[.int .u64 0, .int .u64 0] ∧ Blk wr (w.heap.size + 3) 101 #[.int .u64 (F i).1, .int .u64 (F i).2] ∧ Below w.heap.size w wr)
    (fun _ t _ => 128 - (intOf t).toNat)
  case atStart => exact ⟨0, rfl, by omega, hA, hB, hR, hO, hbw⟩
  case round =>
    obtain ⟨i, rfl, hi, hA', hB', hR', hO', hbw'⟩ := hrel
    clear hA hB hR hO hbw
    by_cases hlt : i < 128
    · have hd := fun W => fdouble_ok (F i) W (HU.out.1 i)
      unfold pv at hd
      obtain ⟨D, hD⟩ : ∃ D, D = fdouble (F i) := ⟨_, rfl⟩
      rw [← hD] at hd
      obtain ⟨o0, ho0⟩ : ∃ o, o = (F i).1 := ⟨_, rfl⟩
      obtain ⟨o1, ho1⟩ : ∃ o, o = (F i).2 := ⟨_, rfl⟩
      rw [← ho0, ← ho1] at hd hO'
      obtain ⟨d0, d1⟩ := D
      simp only at hd
      have HD := Lib.hid (And.intro hD (And.intro ho0 ho1))
      clear hD ho0 ho1
      have c0 := hO'.cell_ 0 rfl
      have c1 := hO'.cell_ 1 rfl
      have lo := hO'.lt
      go_wp2_with fail
      refine (hd _).mono ?_
      rintro e w1 ⟨rfl, q⟩
      have hA1 := hA'.below_ q
      have hB1 := hB'.below_ q
      have hR1 := hR'.below_ q
      have hO1 := hO'.below_ q
      have hbw1 := hbw'.trans (q.mono hbw'.size)
      clear hA' hB' hR' hO' hbw' q c0 c1 lo hd
      have f0 := hO1.frozen 0
      have f1 := hO1.frozen 1
      have g0 := hO1.cell_ 0 rfl
      have g1 := hO1.cell_ 1 rfl
      have lo := hO1.lt
      have b0' := hB1.cell_ 0 rfl
      have b1' := hB1.cell_ 1 rfl
      have lb := hB1.lt
      have a0' := hA1.cell_ 0 rfl
      have a1' := hA1.cell_ 1 rfl
      have la := hA1.lt
      have hbit : ∀ x : Int, x = (if i < 64 then b0 / 2 ^ (63 - i) else b1 / 2 ^ (127 - i)) → (bits .and .u64 x 1 == 1) = fbit (b0, b1) i := fun x e => by
        have hx : U64 x := by
          rw [e]
          obtain ⟨⟨p0, p1⟩, p2, p3⟩ := HU.out.2.2.2
          split
          · exact u64_div p0 p1 _
          · exact u64_div p2 p3 _
        rw [and_one x hx]
        unfold fbit
        rw [e]
      have hbd : Blk ((w1.setCell ⟨w.heap.size + 3, 0, none⟩ (.int .u64 d0)).setCell ⟨w.heap.size + 3, 1, none⟩ (.int .u64 d1)) (w.heap.size + 3) 101 #[.int .u64 d0, .int .u64 d1] := (hO1.set_to 0 (.int .u64 d0) (cs' := #[.int .u64 d0, .int .u64 o1]) rfl).set_to 1 (.int .u64 d1) (cs' := #[.int .u64 d0, .int .u64 d1]) rfl
      have hg := only_set2 w1 (w.heap.size + 3) 0 1 (.int .u64 d0) (.int .u64 d1)
      have hne : ∀ k, k < 3 → some (w.heap.size + k) ≠ some (w.heap.size + 3) := fun k hk e => by injection e; omega
      have hA2 := hA1.grown hg (hne 0 (by omega))
      have hB2 := hB1.grown hg (hne 1 (by omega))
      have hR2 := hR1.grown hg (hne 2 (by omega))
      have hbw2 := below_only hbw1 hg hbw1.size (by omega)
      have HE := Lib.hid (And.intro hA2 (And.intro hB2 (And.intro hR2 (And.intro hbd hbw2))))
      clear hA1 hB1 hR1 hO1 hbw1 hbd hg hne hA2 hB2 hR2 hbw2
      by_cases h64 : i < 64
      · have e1 : (i : Int) / 64 = 0 := by omega
        have e2 : (i : Int) % 64 = i := by omega
        have hb := hbit (b0 / 2 ^ (63 - i)) (by rw [if_pos h64])
        clear hbit
        cases hc : fbit (b0, b1) i
        all_goals
          rw [hc] at hb
          have HC := Lib.hid hc
          clear hc
          go_wp2_with fail
        · go_roundw
          case rel => exact ⟨i + 1, by go_num, by omega, HE.out.1, HE.out.2.1, HE.out.2.2.1, fmul_no (HU.out.2.1 i) HD.out HC.out HE.out.2.2.2.1, HE.out.2.2.2.2⟩
          case measure => simp [intOf]; omega
        · have hw2 := HE.out
          obtain ⟨x0, hx0⟩ : ∃ x, x = (fadd (d0, d1) (a0, a1)).1 := ⟨_, rfl⟩
          obtain ⟨x1, hx1⟩ : ∃ x, x = (fadd (d0, d1) (a0, a1)).2 := ⟨_, rfl⟩
          have hadd := fun W => fadd_ok (d0, d1) (a0, a1) W
          unfold pv at hadd
          rw [← hx0, ← hx1] at hadd
          have HXX := Lib.hid (And.intro hx0 hx1)
          clear hx0 hx1 hw2
          refine (hadd _).mono ?_
          rintro e w3 ⟨rfl, q3⟩
          clear hadd f0 f1 g0 g1 lo b0' b1' lb a0' a1' la
          have hA3 := HE.out.1.below_ q3
          have hB3 := HE.out.2.1.below_ q3
          have hR3 := HE.out.2.2.1.below_ q3
          have hO3 := HE.out.2.2.2.1.below_ q3
          have hbw3 := HE.out.2.2.2.2.trans (q3.mono HE.out.2.2.2.2.size)
          have f0 := hO3.frozen 0
          have f1 := hO3.frozen 1
          have g0 := hO3.cell_ 0 rfl
          have g1 := hO3.cell_ 1 rfl
          have lo := hO3.lt
          have hg := only_set2 w3 (w.heap.size + 3) 0 1 (.int .u64 x0) (.int .u64 x1)
          have hne : ∀ k, k < 3 → some (w.heap.size + k) ≠ some (w.heap.size + 3) := fun k hk e => by injection e; omega
          have hbd : Blk ((w3.setCell ⟨w.heap.size + 3, 0, none⟩ (.int .u64 x0)).setCell ⟨w.heap.size + 3, 1, none⟩ (.int .u64 x1)) (w.heap.size + 3) 101 #[.int .u64 (fadd (d0, d1) (a0, a1)).1, .int .u64 (fadd (d0, d1) (a0, a1)).2] := by
            rw [← HXX.out.1, ← HXX.out.2]
            exact (hO3.set_to 0 (.int .u64 x0) (cs' := #[.int .u64 x0, .int .u64 d1]) rfl).set_to 1 (.int .u64 x1) (cs' := #[.int .u64 x0, .int .u64 x1]) rfl
          have HG := Lib.hid (And.intro (hA3.grown hg (hne 0 (by omega))) (And.intro (hB3.grown hg (hne 1 (by omega))) (And.intro (hR3.grown hg (hne 2 (by omega))) (And.intro hbd (below_only hbw3 hg hbw3.size (by omega))))))
          clear hA3 hB3 hR3 hO3 hbw3 hg hne hbd q3
          go_wp2_with fail
          go_roundw
          case rel => exact ⟨i + 1, by go_num, by omega, HG.out.1, HG.out.2.1, HG.out.2.2.1, fmul_yes (HU.out.2.1 i) HD.out HC.out HG.out.2.2.2.1, HG.out.2.2.2.2⟩
          case measure => simp [intOf]; omega
      · have e1 : (i : Int) / 64 = 1 := by omega
        have e2 : (i : Int) % 64 = i - 64 := by omega
        have hb := hbit (b1 / 2 ^ (63 - (i - 64))) (by rw [if_neg h64, show 127 - i = 63 - (i - 64) by omega])
        clear hbit
        cases hc : fbit (b0, b1) i
        all_goals
          rw [hc] at hb
          have HC := Lib.hid hc
          clear hc
          go_wp2_with fail
        · go_roundw
          case rel => exact ⟨i + 1, by go_num, by omega, HE.out.1, HE.out.2.1, HE.out.2.2.1, fmul_no (HU.out.2.1 i) HD.out HC.out HE.out.2.2.2.1, HE.out.2.2.2.2⟩
          case measure => simp [intOf]; omega
        · have hw2 := HE.out
          obtain ⟨x0, hx0⟩ : ∃ x, x = (fadd (d0, d1) (a0, a1)).1 := ⟨_, rfl⟩
          obtain ⟨x1, hx1⟩ : ∃ x, x = (fadd (d0, d1) (a0, a1)).2 := ⟨_, rfl⟩
          have hadd := fun W => fadd_ok (d0, d1) (a0, a1) W
          unfold pv at hadd
          rw [← hx0, ← hx1] at hadd
          have HXX := Lib.hid (And.intro hx0 hx1)
          clear hx0 hx1 hw2
          refine (hadd _).mono ?_
          rintro e w3 ⟨rfl, q3⟩
          clear hadd f0 f1 g0 g1 lo b0' b1' lb a0' a1' la
          have hA3 := HE.out.1.below_ q3
          have hB3 := HE.out.2.1.below_ q3
          have hR3 := HE.out.2.2.1.below_ q3
          have hO3 := HE.out.2.2.2.1.below_ q3
          have hbw3 := HE.out.2.2.2.2.trans (q3.mono HE.out.2.2.2.2.size)
          have f0 := hO3.frozen 0
          have f1 := hO3.frozen 1
          have g0 := hO3.cell_ 0 rfl
          have g1 := hO3.cell_ 1 rfl
          have lo := hO3.lt
          have hg := only_set2 w3 (w.heap.size + 3) 0 1 (.int .u64 x0) (.int .u64 x1)
          have hne : ∀ k, k < 3 → some (w.heap.size + k) ≠ some (w.heap.size + 3) := fun k hk e => by injection e; omega
          have hbd : Blk ((w3.setCell ⟨w.heap.size + 3, 0, none⟩ (.int .u64 x0)).setCell ⟨w.heap.size + 3, 1, none⟩ (.int .u64 x1)) (w.heap.size + 3) 101 #[.int .u64 (fadd (d0, d1) (a0, a1)).1, .int .u64 (fadd (d0, d1) (a0, a1)).2] := by
            rw [← HXX.out.1, ← HXX.out.2]
            exact (hO3.set_to 0 (.int .u64 x0) (cs' := #[.int .u64 x0, .int .u64 d1]) rfl).set_to 1 (.int .u64 x1) (cs' := #[.int .u64 x0, .int .u64 x1]) rfl
          have HG := Lib.hid (And.intro (hA3.grown hg (hne 0 (by omega))) (And.intro (hB3.grown hg (hne 1 (by omega))) (And.intro (hR3.grown hg (hne 2 (by omega))) (And.intro hbd (below_only hbw3 hg hbw3.size (by omega))))))
          clear hA3 hB3 hR3 hO3 hbw3 hg hne hbd q3
          go_wp2_with fail
          go_roundw
          case rel => exact ⟨i + 1, by go_num, by omega, HG.out.1, HG.out.2.1, HG.out.2.2.1, fmul_yes (HU.out.2.1 i) HD.out HC.out HG.out.2.2.2.1, HG.out.2.2.2.2⟩
          case measure => simp [intOf]; omega
    · obtain rfl : i = 128 := by omega
      rw [← HX.out] at hO'
      have c0 := hO'.cell_ 0 rfl
      have c1 := hO'.cell_ 1 rfl
      have lo := hO'.lt
      have r0 := hR'.cell_ 0 rfl
      have r1 := hR'.cell_ 1 rfl
      have f0 := hR'.frozen 0
      have f1 := hR'.frozen 1
      have lr := hR'.lt
      clear hlt
      go_wp2_with fail
      have hf := (hR'.set_to 0 (.int .u64 x) (cs' := #[.int .u64 x, .int .u64 0]) rfl).set_to 1 (.int .u64 y) (cs' := [.int .u64 x, .int .u64 y].toArray) rfl
      exact ret_cell 4 101 (by rfl) (w.heap.size + 2) 0 (by rfl) [.int .u64 x, .int .u64 y] _ hf.range Tryz.underlying101 rfl sz101 rfl ⟨rfl, below_only hbw' (only_set2 _ _ _ _ _ _) hbw'.size (by omega)⟩
end Go.Proofs.YtggmdjdflaglpaaGreat
namespace Go.Proofs.YtggmdjdflaglpaaGreat
open Go.RowKit
set_option linter.unusedVariables false
theorem or_low (x c : Int) (h0 : 0 ≤ x) (h1 : x < 72057594037927936) (c0 : 0 ≤ c) (c1 : c < 256) : bits .or .u64 (x * 256) c = x * 256 + c := by
  obtain ⟨n, rfl⟩ : ∃ n : Nat, x = n := ⟨x.toNat, by omega⟩
  obtain ⟨m, rfl⟩ : ∃ m : Nat, c = m := ⟨c.toNat, by omega⟩
  have e : (BitVec.ofInt 64 ((n : Int) * 256) ||| BitVec.ofInt 64 (m : Int)).toNat = n * 256 + m := by
    rw [BitVec.toNat_or, BitVec.toNat_ofInt, BitVec.toNat_ofInt]
    have e1 : (((n : Int) * 256) % ((2 ^ 64 : Nat) : Int)).toNat = 2 ^ 8 * n := by omega
    have e2 : ((m : Int) % ((2 ^ 64 : Nat) : Int)).toNat = m := by omega
    rw [e1, e2, ← Nat.two_pow_add_eq_or_of_lt (by omega)]
    omega
  show IntKind.u64.wrap ((BitVec.ofInt 64 ((n : Int) * 256) ||| BitVec.ofInt 64 (m : Int)).toNat : Int) = _
  rw [e, IntWalk.u64_in _ ⟨by omega, by omega⟩]
  omega
theorem be_snoc (l : By) (c : UInt8) : be (l ++ [c]) = be l * 256 + (c.toNat : Int) := by
  unfold be
  rw [List.foldl_append]
  rfl
theorem be_take (l : By) (i : Nat) (c : UInt8) (h : l[i]? = some c) : be (l.take (i + 1)) = be (l.take i) * 256 + (c.toNat : Int) := by
  rw [List.take_add_one, h]
  exact be_snoc _ _
theorem be_bd : ∀ (n : Nat) (l : By), l.length = n → 0 ≤ be l ∧ be l < 256 ^ n
  | 0, l, h => by
    have : l = [] := List.eq_nil_of_length_eq_zero h
    rw [this]
    decide
  | n + 1, l, h => by
    have hne : l ≠ [] := fun e => by rw [e] at h; simp at h
    obtain ⟨t, c, rfl⟩ : ∃ t c, l = t ++ [c] := ⟨l.dropLast, l.getLast hne, (List.dropLast_concat_getLast hne).symm⟩
    rw [be_snoc]
    have ht : t.length = n := by simpa using h
    have ih := be_bd n t ht
    have hc := c.toNat_lt
    rw [Int.pow_succ]
    omega
theorem be_u (l : By) (h : l.length ≤ 8) : U64 (be l) := by
  have := be_bd l.length l rfl
  have h2 : l.length = 0 ∨ l.length = 1 ∨ l.length = 2 ∨ l.length = 3 ∨ l.length = 4 ∨ l.length = 5 ∨ l.length = 6 ∨ l.length = 7 ∨ l.length = 8 := by omega
  unfold U64
  rcases h2 with e | e | e | e | e | e | e | e | e <;> rw [e] at this <;> simp at this <;> omega
theorem be_small (l : By) (h : l.length ≤ 7) : 0 ≤ be l ∧ be l < 72057594037927936 := by
  have := be_bd l.length l rfl
  have h2 : l.length = 0 ∨ l.length = 1 ∨ l.length = 2 ∨ l.length = 3 ∨ l.length = 4 ∨ l.length = 5 ∨ l.length = 6 ∨ l.length = 7 := by omega
  rcases h2 with e | e | e | e | e | e | e | e <;> rw [e] at this <;> simp at this <;> omega
set_option maxHeartbeats 2000000 in
set_option maxRecDepth 100000 in
theorem get_ok (b o cap : Nat) (l : By) (w : World) (h0 : 0 < l.length) (h8 : l.length ≤ 8) (hb : b < w.heap.size) (hc : ∀ (j : Nat) (u : UInt8), l[j]? = some u → w.cell? ⟨b, o + j, none⟩ = some (.int .u8 (u.toNat : Int))) :
    Calls Tryz.prog 130 #[.slice (some ⟨b, o, none⟩) l.length cap] w fun e w' => e = .returned (.tuple #[.int .u64 (be l), .bool true]) ∧ w = w' := by
  obtain ⟨n, hn⟩ : ∃ n, n = l.length := ⟨_, rfl⟩
  obtain ⟨r, hr⟩ : ∃ r, r = be l := ⟨_, rfl⟩
  rw [← hn] at h0 h8
  rw [← hr, ← hn]
  have H := Lib.hid (And.intro hn (And.intro hr hc))
  have t1 : decide ((n : Int) < 1) = false := by simp; omega
  have t2 : decide ((8 : Int) < (n : Int)) = false := by simp; omega
  clear hn hr hc
  go_enter Tryz.func130, Tryz.ntmps130
  go_wp2_with fail
  go_loopw [4, 17] (fun v t wr => ∃ i : Nat, v = .int .u64 (be (l.take i)) ∧ t = .int .i64 i ∧ i ≤ n ∧ w = wr) (fun _ t _ => n - (intOf t).toNat)
  case atStart => exact ⟨0, rfl, rfl, by omega, rfl⟩
  case round =>
    obtain ⟨i, rfl, rfl, hi, rfl⟩ := hrel
    obtain ⟨hn, hr, hc⟩ := H.out
    by_cases hlt : i < n
    · have m0 : (0 : Int) ≤ (i : Int) := by omega
      have m1 : (i : Int) < (n : Int) := by omega
      obtain ⟨c, hci⟩ : ∃ c, l[i]? = some c := ⟨_, List.getElem?_eq_getElem (by omega)⟩
      have hcell := hc i c hci
      have hbe := be_take l i c hci
      have hcn := c.toNat_lt
      have hsm := be_small (l.take i) (by rw [List.length_take]; omega)
      obtain ⟨x, hx⟩ : ∃ x, x = be (l.take i) := ⟨_, rfl⟩
      obtain ⟨y, hy⟩ : ∃ y : Int, y = (c.toNat : Int) := ⟨_, rfl⟩
      rw [← hx] at hsm hbe ⊢
      rw [← hy] at hcell hbe
      have hor := or_low x y hsm.1 hsm.2 (by omega) (by omega)
      have y0 : 0 ≤ y := by omega
      have y1 : y < 256 := by omega
      have HB := Lib.hid hbe
      have HY := Lib.hid (And.intro hx hy)
      clear hbe hx hy hci hn hr hc hcn
      go_wp2_with fail
      rw [← HB.out]
      go_roundw
      case rel => exact ⟨i + 1, rfl, by go_num, by omega, by first | rfl | trivial⟩
      case measure => simp [intOf]; omega
    · have hin : i = n := by omega
      subst hin
      have he : l.take i = l := by rw [hn]; exact List.take_length
      rw [he, ← hr]
      clear hc hr hn he
      go_wp2_with fail
      go_ret2
      exact ⟨rfl, rfl⟩
theorem pairOf_u (l : By) (h : l.length = 16) : U2 (pairOf l) := ⟨be_u _ (by rw [List.length_take]; omega), be_u _ (by rw [List.length_drop]; omega)⟩
set_option maxHeartbeats 2000000 in
set_option maxRecDepth 100000 in
theorem wpair_ok (p : Nat → Prop) (v : Value) (l : By) (w : World) (h : HasP p w v l) (hl : l.length = 16) :
    Calls Tryz.prog 89 #[v] w fun e w' => e = .returned (.tuple #[pv (pairOf l), .bool true]) ∧ Below w.heap.size w w' := by
  obtain ⟨b, o, cap, rfl, _, hb, hc1, hc2, hc⟩ := h.eight hl (by decide)
  have t8 : (l.take 8).length = 8 := by rw [List.length_take]; omega
  have d8 : (l.drop 8).length = 8 := by rw [List.length_drop]; omega
  have g1 := fun W (hb' : b < W.heap.size) (hk : W.heap[b]? = w.heap[b]?) c => get_ok b o c (l.take 8) W (by omega) (by omega) hb' (fun j u hj => by
    rw [List.getElem?_take] at hj
    split at hj
    · rw [← hc j u hj]; simp only [World.cell?, hk]
    · cases hj)
  have g2 := fun W (hb' : b < W.heap.size) (hk : W.heap[b]? = w.heap[b]?) c => get_ok b (o + 8) c (l.drop 8) W (by omega) (by omega) hb' (fun j u hj => by
    rw [List.getElem?_drop] at hj
    rw [Nat.add_assoc, ← hc (8 + j) u hj]; simp only [World.cell?, hk])
  have c8 : 8 ≤ cap := by omega
  have hcap : cap ≤ 9223372036854775807 := by unfold maxLen at hc2; omega
  obtain ⟨x, hx⟩ : ∃ x, x = be (l.take 8) := ⟨_, rfl⟩
  obtain ⟨y, hy⟩ : ∃ y, y = be (l.drop 8) := ⟨_, rfl⟩
  rw [t8, ← hx] at g1
  rw [d8, ← hy] at g2
  have HX := Lib.hid (And.intro hx hy)
  have HG := Lib.hid (And.intro g1 g2)
  unfold pairOf pv
  simp only
  rw [← hx, ← hy]
  clear hx hy g1 g2 hc t8 d8 h hl
  go_enter Tryz.func89, Tryz.ntmps89
  go_wp2_with fail
  refine (HG.out.1 _ (by simp; omega) (Below.heap_alloc w _ b hb) cap).mono ?_
  rintro e w1 ⟨rfl, rfl⟩
  go_wp2_with fail
  refine (HG.out.2 _ (by simp; omega) (Below.heap_alloc w _ b hb) _).mono ?_
  rintro e w1 ⟨rfl, rfl⟩
  go_wp2_with fail
  have hB := Blk.new w 101 #[.int .u64 x, .int .u64 y]
  exact ret_cell_tmp 2 101 3 (by rfl) w.heap.size 0 (by rfl) (.bool true) (by rfl) [.int .u64 x, .int .u64 y] _ hB.range Tryz.underlying101 rfl sz101 rfl ⟨rfl, (Below.refl _ _).alloc (Nat.le_refl _) _⟩
end Go.Proofs.YtggmdjdflaglpaaGreat
namespace Go.Proofs.YtggmdjdflaglpaaGreat
open Go.RowKit
set_option linter.unusedVariables false
theorem u2_mk {a b : Int} (h : U64 a) (k : U64 b) : U2 (a, b) := ⟨h, k⟩
set_option maxHeartbeats 2000000 in
set_option maxRecDepth 100000 in
theorem fsub_ok (key : Two) (n : Nce) (w : World) (hk : U2 key) (hn : n.ok) :
    Calls Tryz.prog 82 #[pv key, nv n] w fun e w' => e = .returned (pv (fsub key n)) ∧ Below w.heap.size w w' := by
  have he := fun W => enc_ok key (bits .or .u64 (n.ep * 4294967296) n.slot, n.ver) W hk (u2_mk (u64_bits _ _ _) hn.2.2)
  have hF : fsub key n = enc key (bits .or .u64 (n.ep * 4294967296) n.slot, n.ver) := rfl
  obtain ⟨⟨e0, e1⟩, ⟨s0, s1⟩, ⟨v0, v1⟩⟩ := hn
  obtain ⟨k0, k1⟩ := key
  obtain ⟨ep, sl, ver⟩ := n
  simp only at e0 e1 s0 s1 v0 v1 he
  obtain ⟨x, hx⟩ : ∃ x, x = (fsub (k0, k1) ⟨ep, sl, ver⟩).1 := ⟨_, rfl⟩
  obtain ⟨y, hy⟩ : ∃ y, y = (fsub (k0, k1) ⟨ep, sl, ver⟩).2 := ⟨_, rfl⟩
  unfold pv
  rw [← hx, ← hy]
  rw [hF] at hx hy
  simp only at hx hy
  rw [← hx, ← hy] at he
  unfold nv
  simp only
  clear hF hx hy hk
  obtain ⟨W0, hW0⟩ : ∃ W0, W0 = ((w.alloc (.cells #[.int .u64 k0, .int .u64 k1] 101)).alloc (.cells #[.int .u32 ep, .int .u32 sl, .int .u64 ver] 99)).alloc (.cells #[.int .u64 0, .int .u64 0] 101) := ⟨_, rfl⟩
  have q0 : Below w.heap.size w W0 := by rw [hW0]; exact (((Below.refl _ _).alloc (Nat.le_refl _) _).alloc (by simp) _).alloc (by simp; omega) _
  have hB : Blk W0 (w.heap.size + 1 + 1) 101 #[.int .u64 0, .int .u64 0] := by
    rw [hW0]
    have := Blk.new ((w.alloc (.cells #[.int .u64 k0, .int .u64 k1] 101)).alloc (.cells #[.int .u32 ep, .int .u32 sl, .int .u64 ver] 99)) 101 #[.int .u64 0, .int .u64 0]
    rw [World.size_alloc, World.size_alloc] at this
    exact this
  have HW := Lib.hid hW0
  have H0 := Lib.hid (And.intro q0 hB)
  clear hW0 q0 hB
  go_enter Tryz.func82, Tryz.ntmps82
  go_wp2_with fail
  rw [← HW.out]
  refine (he _).mono ?_
  rintro e w1 ⟨rfl, q1⟩
  clear he
  obtain ⟨q0, hB⟩ := H0.out
  have q2 := q0.trans (q1.mono q0.size)
  have hB1 := hB.below_ q1
  have f0 := hB1.frozen 0
  have f1 := hB1.frozen 1
  have c0 := hB1.cell_ 0 rfl
  have c1 := hB1.cell_ 1 rfl
  have lb := hB1.lt
  have H1 := Lib.hid (And.intro q2 hB1)
  clear q0 hB q1 q2 hB1
  go_wp2_with fail
  obtain ⟨q2, hB1⟩ := H1.out
  have hf := (hB1.set_to 0 (.int .u64 x) (cs' := #[.int .u64 x, .int .u64 0]) rfl).set_to 1 (.int .u64 y) (cs' := [.int .u64 x, .int .u64 y].toArray) rfl
  exact ret_cell 4 101 (by rfl) (w.heap.size + 1 + 1) 0 (by rfl) [.int .u64 x, .int .u64 y] _ hf.range Tryz.underlying101 rfl sz101 rfl ⟨rfl, below_only q2 (only_set2 _ _ _ _ _ _) q2.size (by omega)⟩
theorem fsub_u (key : Two) (n : Nce) (hk : U2 key) (hn : n.ok) : U2 (fsub key n) := enc_u _ _ (u2_mk (u64_bits _ _ _) hn.2.2)
theorem xor_u8 (x y : UInt8) : bits .xor .u8 (x.toNat : Int) (y.toNat : Int) = (((x ^^^ y).toNat : Nat) : Int) := by
  have hx := x.toNat_lt
  have hy := y.toNat_lt
  have e : (BitVec.ofInt 8 (x.toNat : Int) ^^^ BitVec.ofInt 8 (y.toNat : Int)).toNat = (x ^^^ y).toNat := by
    rw [BitVec.toNat_xor, BitVec.toNat_ofInt, BitVec.toNat_ofInt, UInt8.toNat_xor]
    have e1 : ((x.toNat : Int) % ((2 ^ 8 : Nat) : Int)).toNat = x.toNat := by omega
    have e2 : ((y.toNat : Int) % ((2 ^ 8 : Nat) : Int)).toNat = y.toNat := by omega
    rw [e1, e2]
  show IntKind.u8.wrap ((BitVec.ofInt 8 (x.toNat : Int) ^^^ BitVec.ofInt 8 (y.toNat : Int)).toNat : Int) = _
  rw [e]
  have hz := (x ^^^ y).toNat_lt
  exact IntWalk.u8_in _ ⟨by omega, by omega⟩
/-- i bytes are done -/
def xpart (c : By) (i : Nat) : By := c.take i ++ List.replicate (c.length - i) 0
theorem xpart_zero (c : By) : xpart c 0 = List.replicate c.length 0 := by simp [xpart]
theorem xpart_all (c : By) : xpart c c.length = c := by simp [xpart]
theorem xpart_len (c : By) (i : Nat) (h : i ≤ c.length) : (xpart c i).length = c.length := by simp [xpart]; omega
theorem xpart_set (c : By) (i : Nat) (u : UInt8) (h : c[i]? = some u) : (bvals (xpart c i)).toArray.setIfInBounds i (.int .u8 (u.toNat : Int)) = (bvals (xpart c (i + 1))).toArray := by
  have hi : i < c.length := (List.getElem?_eq_some_iff.1 h).1
  have e : (xpart c i).set i u = xpart c (i + 1) := by
    unfold xpart
    have e1 : c.length - i = (c.length - (i + 1)) + 1 := by omega
    have hl : (c.take i).length = i := by rw [List.length_take]; omega
    rw [List.set_append_right _ _ (by omega), hl, Nat.sub_self, e1, List.replicate_succ, List.set_cons_zero, List.take_add_one, h]
    simp
  rw [← e]
  unfold bvals
  rw [List.map_set]
  simp
theorem fxor_at {a b : By} {i : Nat} {x y : UInt8} (ha : a[i]? = some x) (hb : b[i]? = some y) : (fxor a b)[i]? = some (x ^^^ y) := by
  unfold fxor
  rw [List.getElem?_zipWith, ha, hb]
theorem fxor_len (a b : By) : (fxor a b).length = min a.length b.length := by simp [fxor]
theorem HasP.atN {p : Nat → Prop} {w : World} {A : Option Addr} {n c : Nat} {l : By} (h : HasP p w (.slice A n c) l) {i : Nat} {u : UInt8} (hi : l[i]? = some u) : ∃ b o, A = some ⟨b, o, none⟩ ∧ p b ∧ b < w.heap.size ∧ w.cell? ⟨b, o + i, none⟩ = some (.int .u8 (u.toNat : Int)) := by
  rcases h with ⟨_, rfl⟩ | ⟨b, o, cap, h1, h2, h3, _, _, h6⟩
  · simp at hi
  · injection h1 with h1 _ _
    exact ⟨b, o, h1, h2, h3, h6 i u hi⟩
set_option maxHeartbeats 2000000 in
set_option maxRecDepth 100000 in
theorem fxor_ok (p q : Nat → Prop) (va vb : Value) (a b : By) (w : World) (ha : HasP p w va a) (hb : HasP q w vb b) (hl : a.length = b.length) (hl2 : a.length ≤ 4000) :
    Calls Tryz.prog 83 #[va, vb] w fun e w' => ∃ v, e = .returned v ∧ OwnB w.heap.size w' v (fxor a b) ∧ Below w.heap.size w w' := by
  obtain ⟨A, ca, rfl⟩ := ha.slice
  obtain ⟨B, cb, rfl⟩ := hb.slice
  obtain ⟨n, hn⟩ : ∃ n, n = a.length := ⟨_, rfl⟩
  have hnb : b.length = n := by omega
  have hc : (fxor a b).length = n := by rw [fxor_len]; omega
  obtain ⟨c, hcc⟩ : ∃ c, c = fxor a b := ⟨_, rfl⟩
  have hm := fun W => make_bytes n (by omega) W
  have hz := xpart_zero c
  rw [hcc, hc, ← hcc] at hz
  rw [← hz] at hm
  rw [hnb] at hb
  rw [← hn] at ha
  rw [← hcc] at hc ⊢
  rw [← hn, hnb]
  have hst : Blk (w.alloc (.cells (bvals (xpart c 0)).toArray 5)) w.heap.size 5 (bvals (xpart c 0)).toArray := Blk.new w 5 _
  have q0 : Below w.heap.size w (w.alloc (.cells (bvals (xpart c 0)).toArray 5)) := (Below.refl _ _).alloc (Nat.le_refl _) _
  have H := Lib.hid (And.intro ha (And.intro hb (And.intro hcc (And.intro hc (And.intro hn hnb)))))
  have H0 := Lib.hid (And.intro hst q0)
  have hn4 : n ≤ 4000 := by omega
  clear ha hb hcc hc hz hn hnb hst q0 hl hl2
  go_enter Tryz.func83, Tryz.ntmps83
  go_wp2_with fail
  go_loopw [6, 15] (fun _ t wr => ∃ i : Nat, t = .int .i64 i ∧ i ≤ n ∧ Blk wr w.heap.size 5 (bvals (xpart c i)).toArray ∧ Below w.heap.size w wr) (fun _ t _ => n - (intOf t).toNat)
  case atStart => exact ⟨0, rfl, by omega, H0.out.1, H0.out.2⟩
  case round =>
    obtain ⟨i, rfl, hi, hB, hq⟩ := hrel
    by_cases hlt : i < n
    · obtain ⟨ha, hb, hcc, hc, hn, hnb⟩ := H.out
      have i0 : (0 : Int) ≤ (i : Int) := by omega
      have i1 : (i : Int) < (n : Int) := by omega
      obtain ⟨x, hx⟩ : ∃ x, a[i]? = some x := ⟨_, List.getElem?_eq_getElem (by omega)⟩
      obtain ⟨y, hy⟩ : ∃ y, b[i]? = some y := ⟨_, List.getElem?_eq_getElem (by omega)⟩
      have hcx : c[i]? = some (x ^^^ y) := by rw [hcc]; exact fxor_at hx hy
      obtain ⟨ab, ao, rfl, _, al, ac⟩ := ha.atN hx
      obtain ⟨bb, bo, rfl, _, bl, bc⟩ := hb.atN hy
      have ac2 := (hq.cell (p := ⟨ab, ao + i, none⟩) al).trans ac
      have bc2 := (hq.cell (p := ⟨bb, bo + i, none⟩) bl).trans bc
      have hxy := xor_u8 x y
      have hset := xpart_set c i _ hcx
      obtain ⟨x0, hx0⟩ : ∃ x0, (xpart c i)[i]? = some x0 := ⟨_, List.getElem?_eq_getElem (by rw [xpart_len c i (by omega)]; omega)⟩
      have oc : wr.cell? ⟨w.heap.size, i, none⟩ = some (.int .u8 (x0.toNat : Int)) := hB.cell_ i (by rw [List.getElem?_toArray, bvals_at, hx0]; rfl)
      have of := hB.frozen i
      have ol := hB.lt
      have al2 := Nat.lt_of_lt_of_le al hq.size
      have bl2 := Nat.lt_of_lt_of_le bl hq.size
      obtain ⟨X, hX⟩ : ∃ X : Int, X = (x.toNat : Int) := ⟨_, rfl⟩
      obtain ⟨Y, hY⟩ : ∃ Y : Int, Y = (y.toNat : Int) := ⟨_, rfl⟩
      obtain ⟨Z, hZ⟩ : ∃ Z : Int, Z = (((x ^^^ y).toNat : Nat) : Int) := ⟨_, rfl⟩
      rw [← hX, ← hY, ← hZ] at hxy
      rw [← hX] at ac ac2
      rw [← hY] at bc bc2
      rw [← hZ] at hset
      have HR := Lib.hid (And.intro hset (And.intro hB hq))
      clear ha hb hcc hc hn hnb hx hy hcx hset hx0 hX hY hZ hB hq
      go_wp2_with fail
      go_region
      obtain ⟨hset, hB, hq⟩ := HR.out
      have hB2 : Blk (wr.setCell ⟨w.heap.size, i, none⟩ (.int .u8 Z)) w.heap.size 5 (bvals (xpart c (i + 1))).toArray := hB.set_to i _ hset
      have hq2 := below_only hq (only_setCell (p := ⟨w.heap.size, i, none⟩) (only_refl wr (some w.heap.size)) (.inl rfl) (.int .u8 Z)) hq.size (Nat.le_refl _)
      clear hset hB hq
      go_wp2_with fail
      go_roundw
      case rel => exact ⟨i + 1, by go_num, by omega, hB2.drew, hq2.drew⟩
      case measure => simp [intOf]; omega
    · have hin : i = n := by omega
      subst hin
      have hall : xpart c i = c := by rw [← H.out.2.2.2.1]; exact xpart_all c
      rw [hall] at hB
      go_wp2_with fail
      go_ret
      have := OwnB.of_blk (B := w.heap.size) hB (by rw [H.out.2.2.2.1]; unfold maxLen; omega) (Nat.le_refl _)
      rw [H.out.2.2.2.1] at this
      exact ⟨_, rfl, this, hq⟩
theorem fbytesTo_succ (sub : Two) (i : Nat) : fbytesTo sub (i + 1) = fbytesTo sub i ++ pairB (enc sub ((i : Int) + 1, 0)).1 (enc sub ((i : Int) + 1, 0)).2 := by
  unfold fbytesTo
  rw [List.range_succ, List.flatMap_append]
  simp
theorem u2_i (j : Nat) (hj : j ≤ 1000000) : U2 ((j : Int) + 1, 0) := ⟨⟨by simp only; omega, by simp only; omega⟩, ⟨by simp only; omega, by simp only; omega⟩⟩
set_option maxHeartbeats 4000000 in
set_option maxRecDepth 100000 in
theorem fbytes_ok (sub : Two) (n : Nat) (w : World) (hs : U2 sub) (hn : n ≤ 4000) :
    Calls Tryz.prog 84 #[pv sub, .int .i64 n] w fun e w' => ∃ v, e = .returned v ∧ HasP (w.heap.size ≤ ·) w' v (fbytes sub n) ∧ Below w.heap.size w w' := by
  obtain ⟨i0, hi, hz0, hz1, hz2⟩ := info_parts info5
  obtain ⟨s0, s1⟩ := sub
  have he := fun (j : Nat) (hj : j ≤ 1000000) W => enc_ok (s0, s1) ((j : Int) + 1, 0) W hs (u2_i j hj)
  have hu := fun (j : Nat) (hj : j ≤ 1000000) => enc_u (s0, s1) ((j : Int) + 1, 0) (u2_i j hj)
  have hby := fun (x y : Int) (hx : U64 x) (hy : U64 y) W => bytes_ok x y W hx.1 hx.2 hy.1 hy.2
  have HE := Lib.hid (And.intro he (And.intro hu hby))
  have t1 : decide ((n : Int) < 0) = false := by simp
  have t2 : decide ((4000 : Int) < (n : Int)) = false := by simp; omega
  unfold pv
  simp only
  clear he hu hby hs
  have hB0 : Blk (w.alloc (.cells #[.int .u64 s0, .int .u64 s1] 101)) w.heap.size 101 #[.int .u64 s0, .int .u64 s1] := Blk.new w 101 _
  have q0 : Below w.heap.size w (w.alloc (.cells #[.int .u64 s0, .int .u64 s1] 101)) := (Below.refl _ _).alloc (Nat.le_refl _) _
  have H0 := Lib.hid (And.intro hB0 q0)
  clear hB0 q0
  go_enter Tryz.func84, Tryz.ntmps84
  go_wp2_with fail
  go_loopw [5, 6] (fun r t wr => ∃ (j : Nat) (V : Value), V = r ∧ t = .int .u64 ((j : Int) + 1) ∧ j ≤ (n + 15) / 16 ∧ OwnB (w.heap.size + 1) wr V (fbytesTo (s0, s1) j) ∧ Blk wr w.heap.size 101 #[.int .u64 s0, .int .u64 s1] ∧ Below w.heap.size w wr) (fun _ t _ => 1000 - (intOf t).toNat)
  case atStart => exact ⟨0, _, rfl, by go_num, by omega, OwnB.nil _ _, H0.out.1, H0.out.2⟩
  case round =>
    obtain ⟨j, V, rfl, rfl, hj, hO, hB, hq⟩ := hrel
    have hlen := fbytesTo_len (s0, s1) j
    obtain ⟨A, cp, hV⟩ := hO.has.slice
    subst hV
    obtain ⟨L, hL⟩ : ∃ L, L = (fbytesTo (s0, s1) j).length := ⟨_, rfl⟩
    have hL16 : L = 16 * j := hL.trans hlen
    rw [← hL]
    by_cases hlt : L < n
    · obtain ⟨he, hu, hby⟩ := HE.out
      have hj6 : j ≤ 1000000 := by omega
      have he' := he j hj6
      have hu' := hu j hj6
      have hsucc := fbytesTo_succ (s0, s1) j
      obtain ⟨X, hX⟩ : ∃ X, X = (enc (s0, s1) ((j : Int) + 1, 0)).1 := ⟨_, rfl⟩
      obtain ⟨Y, hY⟩ : ∃ Y, Y = (enc (s0, s1) ((j : Int) + 1, 0)).2 := ⟨_, rfl⟩
      have hx1 : U64 X := by rw [hX]; exact hu'.1
      have hy1 : U64 Y := by rw [hY]; exact hu'.2
      rw [← hX, ← hY] at he' hsucc
      have hby' := hby X Y hx1 hy1
      have hLn : (L : Int) < (n : Int) := by omega
      have c0 := hB.cell_ 0 rfl
      have c1 := hB.cell_ 1 rfl
      have lb := hB.lt
      have jw : (j : Int) + 1 < 1000 := by omega
      rw [← hL] at hO
      have HO2 := Lib.hid (And.intro hO (And.intro hB (And.intro hq (And.intro hsucc (And.intro hL hL16)))))
      clear he hu hby hu' hX hY hx1 hy1 hsucc hO hB hq hlen hL hL16 hlt
      go_wp2_with fail
      refine (he' _).mono ?_
      rintro e w1 ⟨rfl, q1⟩
      clear he'
      have HQ1 := Lib.hid q1
      clear q1
      go_wp2_with fail
      refine (hby' _).mono ?_
      rintro e w2 ⟨v2, rfl, o2, q2⟩
      clear hby' c0 c1 lb
      obtain ⟨hO, hB, hq, hsucc, hL, hL16⟩ := HO2.out
      have q1 := HQ1.out
      obtain ⟨mm, hmm⟩ : ∃ mm, mm = (pairB X Y).length := ⟨_, rfl⟩
      have hm1 : mm ≤ 16 := by rw [hmm, pairB_len]; omega
      obtain ⟨b1, p1, cap1, rfl, _, hb1, _, _, hc1⟩ := o2.has.eight hmm.symm (by rw [hmm, pairB_len]; omega)
      have HM := Lib.hid hmm
      clear hmm
      have hO2 := (hO.below_ q1).below_ q2
      have hB2 := (hB.below_ q1).below_ q2
      have hq2 := (hq.trans (q1.mono hq.size)).trans (q2.mono ((hq.trans (q1.mono hq.size)).size))
      clear o2
      have hszz := hB2.lt
      have hll : (fbytesTo (s0, s1) j).length ≤ 100000 := by rw [← hL, hL16]; omega
      clear hL16 hL hsucc hO hB hq q1 q2
      go_wp2_with (at_builtin; go_loud (refine wpList_append_own _ rfl _ _ 32 rfl (w.heap.size + 1) 5 i0 (.int .u8 0) 1 1 Tryz.underlying32 hi hz0 hz1 hz2 rfl (by decide) _ _ _ rfl hO2 ⟨b1, p1, none⟩ mm cap1 (bvals (pairB X Y)) rfl (by rw [bvals_len, HM.out]; simp) (ex_slice (fun _ => True) _ b1 p1 cap1 (pairB X Y) hc1) (bvals_one (pairB X Y)) (by unfold maxLen; omega) (by omega) (Nat.succ_le_of_lt hszz) ?_; intro v' w3 hown3 hgrow3 hnil3; go_frame))
      obtain ⟨_, _, _, hsucc, hL, _⟩ := HO2.out
      have hO3 : OwnB (w.heap.size + 1) w3 v' (fbytesTo (s0, s1) (j + 1)) := by rw [hsucc]; exact OwnB.of hown3 (by rw [List.length_append, HM.out]) (by rw [bvals_app])
      have hq3 := hq2.grown hgrow3 hq2.size (fun k hk => by have := (hO2.ge hk).1; omega)
      have hB3 := hB2.grown hgrow3 (fun e => by have := (hO2.ge e.symm).1; omega)
      clear hown3 hgrow3 hnil3 hsucc hL hO2 hB2 hq2 hll
      go_wp2_with fail
      go_roundw
      case rel => exact ⟨j + 1, _, rfl, by go_num, by omega, hO3, hB3, hq3⟩
      case measure => simp [intOf]; omega
    · have hje : j = (n + 15) / 16 := by omega
      have hnL : n ≤ L := by omega
      have m1 : ¬ ((L : Int) < (n : Int)) := by omega
      have m2 : (n : Int) ≤ (L : Int) := by omega
      rw [← hL] at hO
      have hfb : fbytes (s0, s1) n = (fbytesTo (s0, s1) j).take n := by unfold fbytes; rw [hje]
      have hfl : (fbytes (s0, s1) n).length = n := fbytes_len _ _
      have hh := hO.has
      have HF := Lib.hid (And.intro hfb (And.intro hfl (And.intro hL hq)))
      rcases hh with ⟨h1, h2⟩ | ⟨b, o, cap, h1, hb1, hb2, h3, h4, h5⟩
      · injection h1 with e1 e2 e3
        subst e1
        have hn0 : n = 0 := by omega
        clear HF hfl hfb
        subst hn0
        have hL0 : L = 0 := by omega
        subst hL0
        subst e3
        have HQ := Lib.hid hq
        clear hO hL hlen hje hB hq h2 e2 hL16 hlt hnL hn hj m1 m2 H0 HE
        go_wp2_with fail
        go_ret
        exact ⟨_, rfl, .inl ⟨rfl, List.eq_nil_of_length_eq_zero (fbytes_len _ _)⟩, HQ.out⟩
      · injection h1 with e1 e2 e3
        subst e1
        subst e3
        rw [← hL] at h3
        have hcp : cp ≤ 9223372036854775807 := by unfold maxLen at h4; omega
        have hLcp : L ≤ cp := h3
        have HQ := Lib.hid (And.intro hq (And.intro hb1 (And.intro hb2 (And.intro h4 h5))))
        have hnc : n ≤ cp := by omega
        clear hO hfb hfl hL hlen hje hB hq h5 hb1 e2
        go_wp2_with fail
        go_ret
        obtain ⟨hq, hb1, hb2, h4, h5⟩ := HQ.out
        obtain ⟨hfb, hfl, hL, _⟩ := HF.out
        refine ⟨_, rfl, .inr ⟨b, o, cp, by rw [hfl]; rfl, by show w.heap.size ≤ b; omega, hb2, by rw [hfl]; exact hnc, h4, fun i u hi => ?_⟩, hq⟩
        refine h5 i u ?_
        rw [hfb, List.getElem?_take] at hi
        split at hi
        · exact hi
        · cases hi
end Go.Proofs.YtggmdjdflaglpaaGreat
namespace Go.Proofs.YtggmdjdflaglpaaGreat
open Go.RowKit
set_option linter.unusedVariables false
def pvals (l : List Two) : List Value := l.flatMap (fun p => [.int .u64 p.1, .int .u64 p.2])
theorem pvals_app (a b : List Two) : pvals (a ++ b) = pvals a ++ pvals b := by simp [pvals]
theorem pvals_len (l : List Two) : (pvals l).length = l.length * 2 := by
  induction l with
  | nil => rfl
  | cons p l ih =>
    have : pvals (p :: l) = [.int .u64 p.1, .int .u64 p.2] ++ pvals l := rfl
    rw [this, List.length_append, ih]
    simp
    omega
theorem pvals_one (l : List Two) : ∀ v ∈ pvals l, v.oneCell' = true := fun v hv => by
  unfold pvals at hv
  rw [List.mem_flatMap] at hv
  obtain ⟨p, _, hp⟩ := hv
  simp at hp
  rcases hp with rfl | rfl <;> rfl
abbrev OwnP (B : Nat) (w : World) (v : Value) (l : List Two) : Prop := w.ownsRow B 101 2 v l.length (pvals l)
theorem OwnP.keep {B : Nat} {w w' : World} {v : Value} {l : List Two} (h : OwnP B w v l) (hk : ∀ b, b < w.heap.size → v.ownBlock = some b → w'.heap[b]? = w.heap[b]?) : OwnP B w' v l := by
  obtain ⟨h1, h2⟩ := h
  refine ⟨h1, ?_⟩
  rcases h2 with h2 | ⟨r, c, cur, rfl, a2, a3, a4⟩
  · exact .inl h2
  · exact .inr ⟨r, c, cur, rfl, a2, (hk r (Array.getElem?_eq_some_iff.1 a3).1 rfl).trans a3, a4⟩
theorem OwnP.ge {B : Nat} {w : World} {v : Value} {l : List Two} (h : OwnP B w v l) {j : Nat} (hj : v.ownBlock = some j) : B ≤ j ∧ j < w.heap.size := by
  rcases h.2 with ⟨rfl, _⟩ | ⟨r, c, cur, rfl, a2, a3, _⟩
  · simp [Value.ownBlock] at hj
  · simp [Value.ownBlock] at hj
    subst hj
    exact ⟨a2, (Array.getElem?_eq_some_iff.1 a3).1⟩
theorem OwnP.of {B : Nat} {w : World} {v : Value} {l : List Two} {n : Nat} {xs : List Value} (h : w.ownsRow B 101 2 v n xs) (hn : n = l.length) (hx : xs = pvals l) : OwnP B w v l := by subst hn hx; exact h
theorem pad16_len (x : By) (h : x.length ≤ 16) : (pad16 x).length = 16 := by simp [pad16]; omega
theorem pad16_u (x : By) (h : x.length ≤ 16) : U2 (pairOf (pad16 x)) := pairOf_u _ (pad16_len x h)
/-- a copy into 16 noughts -/
theorem copy16 {w : World} {g b q s c : Nat} {x : By} (h : Blk w g 5 (bvals (List.replicate 16 0)).toArray) (hx : x.length = min 16 s) (hc : ∀ (j : Nat) (u : UInt8), x[j]? = some u → w.cell? ⟨b, q + j, none⟩ = some (.int .u8 (u.toNat : Int))) :
    ∃ w', (Builtin.copy_ #[32, 32] 3 #[.slice (some ⟨g, 0, none⟩) 16 16, .slice (some ⟨b, q, none⟩) s c]).run Tryz.prog w = .ok (.int .i64 x.length) w' ∧ Blk w' g 5 (bvals (pad16 x)).toArray ∧ w.grownBy w' (some g) := by
  have hr := run_copy_row (P := Tryz.prog) w 32 32 3 5 g 0 16 16 ⟨b, q, none⟩ s c (bvals (List.replicate 16 0)).toArray 5 (bvals x) Tryz.underlying32 info5s h
    (by rw [bvals_len]; exact hx.trans (Nat.min_comm _ _)) (ex_slice (fun _ => True) w b q c x hc) (by rw [bvals_len, List.size_toArray, bvals_len]; simp; omega) (bvals_one _)
  have e : (List.take 0 (bvals (List.replicate 16 0)).toArray.toList ++ bvals x ++ List.drop (0 + (bvals x).length) (bvals (List.replicate 16 0)).toArray.toList).toArray = (bvals (pad16 x)).toArray := by
    rw [List.toList_toArray, List.take_zero, List.nil_append, Nat.zero_add, bvals_len]
    unfold pad16
    rw [bvals_app]
    have hd : List.drop x.length (bvals (List.replicate 16 0)) = bvals (List.replicate (16 - x.length) 0) := by
      unfold bvals
      rw [← List.map_drop, List.drop_replicate]
    rw [hd]
  rw [e] at hr
  refine ⟨_, by rw [hr, bvals_len]; rfl, ?_, ?_⟩
  · show (w.setRow g _).heap[g]? = _
    unfold World.setRow
    rw [Array.getElem?_modify, h]
    simp
  · refine ⟨rfl, rfl, rfl, by simp [World.setRow], fun i hi hn => ?_⟩
    simp only [World.setRow, Array.getElem?_modify]
    rw [if_neg]
    rintro rfl
    exact hn rfl
def z16 : By := List.replicate 16 0
theorem copy16_v {w : World} {g b q s c m : Nat} {x : By} (h : Blk w g 5 (bvals (z16)).toArray) (hx : x.length = min 16 s) (hm : m = x.length) (hc : ∀ (j : Nat) (u : UInt8), x[j]? = some u → w.cell? ⟨b, q + j, none⟩ = some (.int .u8 (u.toNat : Int))) :
    ∃ w', (Builtin.copy_ #[32, 32] 3 #[.slice (some ⟨g, 0, none⟩) 16 16, .slice (some ⟨b, q, none⟩) s c]).run Tryz.prog w = .ok (.int .i64 m) w' ∧ Blk w' g 5 (bvals (pad16 x)).toArray ∧ w.grownBy w' (some g) := by
  subst hm
  exact copy16 h hx hc
set_option maxHeartbeats 2000000 in
set_option maxRecDepth 100000 in
theorem pairs_nil (A : Option Addr) (ca : Nat) (w : World) : Calls Tryz.prog 125 #[.slice A 0 ca] w fun e w' => e = .returned (.slice none 0 0) ∧ w = w' := by
  go_enter Tryz.func125, Tryz.ntmps125
  go_wp2_with fail
  go_loopw [0, 3] (fun t r wr => t = .slice A 0 ca ∧ r = .slice none 0 0 ∧ w = wr) (fun _ _ _ => 0)
  case atStart => exact ⟨rfl, rfl, rfl⟩
  case round =>
    obtain ⟨rfl, rfl, rfl⟩ := hrel
    go_wp2_with fail
    go_ret
    exact ⟨rfl, rfl⟩
set_option maxHeartbeats 4000000 in
set_option maxRecDepth 100000 in
theorem pairs_ok (p : Nat → Prop) (v : Value) (b : By) (w : World) (h : HasP p w v b) (hl : b.length ≤ 4000) :
    Calls Tryz.prog 125 #[v] w fun e w' => ∃ v', e = .returned v' ∧ OwnP w.heap.size w' v' (gpairs b) ∧ Below w.heap.size w w' := by
  by_cases hne : b = []
  · obtain ⟨A, ca, rfl⟩ := h.slice
    subst hne
    refine (pairs_nil A ca w).mono ?_
    rintro e w' ⟨rfl, rfl⟩
    exact ⟨_, rfl, ⟨rfl, .inl ⟨rfl, rfl⟩⟩, Below.refl _ _⟩
  · obtain ⟨bb, o, cap, rfl, _, hb, hc1, hc2, hc⟩ := h.spot hne
    obtain ⟨n, hn⟩ : ∃ n, n = b.length := ⟨_, rfl⟩
    have hn0 : 0 < n := by rw [hn]; exact List.length_pos_iff.2 hne
    rw [← hn] at hc1 hl ⊢
    have H := Lib.hid (And.intro hn hc)
    have hcap : cap ≤ 9223372036854775807 := by unfold maxLen at hc2; omega
    have hm : ∀ W : World, (Instr.makeSlice 32 (.int .i64 16) (.int .i64 16)).run Tryz.prog W = .ok (.slice (some ⟨W.heap.size, 0, none⟩) 16 16) (W.alloc (.cells (bvals (z16)).toArray 5)) := fun W => make_bytes 16 (by omega) W
    obtain ⟨i0, hi, hz0, hz1, hz2⟩ := info_parts info101
    clear h hn hc hne hc2
    go_enter Tryz.func125, Tryz.ntmps125
    go_wp2_with fail
    go_loopw [0, 3] (fun t r wr => ∃ (j c o' : Nat) (V : Value), V = r ∧ c = min (16 * j) n ∧ (c < n → o' = o + c) ∧ t = .slice (some ⟨bb, o', none⟩) (n - c) (cap - c) ∧ j ≤ (n + 15) / 16 ∧ OwnP w.heap.size wr V ((List.range j).map (pairAt b)) ∧ Below w.heap.size w wr) (fun t _ _ => match t with | .slice _ k _ => k | _ => 0)
    case atStart => exact ⟨0, 0, o, _, rfl, by omega, fun _ => rfl, rfl, by omega, ⟨rfl, .inl ⟨rfl, rfl⟩⟩, Below.refl _ _⟩
    case round =>
      obtain ⟨j, c, o', V, rfl, hcc, hoo, rfl, hj, hO, hq⟩ := hrel
      obtain ⟨A, cp, hV⟩ : ∃ A cp, V = .slice A ((List.range j).map (pairAt b)).length cp := row_form hO
      subst hV
      by_cases hlt : c < n
      · obtain ⟨hn, hc⟩ := H.out
        have ho' := hoo hlt
        subst ho'
        clear hoo
        have hc16 : c = 16 * j := by omega
        obtain ⟨m, hm1⟩ : ∃ m, m = min 16 (n - c) := ⟨_, rfl⟩
        obtain ⟨x, hx⟩ : ∃ x, x = (b.drop (16 * j)).take 16 := ⟨_, rfl⟩
        have hxl : x.length = min 16 (n - c) := by rw [hx, List.length_take, List.length_drop]; omega
        have hxc : ∀ (i : Nat) (u : UInt8), x[i]? = some u → w.cell? ⟨bb, (o + c) + i, none⟩ = some (.int .u8 (u.toNat : Int)) := fun i u hi => by
          rw [hx, List.getElem?_take] at hi
          split at hi
          · rw [List.getElem?_drop] at hi
            have := hc (16 * j + i) u hi
            rw [hc16, Nat.add_assoc]; exact this
          · cases hi
        have hpa : pairAt b j = pairOf (pad16 x) := by rw [hx]; rfl
        have hmx : m = x.length := by omega
        have hx16 : x.length ≤ 16 := by omega
        obtain ⟨W1, hW1⟩ : ∃ W1, W1 = wr.alloc (.cells (bvals (z16)).toArray 5) := ⟨_, rfl⟩
        have hB1 : Blk W1 wr.heap.size 5 (bvals (z16)).toArray := by rw [hW1]; exact Blk.new wr 5 _
        have hq1 : Below w.heap.size w W1 := by rw [hW1]; exact hq.alloc hq.size _
        have hO1 : OwnP w.heap.size W1 (.slice A ((List.range j).map (pairAt b)).length cp) ((List.range j).map (pairAt b)) := by rw [hW1]; exact World.ownsRow.alloc hO _
        have hs1 : W1.heap.size = wr.heap.size + 1 := by rw [hW1]; exact World.size_alloc _ _
        obtain ⟨W2, hcp, hB2, hg2⟩ := copy16_v (s := n - c) (c := cap - c) (b := bb) (q := o + c) (m := m) hB1 hxl hmx (fun i u hi => (hq1.cell (p := ⟨bb, (o + c) + i, none⟩) hb).trans (hxc i u hi))
        have hq2 := below_only hq1 hg2 hq1.size (Nat.le_trans hq.size (by omega))
        have hq12 : W2.heap.size ≥ W1.heap.size := hg2.size
        have hO2 : OwnP w.heap.size W2 (.slice A ((List.range j).map (pairAt b)).length cp) ((List.range j).map (pairAt b)) := hO1.keep (fun k hk hv => hg2.block k hk (fun e => by
          injection e with e
          have h3 := (OwnP.ge hO hv).2
          omega))
        have hpw : HasP (fun _ => True) W2 (.slice (some ⟨wr.heap.size, 0, none⟩) 16 16) (pad16 x) := by
          have := HasP.of_blk (p := fun _ => True) hB2 (by rw [pad16_len x hx16]; unfold maxLen; omega) trivial
          rw [pad16_len x hx16] at this
          exact this
        have hwp := wpair_ok (fun _ => True) _ (pad16 x) W2 hpw (pad16_len x hx16)
        have hsucc : (List.range (j + 1)).map (pairAt b) = (List.range j).map (pairAt b) ++ [pairOf (pad16 x)] := by rw [List.range_succ, List.map_append, ← hpa]; rfl
        have hml : m ≤ n - c := by omega
        have hm0 : 0 < m := by omega
        have hnx : c + m = min (16 * (j + 1)) n := by omega
        obtain ⟨X, hX⟩ : ∃ X, X = (pairOf (pad16 x)).1 := ⟨_, rfl⟩
        obtain ⟨Y, hY⟩ : ∃ Y, Y = (pairOf (pad16 x)).2 := ⟨_, rfl⟩
        unfold pv at hwp
        rw [← hX, ← hY] at hwp
        have hXY : pairOf (pad16 x) = (X, Y) := by rw [hX, hY]
        rw [hXY] at hsucc
        rw [hW1] at hcp
        obtain ⟨L, hL⟩ : ∃ L, L = ((List.range j).map (pairAt b)).length := ⟨_, rfl⟩
        have hLj : L = j := by rw [hL]; simp
        rw [← hL] at hO2 ⊢
        obtain ⟨N, hN⟩ : ∃ N, N = n - c := ⟨_, rfl⟩
        obtain ⟨K, hK⟩ : ∃ K, K = cap - c := ⟨_, rfl⟩
        rw [← hN, ← hK] at hcp
        rw [← hN] at hml
        rw [← hN, ← hK]
        have k1 : 0 < N := by omega
        have k2 : (m : Int) ≤ (N : Int) := by omega
        have k3 : (N : Int) ≤ (K : Int) := by omega
        have k4 : K ≤ 9223372036854775807 := by omega
        have k5 : (0 : Int) ≤ (m : Int) := by omega
        have HS := Lib.hid (And.intro hsucc (And.intro hnx (And.intro hL (And.intro hLj (And.intro hN (And.intro hK (And.intro hO2 (And.intro hq2 (And.intro hcc hc16)))))))))
        clear hsucc hnx hL hLj hN hK hO2 hq2 hW1 hB1 hq1 hO1 hs1 hB2 hg2 hq12 hpw hX hY hXY hxc hx hxl hpa hmx hx16 hm1 hn hc hO hq hcc hc16
        by_cases hKm : K = m
        · subst hKm
          go_wp2_with fail
          refine hwp.mono ?_
          rintro e w3 ⟨rfl, q3⟩
          obtain ⟨hsucc, hnx, hL, hLj, hN, hK, hO2, hq2, hcc, hc16⟩ := HS.out
          have hq3 := hq2.trans (q3.mono hq2.size)
          have hO3 : OwnP w.heap.size w3 (.slice A L cp) ((List.range j).map (pairAt b)) := hO2.keep (fun k hk hv => q3.block k hk)
          have HS3 := Lib.hid (And.intro hsucc (And.intro hnx (And.intro hL (And.intro hLj (And.intro hN (And.intro hK (And.intro hO3 (And.intro hq3 hcc))))))))
          have hO4 : ((w3.alloc (.cells #[.int .u64 X, .int .u64 Y] 101)).alloc (.cells #[.int .u64 X, .int .u64 Y] 101)).ownsRow w.heap.size 101 2 (.slice A L cp) L (pvals ((List.range j).map (pairAt b))) := by
            rw [hL]
            rw [hL] at hO3
            exact World.ownsRow.alloc (World.ownsRow.alloc hO3 _) _
          have hnew : ∀ (i : Nat) (u : Value), [Value.int .u64 X, .int .u64 Y][i]? = some u → ((w3.alloc (.cells #[.int .u64 X, .int .u64 Y] 101)).alloc (.cells #[.int .u64 X, .int .u64 Y] 101)).cell? ((⟨w3.heap.size + 1, 0, none⟩ : Addr).add i) = some u := fun i u hi => by
            rw [add_plain, Nat.zero_add]
            have hh := (Blk.new (w3.alloc (.cells #[.int .u64 X, .int .u64 Y] 101)) 101 #[.int .u64 X, .int .u64 Y]).cell_ i (v := u) (by simpa using hi)
            rw [World.size_alloc] at hh
            exact hh
          have hone : ∀ u ∈ [Value.int .u64 X, .int .u64 Y], u.oneCell' = true := fun u hu => by
            simp at hu
            rcases hu with rfl | rfl <;> rfl
          have hL4 : L ≤ 4000 := by omega
          have hs3 : w.heap.size ≤ w3.heap.size := hq3.size
          clear hsucc hnx hL hLj hN hK hO2 hq2 hcc hc16 q3 hq3 hO3
          go_wp2_with (at_builtin; refine wpList_append_own _ rfl _ _ 190 rfl w.heap.size 101 i0 (.agg #[.int .u64 0, .int .u64 0]) 2 16 Tryz.underlying190 hi hz0 hz1 hz2 rfl (by decide) _ _ _ rfl hO4 ⟨w3.heap.size + 1, 0, none⟩ 1 1 [.int .u64 X, .int .u64 Y] rfl rfl hnew hone (by unfold maxLen; omega) (by omega) (by simp; omega) ?_; intro v' w5 hown5 hgrow5 hnil5; go_frame)
          obtain ⟨hsucc, hnx, hL, hLj, hN, hK, hO3, hq3, hcc⟩ := HS3.out
          have hO5 : OwnP w.heap.size w5 v' ((List.range (j + 1)).map (pairAt b)) := by
            rw [hsucc]
            exact OwnP.of hown5 (by rw [List.length_append, ← hL]; rfl) (by rw [pvals_app]; rfl)
          have hq4 : Below w.heap.size w ((w3.alloc (.cells #[.int .u64 X, .int .u64 Y] 101)).alloc (.cells #[.int .u64 X, .int .u64 Y] 101)) := (hq3.alloc hq3.size _).alloc (by simp; omega) _
          have hq5 := hq4.grown hgrow5 hq4.size (fun k hk => (OwnP.ge (l := (List.range j).map (pairAt b)) (by rw [hL] at hO4 hk; exact hO4) (by rw [hL] at hk; exact hk)).1)
          clear hown5 hgrow5 hnil5 hsucc hL hO3 hq3 hq4 hO4 hnew hone
          go_wp2_with fail
          go_roundw
          case rel => exact ⟨j + 1, c + K, o + c, _, rfl, hnx, fun _ => by omega, by rw [show n - (c + K) = N - K by omega, show cap - (c + K) = 0 by omega], by omega, hO5, hq5⟩
          case measure => show _ < _; simp only []; omega
        · have hKm2 : ¬ (m = K) := fun e => hKm e.symm
          go_wp2_with fail
          refine hwp.mono ?_
          rintro e w3 ⟨rfl, q3⟩
          obtain ⟨hsucc, hnx, hL, hLj, hN, hK, hO2, hq2, hcc, hc16⟩ := HS.out
          have hq3 := hq2.trans (q3.mono hq2.size)
          have hO3 : OwnP w.heap.size w3 (.slice A L cp) ((List.range j).map (pairAt b)) := hO2.keep (fun k hk hv => q3.block k hk)
          have HS3 := Lib.hid (And.intro hsucc (And.intro hnx (And.intro hL (And.intro hLj (And.intro hN (And.intro hK (And.intro hO3 (And.intro hq3 hcc))))))))
          have hO4 : ((w3.alloc (.cells #[.int .u64 X, .int .u64 Y] 101)).alloc (.cells #[.int .u64 X, .int .u64 Y] 101)).ownsRow w.heap.size 101 2 (.slice A L cp) L (pvals ((List.range j).map (pairAt b))) := by
            rw [hL]
            rw [hL] at hO3
            exact World.ownsRow.alloc (World.ownsRow.alloc hO3 _) _
          have hnew : ∀ (i : Nat) (u : Value), [Value.int .u64 X, .int .u64 Y][i]? = some u → ((w3.alloc (.cells #[.int .u64 X, .int .u64 Y] 101)).alloc (.cells #[.int .u64 X, .int .u64 Y] 101)).cell? ((⟨w3.heap.size + 1, 0, none⟩ : Addr).add i) = some u := fun i u hi => by
            rw [add_plain, Nat.zero_add]
            have hh := (Blk.new (w3.alloc (.cells #[.int .u64 X, .int .u64 Y] 101)) 101 #[.int .u64 X, .int .u64 Y]).cell_ i (v := u) (by simpa using hi)
            rw [World.size_alloc] at hh
            exact hh
          have hone : ∀ u ∈ [Value.int .u64 X, .int .u64 Y], u.oneCell' = true := fun u hu => by
            simp at hu
            rcases hu with rfl | rfl <;> rfl
          have hL4 : L ≤ 4000 := by omega
          have hs3 : w.heap.size ≤ w3.heap.size := hq3.size
          clear hsucc hnx hL hLj hN hK hO2 hq2 hcc hc16 q3 hq3 hO3
          go_wp2_with (at_builtin; refine wpList_append_own _ rfl _ _ 190 rfl w.heap.size 101 i0 (.agg #[.int .u64 0, .int .u64 0]) 2 16 Tryz.underlying190 hi hz0 hz1 hz2 rfl (by decide) _ _ _ rfl hO4 ⟨w3.heap.size + 1, 0, none⟩ 1 1 [.int .u64 X, .int .u64 Y] rfl rfl hnew hone (by unfold maxLen; omega) (by omega) (by simp; omega) ?_; intro v' w5 hown5 hgrow5 hnil5; go_frame)
          obtain ⟨hsucc, hnx, hL, hLj, hN, hK, hO3, hq3, hcc⟩ := HS3.out
          have hO5 : OwnP w.heap.size w5 v' ((List.range (j + 1)).map (pairAt b)) := by
            rw [hsucc]
            exact OwnP.of hown5 (by rw [List.length_append, ← hL]; rfl) (by rw [pvals_app]; rfl)
          have hq4 : Below w.heap.size w ((w3.alloc (.cells #[.int .u64 X, .int .u64 Y] 101)).alloc (.cells #[.int .u64 X, .int .u64 Y] 101)) := (hq3.alloc hq3.size _).alloc (by simp; omega) _
          have hq5 := hq4.grown hgrow5 hq4.size (fun k hk => (OwnP.ge (l := (List.range j).map (pairAt b)) (by rw [hL] at hO4 hk; exact hO4) (by rw [hL] at hk; exact hk)).1)
          clear hown5 hgrow5 hnil5 hsucc hL hO3 hq3 hq4 hO4 hnew hone
          go_wp2_with fail
          go_roundw
          case rel => exact ⟨j + 1, c + m, o + c + m, _, rfl, hnx, fun _ => by omega, by rw [show n - (c + m) = N - m by omega, show cap - (c + m) = K - m by omega], by omega, hO5, hq5⟩
          case measure => show _ < _; simp only []; omega
      · have hje : j = (n + 15) / 16 := by omega
        have hz : n - c = 0 := by omega
        rw [hz]
        have hfin : gpairs b = (List.range j).map (pairAt b) := by unfold gpairs; rw [← H.out.1, hje]
        have HF := Lib.hid (And.intro hfin (And.intro hO hq))
        clear hcc hoo hlt hz hje hfin hO hq
        go_wp2_with fail
        go_ret
        obtain ⟨hfin, hO, hq⟩ := HF.out
        exact ⟨_, rfl, by rw [hfin]; exact hO, hq⟩
end Go.Proofs.YtggmdjdflaglpaaGreat
