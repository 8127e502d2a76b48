/- The walk of the law IndexOne. -/
import Derived.Test.YtbmpocalapgmjacIKnown
namespace Go.Proofs.Ytbmpocalapgmjac.index
open Go.RowKit
set_option linter.unusedVariables false
theorem one_at (b : Nat) (hb : b < 32) : (List.range 32).filter (fun x => decide (x = b)) = [b] := by
  have h : ∀ b : Fin 32, (List.range 32).filter (fun x => decide (x = b.val)) = [b.val] := by decide
  exact h ⟨b, hb⟩
/-- one block, one slot -/
def oneS (b : Nat) (v : Int) : Nat → Int := fun i => if i = b then v else 0
theorem one_filter (b : Nat) (hb : b < 32) (v : Int) (hv : v ≠ 0) : (List.range 32).filter (fun x => decide (oneS b v x ≠ 0)) = [b] := by
  rw [← one_at b hb]
  refine List.filter_congr fun x _ => ?_
  unfold oneS
  by_cases e : x = b
  · simp [e, hv]
  · simp [e]
theorem one_cnt (b : Nat) (hb : b < 32) (v : Int) (hv : v ≠ 0) : cnt (oneS b v) = 1 := by
  unfold cnt
  rw [one_filter b hb v hv]
  rfl
theorem one_sl (b : Nat) (hb : b < 32) (v : Int) (hv : v ≠ 0) (h : 0 ≤ v ∧ v ≤ 16) : sl (oneS b v) = [v - 1] := by
  have hp := slk_perm (oneS b v) 32 (fun x _ => by unfold oneS; split <;> omega)
  have : vk (oneS b v) 32 = [v - 1] := by
    unfold vk
    rw [one_filter b hb v hv]
    simp [oneS]
  rw [this] at hp
  exact List.perm_singleton.1 hp
section
variable {a b s t : Int}
theorem one_all (ha : 0 ≤ a ∧ a < 32) (hb : 0 ≤ b ∧ b < 32) (hs : 0 ≤ s ∧ s < 16) (ht : 0 ≤ t ∧ t < 16) (hab : a ≠ b) (hst : s ≠ t) :
    ∃ S1 S3 S5, pb (fun _ => 0) a s = true ∧ pS (fun _ => 0) a s = S1 ∧ pb S1 b s = false ∧ pS S1 b s = S1 ∧ pb S1 b t = true ∧ pS S1 b t = S3 ∧ pb S3 a t = false ∧ pS S3 a t = S3 ∧
      gb S3 a = true ∧ dS S3 a = S5 ∧ gb S5 a = false ∧ dS S5 a = S5 ∧ pb S5 b s = true ∧ pS S5 b s = oneS b.toNat (s + 1) := by
  have nab : a.toNat ≠ b.toNat := by omega
  have e1 : pb (fun _ => 0) a s = true := decide_eq_true (show okP _ a s from ⟨ha.1, ha.2, hs.1, hs.2, fun x _ _ h => by have h : (0 : Int) = s + 1 := h; omega⟩)
  have f1 : pS (fun _ => 0) a s = upS (fun _ => 0) a.toNat (s + 1) := by unfold pS; rw [e1, if_pos rfl]
  have e2 : pb (upS (fun _ => 0) a.toNat (s + 1)) b s = false := decide_eq_false (fun h => h.2.2.2.2 a.toNat (by omega) (by omega) (by simp [upS]))
  have e3 : pb (upS (fun _ => 0) a.toNat (s + 1)) b t = true := decide_eq_true (show okP _ b t from ⟨hb.1, hb.2, ht.1, ht.2, fun x _ _ h => by
    simp only [upS] at h
    split at h <;> omega⟩)
  have e4 : pb (upS (upS (fun _ => 0) a.toNat (s + 1)) b.toNat (t + 1)) a t = false := decide_eq_false (fun h => h.2.2.2.2 b.toNat (by omega) (by omega) (by simp [upS]))
  have g1 : gb (upS (upS (fun _ => 0) a.toNat (s + 1)) b.toNat (t + 1)) a = true := decide_eq_true ⟨ha.1, ha.2, by simp [upS, nab]; omega⟩
  have g2 : gb (upS (upS (upS (fun _ => 0) a.toNat (s + 1)) b.toNat (t + 1)) a.toNat 0) a = false := decide_eq_false (fun h => h.2.2 (by simp [upS]))
  have e5 : pb (upS (upS (upS (fun _ => 0) a.toNat (s + 1)) b.toNat (t + 1)) a.toNat 0) b s = true := decide_eq_true (show okP _ b s from ⟨hb.1, hb.2, hs.1, hs.2, fun x _ _ h => by
    simp only [upS] at h
    split at h
    · omega
    · split at h <;> omega⟩)
  refine ⟨upS (fun _ => 0) a.toNat (s + 1), upS (upS (fun _ => 0) a.toNat (s + 1)) b.toNat (t + 1), upS (upS (upS (fun _ => 0) a.toNat (s + 1)) b.toNat (t + 1)) a.toNat 0, e1, f1, e2, ?_, e3, ?_, e4, ?_, g1, ?_, g2, ?_, e5, ?_⟩
  · unfold pS; rw [e2]; rfl
  · unfold pS; rw [e3, if_pos rfl]
  · unfold pS; rw [e4]; rfl
  · unfold dS; rw [g1, if_pos rfl]
  · unfold dS; rw [g2]; rfl
  · unfold pS
    rw [e5, if_pos rfl]
    funext x
    unfold upS oneS
    by_cases h1 : x = b.toNat
    · simp [h1]
    · by_cases h2 : x = a.toNat
      · simp [h2]
      · simp [h1, h2]
end
end Go.Proofs.Ytbmpocalapgmjac.index
namespace Go.Proofs.Ytbmpocalapgmjac.indexOne
open Go.RowKit index
set_option linter.unusedVariables false
set_option maxHeartbeats 1000000 in
theorem walk (a0 : Int) (a1 : Int) (a2 : Int) (a3 : Int) (w0 : (Lit.int .i64 a0).wf = true) (w1 : (Lit.int .i64 a1).wf = true) (w2 : (Lit.int .i64 a2).wf = true) (w3 : (Lit.int .i64 a3).wf = true) (w : World) :
    Calls Try.prog 8 #[.int .i64 a0, .int .i64 a1, .int .i64 a2, .int .i64 a3] w fun e w' => e = .returned (.bool true) ∧ Below w.heap.size w w' := by
  by_cases h0 : a0 < 0
  · clear w0 w1 w2 w3
    go_enter Try.func8, Try.ntmps8
    go_wp2_with fail
    go_ret
    exact ⟨rfl, Below.refl _ _⟩
  have t0 : decide (a0 < 0) = false := by simpa using h0
  by_cases h1 : 31 < a0
  · clear w0 w1 w2 w3
    clear h0
    go_enter Try.func8, Try.ntmps8
    go_wp2_with fail
    go_ret
    exact ⟨rfl, Below.refl _ _⟩
  have t1 : decide (31 < a0) = false := by simpa using h1
  by_cases h2 : a1 < 0
  · clear w0 w1 w2 w3
    clear h0 h1
    go_enter Try.func8, Try.ntmps8
    go_wp2_with fail
    go_ret
    exact ⟨rfl, Below.refl _ _⟩
  have t2 : decide (a1 < 0) = false := by simpa using h2
  by_cases h3 : 31 < a1
  · clear w0 w1 w2 w3
    clear h0 h1 h2
    go_enter Try.func8, Try.ntmps8
    go_wp2_with fail
    go_ret
    exact ⟨rfl, Below.refl _ _⟩
  have t3 : decide (31 < a1) = false := by simpa using h3
  by_cases h4 : a2 < 0
  · clear w0 w1 w2 w3
    clear h0 h1 h2 h3
    go_enter Try.func8, Try.ntmps8
    go_wp2_with fail
    go_ret
    exact ⟨rfl, Below.refl _ _⟩
  have t4 : decide (a2 < 0) = false := by simpa using h4
  by_cases h5 : 15 < a2
  · clear w0 w1 w2 w3
    clear h0 h1 h2 h3 h4
    go_enter Try.func8, Try.ntmps8
    go_wp2_with fail
    go_ret
    exact ⟨rfl, Below.refl _ _⟩
  have t5 : decide (15 < a2) = false := by simpa using h5
  by_cases h6 : a3 < 0
  · clear w0 w1 w2 w3
    clear h0 h1 h2 h3 h4 h5
    go_enter Try.func8, Try.ntmps8
    go_wp2_with fail
    go_ret
    exact ⟨rfl, Below.refl _ _⟩
  have t6 : decide (a3 < 0) = false := by simpa using h6
  by_cases h7 : 15 < a3
  · clear w0 w1 w2 w3
    clear h0 h1 h2 h3 h4 h5 h6
    go_enter Try.func8, Try.ntmps8
    go_wp2_with fail
    go_ret
    exact ⟨rfl, Below.refl _ _⟩
  have t7 : decide (15 < a3) = false := by simpa using h7
  by_cases h8 : a0 = a1
  · clear w0 w1 w2 w3
    clear h0 h1 h2 h3 h4 h5 h6 h7
    have t8 : (a0 == a1) = true := by simpa using h8
    clear h8
    go_enter Try.func8, Try.ntmps8
    go_wp2_with fail
    go_ret
    exact ⟨rfl, Below.refl _ _⟩
  have t8 : (a0 == a1) = false := by simpa using h8
  by_cases h9 : a2 = a3
  · clear w0 w1 w2 w3
    clear h0 h1 h2 h3 h4 h5 h6 h7 h8
    have t9 : (a2 == a3) = true := by simpa using h9
    clear h9
    go_enter Try.func8, Try.ntmps8
    go_wp2_with fail
    go_ret
    exact ⟨rfl, Below.refl _ _⟩
  have t9 : (a2 == a3) = false := by simpa using h9
  obtain ⟨S1, S3, S5, e1, f1, e2, f2, e3, f3, e4, f4, g1, d1, g2, d2, e5, f5⟩ := one_all (a := a0) (b := a1) (s := a2) (t := a3) (by omega) (by omega) (by omega) (by omega) h8 h9
  have hc := one_cnt a1.toNat (by omega) (a2 + 1) (by omega)
  have hsl : (sl (oneS a1.toNat (a2 + 1))).getD 0 0 = a2 := by rw [one_sl a1.toNat (by omega) (a2 + 1) (by omega) (by omega)]; simp
  clear h0 h1 h2 h3 h4 h5 h6 h7 h8 h9 w1 w2 w3
  go_enter Try.func8, Try.ntmps8
  go_wp2_with fail
  refine (new_st w).mono ?_
  rintro e W1 ⟨rfl, s1⟩
  go_wp2_with fail
  refine (put_st w _ _ _ _ a0 a2 W1 s1 (by omega)).mono ?_
  rintro e W2 ⟨rfl, s2⟩
  rw [e1]; rw [f1] at s2
  go_wp2_with fail
  refine (put_st w _ _ _ _ a1 a2 W2 s2 (by omega)).mono ?_
  rintro e W3 ⟨rfl, s3⟩
  rw [e2]; rw [f2] at s3
  go_wp2_with fail
  refine (put_st w _ _ _ _ a1 a3 W3 s3 (by omega)).mono ?_
  rintro e W4 ⟨rfl, s4⟩
  rw [e3]; rw [f3] at s4
  go_wp2_with fail
  refine (put_st w _ _ _ _ a0 a3 W4 s4 (by omega)).mono ?_
  rintro e W5 ⟨rfl, s5⟩
  rw [e4]; rw [f4] at s5
  go_wp2_with fail
  refine (del_st w _ _ _ _ a0 W5 s5 w0).mono ?_
  rintro e W6 ⟨rfl, s6⟩
  rw [g1]; rw [d1] at s6
  go_wp2_with fail
  refine (del_st w _ _ _ _ a0 W6 s6 w0).mono ?_
  rintro e W7 ⟨rfl, s7⟩
  rw [g2]; rw [d2] at s7
  go_wp2_with fail
  refine (put_st w _ _ _ _ a1 a2 W7 s7 (by omega)).mono ?_
  rintro e W8 ⟨rfl, s8⟩
  rw [e5]; rw [f5] at s8
  go_wp2_with fail
  refine (slots_st w _ _ _ _ W8 s8).mono ?_
  rintro e W9 ⟨A, cap, rfl, s9, c1, c2, c3, c4⟩
  rw [hc] at c2 c3 ⊢
  rcases c3 with c3 | ⟨r, rfl, c3, c5, c6⟩
  · omega
  have c7 := c6 0 (by omega)
  rw [hsl] at c7
  have z : (a2 == a2) = true := by simp
  clear c6 c5 hc hsl s1 s2 s3 s4 s5 s6 s7 s8
  go_wp2_with fail
  refine (iget_nil a0 W9).mono ?_
  rintro e W10 ⟨rfl, rfl⟩
  go_wp2_with fail
  refine (iput_nil a0 a2 W9).mono ?_
  rintro e W10 ⟨rfl, rfl⟩
  go_wp2_with fail
  refine (idel_nil a0 W9).mono ?_
  rintro e W10 ⟨rfl, rfl⟩
  go_wp2_with fail
  refine (ilen_nil W9).mono ?_
  rintro e W10 ⟨rfl, rfl⟩
  go_wp2_with fail
  refine (islots_nil W9).mono ?_
  rintro e W10 ⟨rfl, rfl⟩
  go_wp2_with fail
  refine (known_ok W9).mono ?_
  rintro e W10 ⟨rfl, hk⟩
  go_wp2_with fail
  go_ret
  exact ⟨rfl, s9.bel.trans (hk.mono s9.bel.size)⟩
end Go.Proofs.Ytbmpocalapgmjac.indexOne
