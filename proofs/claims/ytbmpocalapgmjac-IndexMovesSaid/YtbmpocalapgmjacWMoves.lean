/- The walk of the law IndexMoves. -/
import Derived.Test.YtbmpocalapgmjacWOne
namespace Go.Proofs.Ytbmpocalapgmjac.index
open Go.RowKit
set_option linter.unusedVariables false
/-- a row of integers that came in -/
def InRow (w : World) (A : Option Addr) (n : Nat) (ls : Nat → Int) : Prop :=
  n = 0 ∨ ∃ b off, A = some ⟨b, off, none⟩ ∧ b < w.heap.size ∧ ∀ i, i < n → w.cell? ⟨b, off + i, none⟩ = some (.int .i64 (ls i))
theorem inRow {a0 : Option Addr} {len0 cap0 : Nat} {z0 : List Int} {w : World} (h : IsRow .i64 w a0 len0 cap0 z0) : InRow w a0 len0 (fun i => z0.getD i 0) := by
  obtain ⟨_, _, h⟩ := h.open_
  rcases h with h | ⟨b, off, h1, h2, _, h4, _⟩
  · exact .inl h
  · exact .inr ⟨b, off, h1, h2, h4⟩
def okS (s : Int) : Bool := decide (0 ≤ s ∧ s < 16)
theorem put_one {k v s : Int} (hk : 0 ≤ k ∧ k < 32) (hv : 0 ≤ v ∧ v ≤ 16) : pb (oneS k.toNat v) k s = okS s ∧ pS (oneS k.toNat v) k s = oneS k.toNat (if okS s then s + 1 else v) := by
  by_cases h : 0 ≤ s ∧ s < 16
  · have e : okS s = true := decide_eq_true h
    have p : pb (oneS k.toNat v) k s = true := decide_eq_true (show okP _ k s from ⟨hk.1, hk.2, h.1, h.2, fun x _ hx hc => by
      unfold oneS at hc
      rw [if_neg (by omega)] at hc
      omega⟩)
    refine ⟨p.trans e.symm, ?_⟩
    unfold pS
    rw [p, e, if_pos rfl, if_pos rfl]
    funext x
    unfold upS oneS
    by_cases hx : x = k.toNat
    · simp [hx]
    · simp [hx]
  · have e : okS s = false := decide_eq_false h
    have p : pb (oneS k.toNat v) k s = false := decide_eq_false (fun c => h ⟨c.2.2.1, c.2.2.2.1⟩)
    refine ⟨p.trans e.symm, ?_⟩
    unfold pS
    rw [p, e]
    rfl
theorem zero_one (k : Nat) : (fun _ => 0 : Nat → Int) = oneS k 0 := by
  funext x
  unfold oneS
  simp
theorem zero_cnt (k : Nat) : cnt (oneS k 0) = 0 := by
  rw [← zero_one k]
  unfold cnt
  simp
end Go.Proofs.Ytbmpocalapgmjac.index
namespace Go.Proofs.Ytbmpocalapgmjac.indexMoves
open Go.RowKit index
set_option linter.unusedVariables false
set_option maxHeartbeats 2000000 in
theorem walk (a0 : Int) (a1 : Option Addr) (len1 cap1 : Nat) (z1 : List Int) (w : World) (w0 : (Lit.int .i64 a0).wf = true) (w1 : IsRow .i64 w a1 len1 cap1 z1) :
    Calls Try.prog 6 #[.int .i64 a0, .slice a1 len1 cap1] w fun e w' => e = .returned (.bool true) ∧ Below w.heap.size w w' := by
  have hr := inRow w1
  have hmax := w1.open_.1
  clear w1
  by_cases h0 : a0 < 0
  · clear hr w0
    go_enter Try.func6, Try.ntmps6
    go_wp2_with fail
    go_ret
    exact ⟨rfl, Below.refl _ _⟩
  have t0 : decide (a0 < 0) = false := by simpa using h0
  by_cases h1 : 31 < a0
  · clear hr w0 h0
    go_enter Try.func6, Try.ntmps6
    go_wp2_with fail
    go_ret
    exact ⟨rfl, Below.refl _ _⟩
  have t1 : decide (31 < a0) = false := by simpa using h1
  by_cases h2 : 50 < len1
  · have t2 : (50 : Int) < (len1 : Int) := by omega
    clear hr w0 h0 h1 h2
    go_enter Try.func6, Try.ntmps6
    go_wp2_with fail
    go_ret
    exact ⟨rfl, Below.refl _ _⟩
  have t2 : decide ((50 : Int) < (len1 : Int)) = false := by simp; omega
  have hk : 0 ≤ a0 ∧ a0 < 32 := by omega
  have HK := Lib.hid hk
  have hl : len1 ≤ 50 := by omega
  obtain ⟨ls, hls⟩ : ∃ ls, ls = (fun i => z1.getD i 0) := ⟨_, rfl⟩
  rw [← hls] at hr
  clear hls hk h0 h1 h2
  go_enter Try.func6, Try.ntmps6
  go_wp2_with fail
  refine (new_st w).mono ?_
  rintro e W1 ⟨rfl, s1⟩
  rw [zero_one a0.toNat] at s1
  obtain ⟨b, hb⟩ : ∃ b, b = w.heap.size := ⟨_, rfl⟩
  rw [← hb] at s1 ⊢
  have HB := Lib.hid hb
  clear hb t0 t1 t2
  go_wp2_with fail
  go_loopw [6, 7, 8] (fun l i _ wr => ∃ (j : Nat) (v : Int), l = .int .i64 (v - 1) ∧ i = .int .i64 j ∧ j ≤ len1 ∧ 0 ≤ v ∧ v ≤ 16 ∧ St w wr b (b + 1) j (oneS a0.toNat v)) (fun _ i _ _ => len1 - (intOf i).toNat)
  case atStart => exact ⟨0, 0, rfl, rfl, by omega, by omega, by omega, s1⟩
  case round =>
    obtain ⟨j, v, rfl, rfl, hj, hv0, hv1, hs⟩ := hrel
    clear s1
    by_cases hlt : j < len1
    · obtain ⟨rb, off, rfl, hbl, hc⟩ := hr.resolve_left (by omega)
      have hcl := hc j hlt
      have hcj := (hs.bel.cell (p := ⟨rb, off + j, none⟩) hbl).trans hcl
      have i0 : (0 : Int) ≤ (j : Int) := by omega
      have i1 : (j : Int) < (len1 : Int) := by omega
      obtain ⟨s, hsv⟩ : ∃ s, s = ls j := ⟨_, rfl⟩
      rw [← hsv] at hcj hcl
      obtain ⟨p1, p2⟩ := put_one (s := s) HK.out ⟨hv0, hv1⟩
      have hput := put_st w b (b + 1) j _ a0 s wr hs (by omega)
      rw [p1, p2] at hput
      clear hsv hc hr p1 p2
      by_cases c0 : 0 ≤ s
      · by_cases c1 : s < 16
        · have e : okS s = true := decide_eq_true ⟨c0, c1⟩
          rw [e, if_pos rfl] at hput
          have hs1 : v ≤ 16 ∧ 0 ≤ s + 1 ∧ s + 1 ≤ 16 := by omega
          clear e
          go_wp2_with fail
          refine hput.mono ?_
          rintro e W3 ⟨rfl, h3⟩
          have hc3 := (h3.bel.cell (p := ⟨rb, off + j, none⟩) hbl).trans hcl
          clear hput hs hcj hcl
          go_wp2_with fail
          go_roundw
          case rel => exact ⟨j + 1, s + 1, by go_num, by go_num, by omega, by omega, by omega, h3⟩
          case measure => simp [intOf]; omega
        · have e : okS s = false := decide_eq_false (fun h => c1 h.2)
          rw [e, if_neg (by simp)] at hput
          have c2 : decide (s < 16) = false := by simpa using c1
          clear e c1
          go_wp2_with fail
          refine hput.mono ?_
          rintro e W3 ⟨rfl, h3⟩
          have hc3 := (h3.bel.cell (p := ⟨rb, off + j, none⟩) hbl).trans hcl
          clear hput hs hcj hcl
          go_wp2_with fail
          go_roundw
          case rel => exact ⟨j + 1, v, rfl, by go_num, by omega, hv0, hv1, h3⟩
          case measure => simp [intOf]; omega
      · have e : okS s = false := decide_eq_false (fun h => c0 h.1)
        rw [e, if_neg (by simp)] at hput
        have c2 : decide (0 ≤ s) = false := by simpa using c0
        clear e c0
        go_wp2_with fail
        refine hput.mono ?_
        rintro e W3 ⟨rfl, h3⟩
        have hc3 := (h3.bel.cell (p := ⟨rb, off + j, none⟩) hbl).trans hcl
        clear hput hs hcj hcl
        go_wp2_with fail
        go_roundw
        case rel => exact ⟨j + 1, v, rfl, by go_num, by omega, hv0, hv1, h3⟩
        case measure => simp [intOf]; omega
    · obtain rfl : j = len1 := by omega
      have hdj : decide ((j : Int) < (j : Int)) = false := by simp
      have hget := iget_ok b (b + 1) j _ a0 wr hs.1 w0
      have hlen := ilen_ok b (b + 1) j _ wr hs.1
      have hslo := slots_st w b (b + 1) j _ wr hs
      clear hr
      by_cases hv : v = 0
      · subst hv
        have g1 : gv (oneS a0.toNat 0) a0 = 0 := by unfold gv oneS; simp
        have g2 : gb (oneS a0.toNat 0) a0 = false := by unfold gb oneS; simp
        rw [g1, g2] at hget
        rw [zero_cnt] at hlen hslo
        clear g1 g2
        go_wp2_with fail
        refine hget.mono ?_
        rintro e W3 ⟨rfl, rfl⟩
        clear hget
        go_wp2_with fail
        refine hlen.mono ?_
        rintro e W3 ⟨rfl, rfl⟩
        go_wp2_with fail
        refine hslo.mono ?_
        rintro e W4 ⟨A, cap, rfl, s4, c1, c2, c3, c4⟩
        have hlen2 := ilen_ok b (b + 1) j _ W4 s4.1
        rw [zero_cnt] at hlen2
        clear hlen hslo c3 hs
        go_wp2_with fail
        refine hlen2.mono ?_
        rintro e W5 ⟨rfl, rfl⟩
        go_wp2_with fail
        refine (known_ok W4).mono ?_
        rintro e W6 ⟨rfl, hk6⟩
        go_wp2_with fail
        go_ret
        exact ⟨rfl, s4.bel.trans (hk6.mono s4.bel.size)⟩
      · have g1 : gv (oneS a0.toNat v) a0 = v - 1 := by unfold gv oneS; rw [if_pos ⟨HK.out.1, HK.out.2, by simpa using hv⟩]; simp
        have g2 : gb (oneS a0.toNat v) a0 = true := decide_eq_true ⟨HK.out.1, HK.out.2, by unfold oneS; simpa using hv⟩
        have g3 := one_cnt a0.toNat (by have := HK.out; omega) v hv
        have g4 : 0 ≤ v - 1 := by omega
        have g5 : (v - 1 == v - 1) = true := by simp
        rw [g1, g2] at hget
        rw [g3] at hlen hslo
        clear g1 g2
        go_wp2_with fail
        refine hget.mono ?_
        rintro e W3 ⟨rfl, rfl⟩
        clear hget
        go_wp2_with fail
        refine hlen.mono ?_
        rintro e W3 ⟨rfl, rfl⟩
        go_wp2_with fail
        refine hslo.mono ?_
        rintro e W4 ⟨A, cap, rfl, s4, c1, c2, c3, c4⟩
        have hlen2 := ilen_ok b (b + 1) j _ W4 s4.1
        rw [g3] at hlen2
        clear hlen hslo c3 hs g3
        go_wp2_with fail
        refine hlen2.mono ?_
        rintro e W5 ⟨rfl, rfl⟩
        go_wp2_with fail
        refine (known_ok W4).mono ?_
        rintro e W6 ⟨rfl, hk6⟩
        go_wp2_with fail
        go_ret
        exact ⟨rfl, s4.bel.trans (hk6.mono s4.bel.size)⟩
end Go.Proofs.Ytbmpocalapgmjac.indexMoves
