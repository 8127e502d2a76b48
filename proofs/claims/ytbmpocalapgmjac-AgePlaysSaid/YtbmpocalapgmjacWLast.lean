/- The walk of the law AgeLast. -/
import Derived.Test.YtbmpocalapgmjacART
namespace Go.Proofs.Ytbmpocalapgmjac
open Go.RowKit
set_option linter.unusedVariables false
def inr (k : Int) : Bool := decide (0 ≤ k ∧ k < 16)
/-- the list behind a touch -/
def tc (k : Int) (L : List Int) : List Int := if inr k then dl k L ++ [k] else L
theorem touch_any (B a g T : Nat) (k : Int) (L : List Int) (w : World) (h : AI w B a g T L) (hB : B ≤ w.heap.size) (hT : T ≤ 1000) :
    Calls Try.prog 10 #[.pointer (some ⟨a, 0, none⟩), .int .i64 k] w fun e w' => e = .returned (.bool (inr k)) ∧ AI w' B a g (T + 1) (tc k L) ∧ Fr a g w w' := by
  by_cases hk : 0 ≤ k ∧ k < 16
  · obtain ⟨n, rfl⟩ := Int.eq_ofNat_of_zero_le hk.1
    have e : inr (n : Int) = true := by unfold inr; rw [decide_eq_true hk]
    unfold tc
    rw [e, if_pos rfl]
    exact touch_ok B a g T n L w h hB hT (by omega)
  · have e : inr k = false := by unfold inr; rw [decide_eq_false hk]
    unfold tc
    rw [e, if_neg (by simp)]
    refine (touch_no a k w (by omega)).mono ?_
    rintro e w' ⟨rfl, rfl⟩
    exact ⟨rfl, h.mono (by omega), Fr.refl _ _ _⟩
/-- a row of integers that came in -/
def InRow (w : World) (A : Option Addr) (n : Nat) (ls : Nat → Int) : Prop :=
  n = 0 ∨ ∃ b off, A = some ⟨b, off, none⟩ ∧ b < w.heap.size ∧ ∀ i, i < n → w.cell? ⟨b, off + i, none⟩ = some (.int .i64 (ls i))
theorem inRow {a0 : Option Addr} {len0 cap0 : Nat} {z0 : List Int} {w : World} (h : IsRow .i64 w a0 len0 cap0 z0) : InRow w a0 len0 (fun i => z0.getD i 0) := by
  obtain ⟨_, _, h⟩ := h.open_
  rcases h with h | ⟨b, off, h1, h2, _, h4, _⟩
  · exact .inl h
  · exact .inr ⟨b, off, h1, h2, h4⟩
theorem last_law (s : Int) (L : List Int) : ∃ b, (om (dl s L ++ [s]) == s) = b ∧ (((dl s L ++ [s]).length : Int) == 1) = b ∧ dl s L ++ [s] ≠ [] := by
  by_cases h : dl s L = []
  · rw [h]
    exact ⟨true, by simp [om, el], by simp, by simp⟩
  · have hl : 0 < (dl s L).length := List.length_pos_iff.2 h
    refine ⟨false, ?_, ?_, by simp⟩
    · have : om (dl s L ++ [s]) = el (dl s L) 0 := by
        unfold om
        rw [if_neg (by simp)]
        unfold el
        rw [List.getD_eq_getElem?_getD, List.getD_eq_getElem?_getD, List.getElem?_append_left hl]
      rw [this]
      simp only [beq_eq_false_iff_ne, ne_eq]
      exact (mem_dl.1 (el_mem hl)).2
    · simp only [List.length_append, List.length_singleton, beq_eq_false_iff_ne, ne_eq]
      omega
end Go.Proofs.Ytbmpocalapgmjac
namespace Go.Proofs.Ytbmpocalapgmjac.ageLast
open Go.RowKit
set_option linter.unusedVariables false
set_option maxHeartbeats 1000000 in
theorem walk (a0 : Option Addr) (len0 cap0 : Nat) (z0 : List Int) (a1 : Int) (w : World) (h0 : IsRow .i64 w a0 len0 cap0 z0) (w1 : (Lit.int .i64 a1).wf = true) :
    Calls Try.prog 5 #[.slice a0 len0 cap0, .int .i64 a1] w fun e w' => e = .returned (.bool true) ∧ Below w.heap.size w w' := by
  have hr := inRow h0
  have hmax := h0.open_.1
  have b1 := bounds_i64 w1
  clear h0 w1
  by_cases hl : len0 ≤ 50
  · have hx : decide ((50 : Int) < (len0 : Int)) = false := by simp; omega
    by_cases h1 : a1 < 0
    · clear hr
      go_enter Try.func5, Try.ntmps5
      go_wp2_with fail
      go_ret
      exact ⟨rfl, Below.refl _ _⟩
    · have hy : decide (a1 < 0) = false := by simpa using h1
      by_cases h2 : 15 < a1
      · clear hr h1
        go_enter Try.func5, Try.ntmps5
        go_wp2_with fail
        go_ret
        exact ⟨rfl, Below.refl _ _⟩
      · have hz : decide (15 < a1) = false := by simpa using h2
        have hin : inr a1 = true := by unfold inr; rw [decide_eq_true (show 0 ≤ a1 ∧ a1 < 16 by omega)]
        obtain ⟨ls, hls⟩ : ∃ ls, ls = (fun i => z0.getD i 0) := ⟨_, rfl⟩
        rw [← hls] at hr
        clear hls
        obtain ⟨a, hg⟩ : ∃ a, a = w.heap.size := ⟨_, rfl⟩
        have hnew := anew_ok w
        rw [← hg] at hnew ⊢
        have HG := Lib.hid hg
        have haw : a ≤ w.heap.size := by omega
        have HI := Lib.hid hin
        clear hg h1 h2 hin
        go_enter Try.func5, Try.ntmps5
        go_wp2_with fail
        refine hnew.mono ?_
        rintro e w1 ⟨rfl, hA, hb⟩
        clear hnew hx hy hz
        go_wp2_with fail
        go_loopw [6] (fun i wr => ∃ (j : Nat) (L : List Int), i = .int .i64 j ∧ j ≤ len0 ∧ AI wr a a (a + 1) j L ∧ Below a w wr) (fun i _ => len0 - (intOf i).toNat)
        case atStart => exact ⟨0, [], rfl, by omega, hA, hb⟩
        case round =>
          obtain ⟨j, L, rfl, hj, hA1, hb1⟩ := hrel
          clear hA hb
          have hsz := hb1.size
          by_cases hlt : j < len0
          · obtain ⟨b, off, rfl, hbl, hc⟩ := hr.resolve_left (by omega)
            have hcj := (hb1.cell (by rw [HG.out]; exact hbl)).trans (hc j hlt)
            have i0 : (0 : Int) ≤ (j : Int) := by omega
            have i1 : (j : Int) < (len0 : Int) := by omega
            clear hc hr
            go_wp2_with fail
            refine (touch_any a a (a + 1) j (ls j) L _ hA1 (by omega) (by omega)).mono ?_
            rintro e w3 ⟨rfl, hA3, hF3⟩
            have hb3 := hb1.trans (hA1.below hF3 (by omega))
            clear hA1 hF3 hb1 hcj
            go_wp2_with fail
            go_roundw
            case rel => exact ⟨j + 1, _, by go_num, by omega, hA3, hb3⟩
            case measure => simp [intOf]; omega
          · obtain rfl : j = len0 := by omega
            have hdj : decide ((j : Int) < (j : Int)) = false := by simp
            clear hr
            go_wp2_with fail
            refine (touch_any a a (a + 1) j a1 L _ hA1 (by omega) (by omega)).mono ?_
            rintro e w3 ⟨rfl, hA3, hF3⟩
            have hb3 := hb1.trans (hA1.below hF3 (by omega))
            obtain ⟨bb, e1, e2, e3⟩ := last_law a1 L
            have htc : tc a1 L = dl a1 L ++ [a1] := by unfold tc; rw [HI.out, if_pos rfl]
            rw [htc] at hA3
            obtain ⟨M, hM⟩ : ∃ M, M = dl a1 L ++ [a1] := ⟨_, rfl⟩
            rw [← hM] at hA3 e1 e2 e3
            have e4 : (!decide (M = [])) = true := by simpa using e3
            have hold := old_ok a a (a + 1) (j + 1) M w3 hA3
            rw [e4] at hold
            clear htc hM hA1 hF3 hb1 e3 e4
            go_wp2_with fail
            refine hold.mono ?_
            rintro e w4 ⟨rfl, rfl⟩
            clear hold
            go_wp2_with fail
            refine (alen_ok a a (a + 1) (j + 1) M _ hA3).mono ?_
            rintro e w4 ⟨rfl, rfl⟩
            go_wp2_with fail
            refine (known_ok _).mono ?_
            rintro e w5 ⟨rfl, hb5⟩
            have hb6 := hb3.trans (hb5.mono (by have := hb3.size; omega))
            go_wp2_with fail
            go_ret
            exact ⟨rfl, hb6⟩
  · have hgt : (50 : Int) < (len0 : Int) := by omega
    clear hr
    go_enter Try.func5, Try.ntmps5
    go_wp2_with fail
    go_ret
    exact ⟨rfl, Below.refl _ _⟩
end Go.Proofs.Ytbmpocalapgmjac.ageLast
