/- The reference's index by contract. -/
import Derived.Test.YtbmpocalapgmjacIKnown
namespace Go.Proofs.Ytbmpocalapgmjac.index
open Go.RowKit
set_option linter.unusedVariables false
def tab (S : Nat → Int) : Array Value := ((List.range 32).map (fun i => Value.int .i64 (S i))).toArray
/-- the reference's index in memory -/
def RI (w : World) (q : Nat) (S : Nat → Int) : Prop := Blk w q 49 (tab S) ∧ ∀ x, x < 32 → 0 ≤ S x ∧ S x ≤ 16
theorem tab_get (S : Nat → Int) {k : Nat} (hk : k < 32) : (tab S)[k]? = some (.int .i64 (S k)) := by
  unfold tab
  rw [List.getElem?_toArray, List.getElem?_map, List.getElem?_range hk]
  rfl
theorem tab_set (S : Nat → Int) {k : Nat} (hk : k < 32) (v : Int) : (tab S).setIfInBounds k (.int .i64 v) = tab (upS S k v) := by
  unfold tab
  rw [List.setIfInBounds_toArray]
  congr 1
  apply List.ext_getElem?
  intro i
  rw [List.getElem?_set]
  by_cases e : k = i
  · subst e
    rw [if_pos rfl, if_pos (by simpa using hk)]
    simp [hk, upS]
  · rw [if_neg e]
    simp only [List.getElem?_map]
    by_cases hi : i < 32
    · simp [hi, upS, Ne.symm e]
    · simp [hi]
theorem RI.cell {w : World} {q : Nat} {S : Nat → Int} (h : RI w q S) {k : Nat} (hk : k < 32) : w.cell? ⟨q, k, none⟩ = some (.int .i64 (S k)) := h.1.cell_ k (tab_get S hk)
theorem is_ok (k : Int) (w : World) : Calls Try.prog 37 #[.int .i64 k] w fun e w' => e = .returned (.bool (decide (0 ≤ k ∧ k < 32))) ∧ w = w' := by
  by_cases h : 0 ≤ k
  · by_cases h2 : k < 32
    · rw [decide_eq_true ⟨h, h2⟩]
      go_enter Try.func37, Try.ntmps37
      go_wp2_with fail
      go_ret
      exact ⟨rfl, rfl⟩
    · rw [decide_eq_false (fun c => h2 c.2)]
      have h3 : decide (k < 32) = false := by simpa using h2
      go_enter Try.func37, Try.ntmps37
      go_wp2_with fail
      go_ret
      exact ⟨rfl, rfl⟩
  · rw [decide_eq_false (fun c => h c.1)]
    have h3 : decide (0 ≤ k) = false := by simpa using h
    go_enter Try.func37, Try.ntmps37
    go_wp2_with fail
    go_ret
    exact ⟨rfl, rfl⟩
theorem rget_ok (q : Nat) (S : Nat → Int) (k : Int) (w : World) (h : RI w q S) :
    Calls Try.prog 27 #[.pointer (some ⟨q, 0, none⟩), .int .i64 k] w fun e w' => e = .returned (.tuple #[.int .i64 (gv S k), .bool (gb S k)]) ∧ w = w' := by
  have his := is_ok k w
  by_cases hk : 0 ≤ k ∧ k < 32
  · rw [decide_eq_true hk] at his
    obtain ⟨n, rfl⟩ := Int.eq_ofNat_of_zero_le hk.1
    have hn : n < 32 := by omega
    have hc := h.cell hn
    have hf := h.1.frozen n
    have hl := h.1.lt
    have hb := h.2 n hn
    by_cases h0 : S n = 0
    · have g1 : gb S (n : Int) = false := decide_eq_false (fun c => c.2.2 (by simpa using h0))
      have g2 : gv S (n : Int) = 0 := by unfold gv; rw [if_neg]; simp; exact fun _ => h0
      rw [h0] at hc
      rw [g1, g2]
      clear g1 g2 hb h0
      go_enter Try.func27, Try.ntmps27
      go_wp2_with fail
      refine his.mono ?_
      rintro e w1 ⟨rfl, rfl⟩
      clear his
      go_wp2_with fail
      go_ret2
      exact ⟨rfl, rfl⟩
    · have g1 : gb S (n : Int) = true := decide_eq_true ⟨hk.1, hk.2, by simpa using h0⟩
      have g2 : gv S (n : Int) = S n - 1 := by unfold gv; rw [if_pos ⟨hk.1, hk.2, by simpa using h0⟩]; simp
      have g3 : (S n == 0) = false := by simpa using h0
      rw [g1, g2]
      obtain ⟨v, hv⟩ : ∃ v, v = S n := ⟨_, rfl⟩
      rw [← hv] at hc hb g3 ⊢
      have b0 := hb.1
      have b1 := hb.2
      clear g1 g2 h0 hv hb
      go_enter Try.func27, Try.ntmps27
      go_wp2_with fail
      refine his.mono ?_
      rintro e w1 ⟨rfl, rfl⟩
      clear his
      go_wp2_with fail
      go_ret2
      exact ⟨by go_num, rfl⟩
  · rw [decide_eq_false hk] at his
    have g1 : gb S k = false := decide_eq_false (fun c => hk ⟨c.1, c.2.1⟩)
    have g2 : gv S k = 0 := by unfold gv; rw [if_neg]; exact fun c => hk ⟨c.1, c.2.1⟩
    rw [g1, g2]
    clear g1 g2
    go_enter Try.func27, Try.ntmps27
    go_wp2_with fail
    refine his.mono ?_
    rintro e w1 ⟨rfl, rfl⟩
    clear his
    go_wp2_with fail
    go_ret2
    exact ⟨rfl, rfl⟩
theorem rdel_ok (q : Nat) (S : Nat → Int) (k : Int) (w : World) (h : RI w q S) :
    Calls Try.prog 26 #[.pointer (some ⟨q, 0, none⟩), .int .i64 k] w fun e w' => e = .returned (.bool (gb S k)) ∧ RI w' q (dS S k) ∧ w.grownBy w' (some q) := by
  have hget := rget_ok q S k w h
  cases hc : gb S k with
  | false =>
    have hd : dS S k = S := by unfold dS; rw [hc]; rfl
    rw [hc] at hget
    rw [hd]
    clear hd hc
    go_enter Try.func26, Try.ntmps26
    go_wp2_with fail
    refine hget.mono ?_
    rintro e w1 ⟨rfl, rfl⟩
    go_wp2_with fail
    go_ret
    exact ⟨rfl, h, only_refl _ _⟩
  | true =>
    have hk : 0 ≤ k ∧ k < 32 ∧ S k.toNat ≠ 0 := of_decide_eq_true hc
    rw [hc] at hget
    obtain ⟨n, rfl⟩ := Int.eq_ofNat_of_zero_le hk.1
    have hn : n < 32 := by omega
    have hd : dS S (n : Int) = upS S n 0 := by unfold dS; rw [hc, if_pos rfl]; simp
    rw [hd]
    have hcell := h.cell hn
    have hf := h.1.frozen n
    have hl := h.1.lt
    clear hd hc hk
    go_enter Try.func26, Try.ntmps26
    go_wp2_with fail
    refine hget.mono ?_
    rintro e w1 ⟨rfl, rfl⟩
    clear hget
    go_wp2_with fail
    go_ret
    refine ⟨rfl, ⟨h.1.set_to n _ (tab_set S hn 0), fun x hx => ?_⟩, only_setCell (only_refl _ _) (.inl rfl) _⟩
    unfold upS
    split
    · omega
    · exact h.2 x hx
theorem rput_ok (q : Nat) (S : Nat → Int) (k s : Int) (w : World) (h : RI w q S) :
    Calls Try.prog 24 #[.pointer (some ⟨q, 0, none⟩), .int .i64 k, .int .i64 s] w fun e w' => e = .returned (.bool (pb S k s)) ∧ RI w' q (pS S k s) ∧ w.grownBy w' (some q) := by
  have his := is_ok k w
  by_cases hk : 0 ≤ k ∧ k < 32
  · rw [decide_eq_true hk] at his
    by_cases h3 : s < 0
    · have p : pb S k s = false := decide_eq_false (fun c => by have := c.2.2.1; omega)
      have p2 : pS S k s = S := by unfold pS; rw [p]; rfl
      rw [p, p2]
      clear p p2
      go_enter Try.func24, Try.ntmps24
      go_wp2_with fail
      refine his.mono ?_
      rintro e w1 ⟨rfl, rfl⟩
      go_wp2_with fail
      go_ret
      exact ⟨rfl, h, only_refl _ _⟩
    by_cases h4 : 16 ≤ s
    · have p : pb S k s = false := decide_eq_false (fun c => by have := c.2.2.2.1; omega)
      have p2 : pS S k s = S := by unfold pS; rw [p]; rfl
      have e3 : decide (s < 0) = false := by simpa using h3
      rw [p, p2]
      clear p p2
      go_enter Try.func24, Try.ntmps24
      go_wp2_with fail
      refine his.mono ?_
      rintro e w1 ⟨rfl, rfl⟩
      go_wp2_with fail
      go_ret
      exact ⟨rfl, h, only_refl _ _⟩
    have e3 : decide (s < 0) = false := by simpa using h3
    have e4 : decide (16 ≤ s) = false := by simpa using h4
    obtain ⟨n, rfl⟩ := Int.eq_ofNat_of_zero_le hk.1
    have hn : n < 32 := by omega
    have s0 : 0 ≤ s := by omega
    have s1 : s < 16 := by omega
    have hl := h.1.lt
    have hcn := h.cell hn
    have hfn := h.1.frozen n
    have H := Lib.hid h
    clear hk h3 h4 h
    go_enter Try.func24, Try.ntmps24
    go_wp2_with fail
    refine his.mono ?_
    rintro e w1 ⟨rfl, rfl⟩
    clear his
    go_wp2_with fail
    go_loopw [7] (fun i wr => ∃ j : Nat, i = .int .i64 j ∧ w = wr ∧ j ≤ 32 ∧ ∀ x : Nat, x < j → x ≠ n → S x ≠ s + 1) (fun i _ => 32 - (intOf i).toNat)
    case atStart => exact ⟨0, rfl, rfl, by omega, fun x hx => by omega⟩
    case round =>
      obtain ⟨j, rfl, rfl, hj, hno⟩ := hrel
      by_cases hlt : j < 32
      · have hcj := H.out.cell hlt
        have hfj := H.out.1.frozen j
        have i0 : (0 : Int) ≤ (j : Int) := by omega
        have i1 : (j : Int) < 32 := by omega
        obtain ⟨v, hv⟩ : ∃ v, v = S j := ⟨_, rfl⟩
        rw [← hv] at hcj
        have HV := Lib.hid hv
        clear hv hcn
        by_cases hjn : j = n
        · have t1 : ((j : Int) != (n : Int)) = false := by simp [hjn]
          have hno2 : ∀ x : Nat, x < j + 1 → x ≠ n → S x ≠ s + 1 := fun x hx hxn => hno x (by omega) hxn
          clear hno hjn
          go_wp2_with fail
          go_roundw
          case rel => exact ⟨j + 1, by go_num, (by first | trivial | rfl), by omega, hno2⟩
          case measure => simp [intOf]; omega
        · have t1 : ((j : Int) != (n : Int)) = true := by simp; omega
          by_cases hvs : v = s + 1
          · have t2 : (v == s + 1) = true := by simpa using hvs
            have hfin : pb S (n : Int) s = false ∧ pS S (n : Int) s = S := by
              have p : pb S (n : Int) s = false := decide_eq_false (fun c => c.2.2.2.2 j hlt (by omega) (by rw [← HV.out]; exact hvs))
              exact ⟨p, by unfold pS; rw [p]; rfl⟩
            clear hno hjn hvs
            go_wp2_with fail
            go_ret
            rw [hfin.1, hfin.2]
            exact ⟨by first | rfl | trivial, H.out, only_refl _ _⟩
          · have t2 : (v == s + 1) = false := by simpa using hvs
            have hno2 : ∀ x : Nat, x < j + 1 → x ≠ n → S x ≠ s + 1 := fun x hx hxn => by
              by_cases e : x = j
              · rw [e, ← HV.out]; exact hvs
              · exact hno x (by omega) hxn
            clear hno hjn hvs
            go_wp2_with fail
            go_roundw
            case rel => exact ⟨j + 1, by go_num, (by first | trivial | rfl), by omega, hno2⟩
            case measure => simp [intOf]; omega
      · obtain rfl : j = 32 := by omega
        have hfin : pb S (n : Int) s = true ∧ pS S (n : Int) s = upS S n (s + 1) := by
          have p : pb S (n : Int) s = true := decide_eq_true (show okP S n s from ⟨by omega, by omega, s0, s1, fun x hx hxn => hno x hx (by omega)⟩)
          exact ⟨p, by unfold pS; rw [p, if_pos rfl]; simp⟩
        clear hno
        go_wp2_with fail
        go_ret
        rw [hfin.1, hfin.2]
        refine ⟨by first | rfl | trivial, ⟨H.out.1.set_to n _ (tab_set S hn (s + 1)), fun x hx => ?_⟩, only_setCell (only_refl _ _) (.inl rfl) _⟩
        unfold upS
        split
        · omega
        · exact H.out.2 x hx
  · rw [decide_eq_false hk] at his
    have p : pb S k s = false := decide_eq_false (fun c => hk ⟨c.1, c.2.1⟩)
    have p2 : pS S k s = S := by unfold pS; rw [p]; rfl
    rw [p, p2]
    clear p p2
    go_enter Try.func24, Try.ntmps24
    go_wp2_with fail
    refine his.mono ?_
    rintro e w1 ⟨rfl, rfl⟩
    go_wp2_with fail
    go_ret
    exact ⟨rfl, h, only_refl _ _⟩
end Go.Proofs.Ytbmpocalapgmjac.index
