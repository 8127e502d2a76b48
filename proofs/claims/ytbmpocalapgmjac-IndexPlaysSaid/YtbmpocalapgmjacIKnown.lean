/- An index that a law has made, its methods by contract; the law's known(). -/
import Derived.Test.YtbmpocalapgmjacISlots
namespace Go.Proofs.Ytbmpocalapgmjac.index
open Go.RowKit
set_option linter.unusedVariables false
/-- an index made behind w0, in w -/
def St (w0 w : World) (b g T : Nat) (S : Nat → Int) : Prop := II w b g T S ∧ Below w0.heap.size w0 w ∧ w0.heap.size ≤ b ∧ w0.heap.size ≤ g
section
variable {w0 w w' : World} {b g T : Nat} {S : Nat → Int}
theorem St.bel (h : St w0 w b g T S) : Below w0.heap.size w0 w := h.2.1
theorem St.turn {T' : Nat} {S' : Nat → Int} (h : St w0 w b g T S) (h' : II w' b g T' S') (hg : w.grownBy w' (some b)) : St w0 w' b g T' S' := ⟨h', below_only h.2.1 hg h.2.1.size h.2.2.1, h.2.2⟩
theorem St.below_ (h : St w0 w b g T S) (hb : Below w.heap.size w w') : St w0 w' b g T S := ⟨h.1.below_ hb, h.2.1.trans (hb.mono h.2.1.size), h.2.2⟩
end
theorem new_st (w : World) : Calls Try.prog 18 #[] w fun e w' => e = .returned (.pointer (some ⟨w.heap.size + 1, 0, none⟩)) ∧ St w w' w.heap.size (w.heap.size + 1) 0 (fun _ => 0) := by
  refine (inew_ok w).mono ?_
  rintro e w' ⟨rfl, h1, h2⟩
  exact ⟨rfl, h1, h2, by omega, by omega⟩
theorem put_st (w0 : World) (b g T : Nat) (S : Nat → Int) (k s : Int) (w : World) (h : St w0 w b g T S) (hT : T ≤ 1000000) :
    Calls Try.prog 19 #[.pointer (some ⟨g, 0, none⟩), .int .i64 k, .int .i64 s] w fun e w' => e = .returned (.bool (pb S k s)) ∧ St w0 w' b g (T + 1) (pS S k s) := by
  by_cases hr : 0 ≤ k ∧ k < 32 ∧ 0 ≤ s ∧ s < 16
  · refine (iput_in b g T S k s w h.1 hT hr).mono ?_
    rintro e w' ⟨rfl, h1, h2⟩
    exact ⟨rfl, h.turn h1 h2⟩
  · have e : pb S k s = false := decide_eq_false (fun c => hr ⟨c.1, c.2.1, c.2.2.1, c.2.2.2.1⟩)
    have e2 : pS S k s = S := by unfold pS; rw [e]; rfl
    rw [e, e2]
    refine (iput_no g S k s w hr).mono ?_
    rintro e w' ⟨rfl, rfl⟩
    exact ⟨rfl, h.1.mono (by omega), h.2⟩
def dS (S : Nat → Int) (k : Int) : Nat → Int := if gb S k then upS S k.toNat 0 else S
theorem del_st (w0 : World) (b g T : Nat) (S : Nat → Int) (k : Int) (w : World) (h : St w0 w b g T S) (hk : (Lit.int .i64 k).wf = true) :
    Calls Try.prog 25 #[.pointer (some ⟨g, 0, none⟩), .int .i64 k] w fun e w' => e = .returned (.bool (gb S k)) ∧ St w0 w' b g T (dS S k) := by
  refine (idel_ok b g T S k w h.1 hk).mono ?_
  rintro e w' ⟨rfl, h1, h2⟩
  exact ⟨rfl, h.turn h1 h2⟩
theorem slots_st (w0 : World) (b g T : Nat) (S : Nat → Int) (w : World) (h : St w0 w b g T S) :
    Calls Try.prog 22 #[.pointer (some ⟨g, 0, none⟩)] w fun e w' => ∃ A cap, e = .returned (.slice A (cnt S) cap) ∧ St w0 w' b g T S ∧ cap ≤ 9223372036854775807 ∧ cnt S ≤ cap ∧
      (cnt S = 0 ∨ ∃ r, A = some ⟨r, 0, none⟩ ∧ r < w'.heap.size ∧ w.heap.size ≤ r ∧ ∀ j, j < cnt S → w'.cell? ⟨r, j, none⟩ = some (.int .i64 ((sl S).getD j 0))) ∧ Below w.heap.size w w' := by
  refine (islots_ok b g T S w h.1).mono ?_
  rintro e w' ⟨v, rfl, hrow, hb⟩
  rw [sl_len h.1.bnd] at hrow
  have hl := sl_len h.1.bnd
  rcases hrow.2 with ⟨rfl, hz⟩ | ⟨r, c, cur, rfl, a2, a3, a4, a5, a6, a7⟩
  · rw [hz]
    exact ⟨none, 0, rfl, h.below_ hb, by omega, by omega, .inl rfl, hb⟩
  · refine ⟨_, c, rfl, h.below_ hb, by unfold maxLen at a5; omega, a4, .inr ⟨r, rfl, (Array.getElem?_eq_some_iff.1 a3).1, a2, fun j hj => ?_⟩, hb⟩
    rw [cell_of_row w' r j cur 3 (0, 0) a3]
    have e : (cur.toList.take (cnt S * 1))[j]? = some (.int .i64 ((sl S).getD j 0)) := by
      rw [a7, List.getElem?_map, List.getD_eq_getElem?_getD]
      rw [List.getElem?_eq_getElem (by omega)]
      rfl
    rw [List.getElem?_take, if_pos (by omega)] at e
    simpa using e
theorem known_ok (w : World) : Calls Try.prog 23 #[] w fun e w' => e = .returned (.bool true) ∧ Below w.heap.size w w' := by
  have p1 : pb (fun _ => 0) 3 1 = true := by kernel_rfl
  have p2 : pb (pS (fun _ => 0) 3 1) 4 1 = false := by kernel_rfl
  have p3 : pb (pS (pS (fun _ => 0) 3 1) 4 1) 3 2 = true := by kernel_rfl
  have p4 : pb (pS (pS (pS (fun _ => 0) 3 1) 4 1) 3 2) 4 1 = true := by kernel_rfl
  have p5 : cnt (pS (pS (pS (pS (fun _ => 0) 3 1) 4 1) 3 2) 4 1) = 2 := by kernel_rfl
  go_enter Try.func23, Try.ntmps23
  go_wp2_with fail
  refine (new_st w).mono ?_
  rintro e w1 ⟨rfl, h1⟩
  go_wp2_with fail
  refine (put_st w _ _ _ _ 3 1 w1 h1 (by omega)).mono ?_
  rintro e w2 ⟨rfl, h2⟩
  rw [p1]
  go_wp2_with fail
  refine (put_st w _ _ _ _ 4 1 w2 h2 (by omega)).mono ?_
  rintro e w3 ⟨rfl, h3⟩
  rw [p2]
  go_wp2_with fail
  refine (put_st w _ _ _ _ 3 2 w3 h3 (by omega)).mono ?_
  rintro e w4 ⟨rfl, h4⟩
  rw [p3]
  go_wp2_with fail
  refine (put_st w _ _ _ _ 4 1 w4 h4 (by omega)).mono ?_
  rintro e w5 ⟨rfl, h5⟩
  rw [p4]
  go_wp2_with fail
  refine (ilen_ok _ _ _ _ w5 h5.1).mono ?_
  rintro e w6 ⟨rfl, rfl⟩
  rw [p5]
  go_wp2_with fail
  go_ret
  exact ⟨rfl, h5.bel⟩
end Go.Proofs.Ytbmpocalapgmjac.index
