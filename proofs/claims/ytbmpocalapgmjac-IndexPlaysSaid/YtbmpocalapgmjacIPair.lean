/- An index and the reference's index side by side. -/
import Derived.Test.YtbmpocalapgmjacISame
namespace Go.Proofs.Ytbmpocalapgmjac.index
open Go.RowKit
set_option linter.unusedVariables false
/-- nothing but the blocks b and q may have turned -/
def Kp (b q : Nat) (w w' : World) : Prop := w.heap.size ≤ w'.heap.size ∧ ∀ c, c < w.heap.size → c ≠ b → c ≠ q → w'.heap[c]? = w.heap[c]?
theorem Kp.refl (b q : Nat) (w : World) : Kp b q w w := ⟨Nat.le_refl _, fun _ _ _ _ => rfl⟩
theorem Kp.of_b {b q : Nat} {w w' : World} (h : w.grownBy w' (some b)) : Kp b q w w' := ⟨h.size, fun c hc hb _ => h.block c hc (by simpa using hb)⟩
theorem Kp.of_q {b q : Nat} {w w' : World} (h : w.grownBy w' (some q)) : Kp b q w w' := ⟨h.size, fun c hc _ hq => h.block c hc (by simpa using hq)⟩
theorem Blk.kp {w w' : World} {c b q : Nat} {t : TypeId} {cs : Array Value} (h : Blk w c t cs) (hk : Kp b q w w') (h1 : c ≠ b) (h2 : c ≠ q) : Blk w' c t cs := (hk.2 c h.lt h1 h2).trans h
/-- both, made behind w0, in w -/
def PP (w0 w : World) (b g q T : Nat) (Si Sr : Nat → Int) : Prop := St w0 w b g T Si ∧ RI w q Sr ∧ w0.heap.size ≤ q ∧ q ≠ b ∧ q ≠ g
section
variable {w0 w w' : World} {b g q T : Nat} {Si Sr : Nat → Int}
theorem PP.drew (h : PP w0 w b g q T Si Sr) : PP w0 w.drew b g q T Si Sr := ⟨⟨h.1.1.same rfl rfl, h.1.2.1.drew, h.1.2.2⟩, h.2⟩
theorem PP.below_ (h : PP w0 w b g q T Si Sr) (hb : Below w.heap.size w w') : PP w0 w' b g q T Si Sr := ⟨h.1.below_ hb, ⟨h.2.1.1.below_ hb, h.2.1.2⟩, h.2.2⟩
theorem PP.mono {T' : Nat} (h : PP w0 w b g q T Si Sr) (hT : T ≤ T') : PP w0 w b g q T' Si Sr := ⟨⟨h.1.1.mono hT, h.1.2⟩, h.2⟩
theorem PP.size (h : PP w0 w b g q T Si Sr) : w0.heap.size ≤ w.heap.size := h.1.bel.size
end
theorem put_p (w0 : World) (b g q T : Nat) (Si Sr : Nat → Int) (k s : Int) (w : World) (h : PP w0 w b g q T Si Sr) (hT : T ≤ 1000000) :
    Calls Try.prog 19 #[.pointer (some ⟨g, 0, none⟩), .int .i64 k, .int .i64 s] w fun e w' => e = .returned (.bool (pb Si k s)) ∧ PP w0 w' b g q (T + 1) (pS Si k s) Sr ∧ Kp b q w w' := by
  by_cases hr : 0 ≤ k ∧ k < 32 ∧ 0 ≤ s ∧ s < 16
  · refine (iput_in b g T Si k s w h.1.1 hT hr).mono ?_
    rintro e w' ⟨rfl, h1, h2⟩
    exact ⟨rfl, ⟨h.1.turn h1 h2, ⟨h.2.1.1.grown h2 (by simpa using h.2.2.2.1), h.2.1.2⟩, h.2.2⟩, Kp.of_b h2⟩
  · have e : pb Si k s = false := decide_eq_false (fun c => hr ⟨c.1, c.2.1, c.2.2.1, c.2.2.2.1⟩)
    have e2 : pS Si k s = Si := by unfold pS; rw [e]; rfl
    rw [e, e2]
    refine (iput_no g Si k s w hr).mono ?_
    rintro e w' ⟨rfl, rfl⟩
    exact ⟨rfl, h.mono (by omega), Kp.refl _ _ _⟩
theorem del_p (w0 : World) (b g q T : Nat) (Si Sr : Nat → Int) (k : Int) (w : World) (h : PP w0 w b g q T Si Sr) (hk : (Lit.int .i64 k).wf = true) :
    Calls Try.prog 25 #[.pointer (some ⟨g, 0, none⟩), .int .i64 k] w fun e w' => e = .returned (.bool (gb Si k)) ∧ PP w0 w' b g q T (dS Si k) Sr ∧ Kp b q w w' := by
  refine (idel_ok b g T Si k w h.1.1 hk).mono ?_
  rintro e w' ⟨rfl, h1, h2⟩
  exact ⟨rfl, ⟨h.1.turn h1 h2, ⟨h.2.1.1.grown h2 (by simpa using h.2.2.2.1), h.2.1.2⟩, h.2.2⟩, Kp.of_b h2⟩
theorem turn_q {w0 w w' : World} {b g q T : Nat} {Si Sr Sr' : Nat → Int} (h : PP w0 w b g q T Si Sr) (h1 : RI w' q Sr') (h2 : w.grownBy w' (some q)) : PP w0 w' b g q T Si Sr' :=
  ⟨⟨h.1.1.same (h2.block b h.1.1.ltb (by simpa using h.2.2.2.1.symm)) (h2.block g h.1.1.ltg (by simpa using h.2.2.2.2.symm)), below_only h.1.2.1 h2 h.1.2.1.size h.2.2.1, h.1.2.2⟩, h1, h.2.2⟩
theorem rput_p (w0 : World) (b g q T : Nat) (Si Sr : Nat → Int) (k s : Int) (w : World) (h : PP w0 w b g q T Si Sr) :
    Calls Try.prog 24 #[.pointer (some ⟨q, 0, none⟩), .int .i64 k, .int .i64 s] w fun e w' => e = .returned (.bool (pb Sr k s)) ∧ PP w0 w' b g q T Si (pS Sr k s) ∧ Kp b q w w' := by
  refine (rput_ok q Sr k s w h.2.1).mono ?_
  rintro e w' ⟨rfl, h1, h2⟩
  exact ⟨rfl, turn_q h h1 h2, Kp.of_q h2⟩
theorem rdel_p (w0 : World) (b g q T : Nat) (Si Sr : Nat → Int) (k : Int) (w : World) (h : PP w0 w b g q T Si Sr) :
    Calls Try.prog 26 #[.pointer (some ⟨q, 0, none⟩), .int .i64 k] w fun e w' => e = .returned (.bool (gb Sr k)) ∧ PP w0 w' b g q T Si (dS Sr k) ∧ Kp b q w w' := by
  refine (rdel_ok q Sr k w h.2.1).mono ?_
  rintro e w' ⟨rfl, h1, h2⟩
  exact ⟨rfl, turn_q h h1 h2, Kp.of_q h2⟩
theorem slots_p (w0 : World) (b g q T : Nat) (Si Sr : Nat → Int) (w : World) (h : PP w0 w b g q T Si Sr) :
    Calls Try.prog 22 #[.pointer (some ⟨g, 0, none⟩)] w fun e w' => ∃ A cap, e = .returned (.slice A (sl Si).length cap) ∧ PP w0 w' b g q T Si Sr ∧ (sl Si).length ≤ 9223372036854775807 ∧ Ints w' A (sl Si).length (fun j => (sl Si).getD j 0) ∧ Below w.heap.size w w' := by
  refine (islots_ok b g T Si w h.1.1).mono ?_
  rintro e w' ⟨v, rfl, hrow, hb⟩
  obtain ⟨A, cap, rfl, h1, h2⟩ := Own.ints (B := w.heap.size) hrow
  exact ⟨A, cap, rfl, h.below_ hb, h1, h2, hb⟩
theorem rslots_p (w0 : World) (b g q T : Nat) (Si Sr : Nat → Int) (w : World) (h : PP w0 w b g q T Si Sr) :
    Calls Try.prog 29 #[.pointer (some ⟨q, 0, none⟩)] w fun e w' => ∃ A cap, e = .returned (.slice A (sl Sr).length cap) ∧ PP w0 w' b g q T Si Sr ∧ (sl Sr).length ≤ 9223372036854775807 ∧ Ints w' A (sl Sr).length (fun j => (sl Sr).getD j 0) ∧ Below w.heap.size w w' := by
  refine (rslots_ok q Sr w h.2.1).mono ?_
  rintro e w' ⟨v, rfl, hrow, hb⟩
  obtain ⟨A, cap, rfl, h1, h2⟩ := Own.ints hrow
  exact ⟨A, cap, rfl, h.below_ hb, h1, h2, hb⟩
theorem pair_start {w w1 : World} {b g : Nat} (h : St w w1 b g 0 (fun _ => 0)) : PP w (w1.alloc (.cells (Array.replicate 32 (.int .i64 0)) 49)) b g w1.heap.size 0 (fun _ => 0) (fun _ => 0) := by
  refine ⟨h.below_ ((Below.refl _ _).alloc (Nat.le_refl _) _), ⟨?_, fun x _ => by simp⟩, h.bel.size, ?_, ?_⟩
  · have e : tab (fun _ => 0) = Array.replicate 32 (.int .i64 0) := by unfold tab; rfl
    rw [e]
    exact Blk.new w1 49 _
  · have := h.1.ltb; omega
  · have := h.1.ltg; omega
end Go.Proofs.Ytbmpocalapgmjac.index
