/- ModelOwn: the model with one block of its own. -/
import Derived.Test.YtbmpocalapgmjabOwn
namespace Go.Proofs.Ytbmpocalapgmjab
open Go.RowKit
set_option linter.unusedVariables false
/-- noughts' slices -/
def nils : List Value := List.replicate 32 (Value.slice none 0 0)
theorem nils_at {i : Nat} (hi : i < 32) : nils[i]? = some (Value.slice none 0 0) := by
  unfold nils; rw [List.getElem?_replicate, if_pos hi]
theorem new_own (w : World) : Calls Try.prog 9 #[] w fun e w' => e = .returned (.pointer (some ⟨w.heap.size, 0, none⟩)) ∧ Blk w' w.heap.size 68 (nils ++ nils).toArray ∧ Below w.heap.size w w' := by
  have hb : Blk (w.alloc (.cells (nils ++ nils).toArray 68)) w.heap.size 68 (nils ++ nils).toArray := Blk.new _ _ _
  have H := Lib.hid hb
  clear hb
  go_enter Try.func9, Try.ntmps9
  go_wp2_with fail
  go_ret
  exact ⟨rfl, H.out, (Below.refl _ _).alloc (Nat.le_refl _) _⟩
theorem Has.only' {w : World} {g' c' : Nat} {l : List UInt8} (h : Has w (.slice (some ⟨g', 0, none⟩) 32 c') l) (p : Addr) (u : Value) (hp : p.block ≠ g') : Has (w.setCell p u) (.slice (some ⟨g', 0, none⟩) 32 c') l := by
  obtain ⟨h1, h2⟩ := h
  refine ⟨h1, ?_⟩
  rcases h2 with h2 | ⟨b, c, cs, fr, hv, hb, hc⟩
  · exact .inl h2
  · refine .inr ⟨b, c, cs, fr, hv, (Below.heap_setCell w p u b ?_).trans hb, hc⟩
    injection hv with hv
    injection hv with hv
    injection hv with hv
    subst hv
    exact Ne.symm hp
/-- the model, block k of it written with bytes in block g' -/
def EI (w : World) (g k g' c' : Nat) (D : List UInt8) : Prop :=
  Blk w g 68 (nils.set k (.slice (some ⟨g', 0, none⟩) 32 c') ++ nils).toArray ∧ Has w (.slice (some ⟨g', 0, none⟩) 32 c') D
section
variable {w w' : World} {g k g' c' : Nat} {D : List UInt8}
theorem EI.mi (h : EI w g k g' c' D) (hk : k < 32) : MI w g (upd (fun _ => zeros) k D) (fun _ => zeros) := by
  refine ⟨_, _, h.1, by simp [nils], by simp [nils], fun i hi => ?_, fun i hi => ?_⟩
  · unfold upd
    by_cases e : i = k
    · subst e
      rw [if_pos rfl]
      exact ⟨_, by simp [nils, hi], h.2⟩
    · rw [if_neg e]
      exact ⟨.slice none 0 0, by rw [List.getElem?_set_ne (Ne.symm e)]; exact nils_at hi, by simp [zeros], .inl ⟨rfl, rfl⟩⟩
  · exact ⟨.slice none 0 0, nils_at hi, by simp [zeros], .inl ⟨rfl, rfl⟩⟩
theorem EI.below (h : EI w g k g' c' D) (hb : Below w.heap.size w w') : EI w' g k g' c' D := ⟨h.1.below_ hb, h.2.below hb⟩
theorem EI.lt (h : EI w g k g' c' D) : g' < w.heap.size := by
  obtain ⟨_, h2⟩ := h.2
  rcases h2 with ⟨e, _⟩ | ⟨b, c, cs, fr, e, hb, _⟩
  · injection e with e; cases e
  · injection e with e
    injection e with e
    injection e with e
    subst e
    exact heap_lt hb
theorem EI.far (h : EI w g k g' c' D) {p : Addr} (h1 : p.block ≠ g) (h2 : p.block ≠ g') (u : Value) : EI (w.setCell p u) g k g' c' D :=
  ⟨h.1.far (Ne.symm h1) u, h.2.only' p u h2⟩
end
theorem do_read_own (g k : Nat) (A : Option Addr) (n c : Nat) (N L : Nat → List UInt8) (w : World) (h : MI w g N L) (hk : k < 32) :
    Calls Try.prog 10 #[.pointer (some ⟨g, 0, none⟩), .agg #[.int .i64 1, .int .i64 k, .slice A n c]] w fun e w' => ∃ a, e = .returned (.agg #[.int .i64 0, .slice (some ⟨a, 0, none⟩) 32 32]) ∧
      Blk w' a 5 (bcells (N k)) ∧ Below w.heap.size w w' ∧ w.heap.size ≤ a := by
  obtain ⟨vs, us, hb, hvs, hus, hN, hL⟩ := h
  obtain ⟨v, hv, hh⟩ := hN k hk
  have hlt := hb.lt
  have hc : w.cell? ⟨g, k, none⟩ = some v := hb.cell_ k (by simp [List.getElem?_append_left (by omega : k < vs.length), hv])
  have ho : okc 1 k n := by unfold okc; omega
  have H := Lib.hid ho
  clear ho hN hL hv
  go_enter Try.func10, Try.ntmps10
  go_wp2_with fail
  refine (is_ok 1 k A n c _ H.out).mono ?_
  rintro e w1 ⟨rfl, hb1⟩
  have hs1 := hb1.size
  simp only [World.size_alloc] at hs1
  have k1 : Blk w1 w.heap.size 30 #[.int .i64 1, .int .i64 k, .slice A n c] := ((Blk.new w 30 _).alloc _).below_ hb1
  have r1 : Blk w1 (w.heap.size + 1) 27 #[.int .i64 0, .slice none 0 0] := by
    have := (Blk.new (w.alloc (.cells #[.int .i64 1, .int .i64 k, .slice A n c] 30)) 27 #[.int .i64 0, .slice none 0 0]).below_ hb1
    rwa [World.size_alloc] at this
  have bel1 : Below w.heap.size w w1 := (((Below.refl _ _).alloc (Nat.le_refl _) _).alloc (by simp) _).trans (hb1.mono (by simp only [World.size_alloc]; omega))
  have hh1 := hh.below bel1
  have g1 := hb.below_ bel1
  have c0 : w1.cell? ⟨w.heap.size, 0, none⟩ = some (.int .i64 1) := k1.cell_ 0 rfl
  have c1 : w1.cell? ⟨w.heap.size, 1, none⟩ = some (.int .i64 k) := k1.cell_ 1 rfl
  have cg : w1.cell? ⟨g, k, none⟩ = some v := (bel1.cell hlt).trans hc
  have i0 : (0 : Int) ≤ (k : Int) := by omega
  have i1 : (k : Int) < 32 := by omega
  have ra : w1.cell? ⟨w.heap.size + 1, 0, none⟩ = some (.int .i64 0) := r1.cell_ 0 rfl
  have rb : w1.cell? ⟨w.heap.size + 1, 1, none⟩ = some (.slice none 0 0) := r1.cell_ 1 rfl
  have rc := r1.frozen 0
  have rd := r1.frozen 1
  have rl := r1.lt
  have n0 : ¬ (w.heap.size + 1 = g) := by omega
  have n1 : g < w1.heap.size := by omega
  clear hc hb1
  go_wp2_with fail
  go_region_held3 (fun w' => w'.cell? ⟨w.heap.size, 1, none⟩ = some (.int .i64 k) ∧ w'.cell? ⟨g, k, none⟩ = some v)
    (first | exact ⟨c1, cg⟩ | go_keep)
    (first | (go_at_call 29; refine (told_ok v (N k) _ hh1.drew).mono ?_; rintro e w2 ⟨rfl, rfl⟩))
  go_wp2_with fail
  refine bodyPost_ret (v := .agg #[.int .i64 0, .slice (some ⟨w1.heap.size, 0, none⟩) 32 32]) (by simp [results, Try.results10, go_sem, ra, rb, rl]) rfl ⟨w1.heap.size, rfl, ?_, ?_, ?_⟩
  · have hm := Blk.new ((w1.setCell ⟨w.heap.size + 1, 0, none⟩ (.int .i64 0)).setCell ⟨w.heap.size + 1, 1, none⟩ (.slice (some ⟨w1.heap.size, 0, none⟩) 32 32)) 5 (bcells (N k))
    simp only [World.size_setCell] at hm
    exact hm
  · exact (((bel1.setCell (by simp) _).setCell (by simp) _).alloc (by simp; omega) _).drew
  · omega
end Go.Proofs.Ytbmpocalapgmjab
