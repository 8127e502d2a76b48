/- The contract of the model's Do. -/
import Derived.Test.YtbmpocalapgmjabModel
namespace Go.Proofs.Ytbmpocalapgmjab
open Go.RowKit
set_option linter.unusedVariables false
theorem do_read (g k : Nat) (A : Option Addr) (n c : Nat) (N L : Nat → List UInt8) (w : World) (h : MI w g N L) (hk : k < 32) :
    Calls Try.prog 10 #[.pointer (some ⟨g, 0, none⟩), .agg #[.int .i64 1, .int .i64 k, .slice A n c]] w fun e w' => ∃ a, e = .returned (.agg #[.int .i64 0, .slice (some ⟨a, 0, none⟩) 32 32]) ∧
      Has w' (.slice (some ⟨a, 0, none⟩) 32 32) (N k) ∧ Below w.heap.size w w' ∧ w.heap.size ≤ a := by
  obtain ⟨vs, us, hb, hvs, hus, hN, hL⟩ := h
  obtain ⟨v, hv, hh⟩ := hN k hk
  have hlt := hb.lt
  have hc : w.cell? ⟨g, k, none⟩ = some v := hb.cell_ k (by simp [List.getElem?_append_left (by omega : k < vs.length), hv])
  have ho : okc 1 k n := by unfold okc; omega
  have H := Lib.hid ho
  clear ho hN hL hv
  go_enter Try.func10, Try.ntmps10
  go_wp2_with fail
  refine (is_ok 1 k A n c _ H.out).mono ?_
  rintro e w1 ⟨rfl, hb1⟩
  have hs1 := hb1.size
  simp only [World.size_alloc] at hs1
  have k1 : Blk w1 w.heap.size 30 #[.int .i64 1, .int .i64 k, .slice A n c] := ((Blk.new w 30 _).alloc _).below_ hb1
  have r1 : Blk w1 (w.heap.size + 1) 27 #[.int .i64 0, .slice none 0 0] := by
    have := (Blk.new (w.alloc (.cells #[.int .i64 1, .int .i64 k, .slice A n c] 30)) 27 #[.int .i64 0, .slice none 0 0]).below_ hb1
    rwa [World.size_alloc] at this
  have bel1 : Below w.heap.size w w1 := (((Below.refl _ _).alloc (Nat.le_refl _) _).alloc (by simp) _).trans (hb1.mono (by simp only [World.size_alloc]; omega))
  have hh1 := hh.below bel1
  have g1 := hb.below_ bel1
  have c0 : w1.cell? ⟨w.heap.size, 0, none⟩ = some (.int .i64 1) := k1.cell_ 0 rfl
  have c1 : w1.cell? ⟨w.heap.size, 1, none⟩ = some (.int .i64 k) := k1.cell_ 1 rfl
  have cg : w1.cell? ⟨g, k, none⟩ = some v := (bel1.cell hlt).trans hc
  have i0 : (0 : Int) ≤ (k : Int) := by omega
  have i1 : (k : Int) < 32 := by omega
  have ra : w1.cell? ⟨w.heap.size + 1, 0, none⟩ = some (.int .i64 0) := r1.cell_ 0 rfl
  have rb : w1.cell? ⟨w.heap.size + 1, 1, none⟩ = some (.slice none 0 0) := r1.cell_ 1 rfl
  have rc := r1.frozen 0
  have rd := r1.frozen 1
  have rl := r1.lt
  have n0 : ¬ (w.heap.size + 1 = g) := by omega
  have n1 : g < w1.heap.size := by omega
  clear hc hb1
  go_wp2_with fail
  go_region_held3 (fun w' => w'.cell? ⟨w.heap.size, 1, none⟩ = some (.int .i64 k) ∧ w'.cell? ⟨g, k, none⟩ = some v)
    (first | exact ⟨c1, cg⟩ | go_keep)
    (first | (go_at_call 29; refine (told_ok v (N k) _ hh1.drew).mono ?_; rintro e w2 ⟨rfl, rfl⟩))
  go_wp2_with fail
  refine bodyPost_ret (v := .agg #[.int .i64 0, .slice (some ⟨w1.heap.size, 0, none⟩) 32 32]) (by simp [results, Try.results10, go_sem, ra, rb, rl]) rfl ⟨w1.heap.size, rfl, ?_, ?_, ?_⟩
  · have hm := Has.made ((w1.setCell ⟨w.heap.size + 1, 0, none⟩ (.int .i64 0)).setCell ⟨w.heap.size + 1, 1, none⟩ (.slice (some ⟨w1.heap.size, 0, none⟩) 32 32)) (N k) hh.1 32
    simp only [World.size_setCell] at hm
    exact hm
  · exact (((bel1.setCell (by simp) _).setCell (by simp) _).alloc (by simp; omega) _).drew
  · omega
theorem cell_far {w : World} {g h i j : Nat} {v : Value} (hne : g ≠ h) : (w.setCell ⟨g, i, none⟩ v).cell? ⟨h, j, none⟩ = w.cell? ⟨h, j, none⟩ :=
  World.cell?_setCell_other _ _ _ _ (fun e => hne (by injection e))
theorem Data32.drew {w : World} {A : Option Addr} {l : List UInt8} (h : Data32 w A l) : Data32 w.drew A l := h
theorem MI.drew {w : World} {g : Nat} {N L : Nat → List UInt8} (h : MI w g N L) : MI w.drew g N L := h
/-- a block written -/
def upd (N : Nat → List UInt8) (k : Nat) (l : List UInt8) : Nat → List UInt8 := fun i => if i = k then l else N i
theorem MI.store {w : World} {g k : Nat} {N L : Nat → List UInt8} {v : Value} {l : List UInt8} (h : MI w g N L) (hk : k < 32) (hv : Has w v l) : MI (w.setCell ⟨g, k, none⟩ v) g (upd N k l) L := by
  obtain ⟨vs, us, b, h1, h2, h3, h4⟩ := h
  have hb : Blk (w.setCell ⟨g, k, none⟩ v) g 68 (vs.set k v ++ us).toArray := b.set_to k v (by
    rw [List.setIfInBounds_toArray, List.set_append_left _ _ (by omega)])
  refine ⟨vs.set k v, us, hb, by simpa using h1, h2, fun i hi => ?_, fun i hi => ?_⟩
  · by_cases e : i = k
    · subst e
      exact ⟨v, by simp [h1, hi], by unfold upd; rw [if_pos rfl]; exact hv.setCell b (by decide) _ _⟩
    · obtain ⟨u, e1, hu⟩ := h3 i hi
      exact ⟨u, by rw [List.getElem?_set_ne (by omega)]; exact e1, by unfold upd; rw [if_neg e]; exact hu.setCell b (by decide) _ _⟩
  · obtain ⟨u, e1, hu⟩ := h4 i hi
    exact ⟨u, e1, hu.setCell b (by decide) _ _⟩
theorem do_write (g k : Nat) (A : Option Addr) (c : Nat) (l : List UInt8) (N L : Nat → List UInt8) (w : World) (h : MI w g N L) (hk : k < 32) (hd : Data32 w A l) :
    Calls Try.prog 10 #[.pointer (some ⟨g, 0, none⟩), .agg #[.int .i64 2, .int .i64 k, .slice A 32 c]] w fun e w' => e = .returned (.agg #[.int .i64 0, .slice none 0 0]) ∧
      MI w' g (upd N k l) L ∧ w.grownBy w' (some g) := by
  have hlt := h.lt
  have ho : okc 2 k 32 := by unfold okc; omega
  have H := Lib.hid ho
  clear ho
  have i0 : (0 : Int) ≤ (k : Int) := by omega
  have i1 : (k : Int) < 32 := by omega
  go_enter Try.func10, Try.ntmps10
  go_wp2_with fail
  refine (is_ok 2 k A 32 c _ H.out).mono ?_
  rintro e w1 ⟨rfl, hb1⟩
  have hs1 := hb1.size
  simp only [World.size_alloc] at hs1
  have k1 : Blk w1 w.heap.size 30 #[.int .i64 2, .int .i64 k, .slice A 32 c] := ((Blk.new w 30 _).alloc _).below_ hb1
  have r1 : Blk w1 (w.heap.size + 1) 27 #[.int .i64 0, .slice none 0 0] := by
    have := (Blk.new (w.alloc (.cells #[.int .i64 2, .int .i64 k, .slice A 32 c] 30)) 27 #[.int .i64 0, .slice none 0 0]).below_ hb1
    rwa [World.size_alloc] at this
  have bel1 : Below w.heap.size w w1 := (((Below.refl _ _).alloc (Nat.le_refl _) _).alloc (by simp) _).trans (hb1.mono (by simp only [World.size_alloc]; omega))
  have m1 := h.below bel1
  have d1 : Data32 w1 A l := by
    obtain ⟨hl, b, o, hA, hbl, hc⟩ := hd
    exact ⟨hl, b, o, hA, by omega, fun j u hu => (bel1.cell hbl).trans (hc j u hu)⟩
  have c0 : w1.cell? ⟨w.heap.size, 0, none⟩ = some (.int .i64 2) := k1.cell_ 0 rfl
  have c1 : w1.cell? ⟨w.heap.size, 1, none⟩ = some (.int .i64 k) := k1.cell_ 1 rfl
  have c2 : w1.cell? ⟨w.heap.size, 2, none⟩ = some (.slice A 32 c) := k1.cell_ 2 rfl
  have n1 : ¬ (w.heap.size = g) := by omega
  have hlt1 : g < w1.heap.size := by omega
  clear hb1 hd h
  go_wp2_with fail
  go_region_held3 (fun w' => w'.cell? ⟨w.heap.size, 1, none⟩ = some (.int .i64 k) ∧ w'.cell? ⟨w.heap.size, 2, none⟩ = some (.slice A 32 c))
    (first | exact ⟨c1, c2⟩ | exact ⟨(hb2.cell (by simp; omega)).trans c1, (hb2.cell (by simp; omega)).trans c2⟩ | exact ⟨(cell_far (by omega)).trans ((hb2.cell (by simp; omega)).trans c1), (cell_far (by omega)).trans ((hb2.cell (by simp; omega)).trans c2)⟩)
    (first | (go_at_call 30; refine (clone_ok A c l _ d1.drew).mono ?_; rintro e w2 ⟨g', c', rfl, hv2, hb2⟩; have m2 := m1.drew.below hb2; obtain ⟨vs, us, hB2, hvs, hus, hN2, hL2⟩ := m1.drew.below hb2; have hs2 := hB2.lt; have hf2 := hB2.frozen k; obtain ⟨v0, hv0, _⟩ := hN2 k hk; have hc2 : w2.cell? ⟨g, k, none⟩ = some v0 := hB2.cell_ k (by simp [List.getElem?_append_left (by omega : k < vs.length), hv0])))
  have r3 := (r1.drew.below_ hb2).far (p := ⟨g, k, none⟩) (by simp; omega) (.slice (some ⟨g', 0, none⟩) 32 c')
  have m3 := m2.store hk hv2
  have o3 : w.grownBy (w2.setCell ⟨g, k, none⟩ (.slice (some ⟨g', 0, none⟩) 32 c')) (some g) := only_setCell (only_of_below (bel1.drew.trans (hb2.mono (by simp; omega))) _) (.inl rfl) _
  generalize w2.setCell ⟨g, k, none⟩ (.slice (some ⟨g', 0, none⟩) 32 c') = w3 at r3 m3 o3 ⊢
  clear hb2 hB2 hf2 hc2 m2 c0 c1 c2
  have ra : w3.cell? ⟨w.heap.size + 1, 0, none⟩ = some (.int .i64 0) := r3.cell_ 0 rfl
  have rb : w3.cell? ⟨w.heap.size + 1, 1, none⟩ = some (.slice none 0 0) := r3.cell_ 1 rfl
  have rc := r3.frozen 0
  have rd := r3.frozen 1
  have rl := r3.lt
  go_wp2_with fail
  refine bodyPost_ret (v := .agg #[.int .i64 0, .slice none 0 0]) (by simp [results, Try.results10, go_sem, ra, rb]) rfl ⟨rfl, ?_, ?_⟩
  · exact (m3.only (g' := w.heap.size + 1) (only_setCell (only_refl _ _) (.inl rfl) _) r3 (by decide) (by decide)).only (g' := w.heap.size + 1) (only_setCell (only_refl _ _) (.inl rfl) _) (r3.set_ 0 _) (by decide) (by decide)
  · exact only_setCell (only_setCell o3 (.inr (by simp)) _) (.inr (by simp)) _
theorem do_bad (g : Nat) (k i : Int) (A : Option Addr) (n c : Nat) (w : World) (hb : ¬ okc k i n) (P : Option Addr) (hP : P = some ⟨g, 0, none⟩ ∨ P = none) :
    Calls Try.prog 10 #[.pointer P, .agg #[.int .i64 k, .int .i64 i, .slice A n c]] w fun e w' => e = .returned (.agg #[.int .i64 1, .slice none 0 0]) ∧ Below w.heap.size w w' := by
  have H := Lib.hid hb
  clear hb
  rcases hP with rfl | rfl
  · go_enter Try.func10, Try.ntmps10
    go_wp2_with fail
    refine (is_no k i A n c _ H.out).mono ?_
    rintro e w1 ⟨rfl, hb1⟩
    have hs1 := hb1.size
    simp only [World.size_alloc] at hs1
    have r1 : Blk w1 (w.heap.size + 1) 27 #[.int .i64 0, .slice none 0 0] := by
      have := (Blk.new (w.alloc (.cells #[.int .i64 k, .int .i64 i, .slice A n c] 30)) 27 #[.int .i64 0, .slice none 0 0]).below_ hb1
      rwa [World.size_alloc] at this
    have bel1 : Below w.heap.size w w1 := (((Below.refl _ _).alloc (Nat.le_refl _) _).alloc (by simp) _).trans (hb1.mono (by simp only [World.size_alloc]; omega))
    have ra : w1.cell? ⟨w.heap.size + 1, 0, none⟩ = some (.int .i64 0) := r1.cell_ 0 rfl
    have rb : w1.cell? ⟨w.heap.size + 1, 1, none⟩ = some (.slice none 0 0) := r1.cell_ 1 rfl
    have rc := r1.frozen 0
    have rd := r1.frozen 1
    have rl := r1.lt
    go_wp2_with fail
    exact bodyPost_ret (v := .agg #[.int .i64 1, .slice none 0 0]) (by simp [results, Try.results10, go_sem, ra, rb]) rfl ⟨rfl, (bel1.setCell (by simp) _).setCell (by simp) _⟩
  · go_enter Try.func10, Try.ntmps10
    go_wp2_with fail
    exact bodyPost_ret (v := .agg #[.int .i64 1, .slice none 0 0]) (by simp [results, Try.results10, go_sem]) rfl ⟨rfl, ((Below.refl _ _).alloc (Nat.le_refl _) _).alloc (by simp) _⟩
theorem do_nil (k i : Int) (A : Option Addr) (n c : Nat) (w : World) :
    Calls Try.prog 10 #[.pointer none, .agg #[.int .i64 k, .int .i64 i, .slice A n c]] w fun e w' => e = .returned (.agg #[.int .i64 1, .slice none 0 0]) ∧ Below w.heap.size w w' := by
  go_enter Try.func10, Try.ntmps10
  go_wp2_with fail
  exact bodyPost_ret (v := .agg #[.int .i64 1, .slice none 0 0]) (by simp [results, Try.results10, go_sem]) rfl ⟨rfl, ((Below.refl _ _).alloc (Nat.le_refl _) _).alloc (by simp) _⟩
theorem do_discard (g k : Nat) (A : Option Addr) (n c : Nat) (N L : Nat → List UInt8) (w : World) (h : MI w g N L) (hk : k < 32) :
    Calls Try.prog 10 #[.pointer (some ⟨g, 0, none⟩), .agg #[.int .i64 4, .int .i64 k, .slice A n c]] w fun e w' => e = .returned (.agg #[.int .i64 0, .slice none 0 0]) ∧
      MI w' g (upd N k zeros) L ∧ w.grownBy w' (some g) := by
  have hlt := h.lt
  have ho : okc 4 k n := by unfold okc; omega
  have H := Lib.hid ho
  clear ho
  have i0 : (0 : Int) ≤ (k : Int) := by omega
  have i1 : (k : Int) < 32 := by omega
  go_enter Try.func10, Try.ntmps10
  go_wp2_with fail
  refine (is_ok 4 k A n c _ H.out).mono ?_
  rintro e w1 ⟨rfl, hb1⟩
  have hs1 := hb1.size
  simp only [World.size_alloc] at hs1
  have k1 : Blk w1 w.heap.size 30 #[.int .i64 4, .int .i64 k, .slice A n c] := ((Blk.new w 30 _).alloc _).below_ hb1
  have r1 : Blk w1 (w.heap.size + 1) 27 #[.int .i64 0, .slice none 0 0] := by
    have := (Blk.new (w.alloc (.cells #[.int .i64 4, .int .i64 k, .slice A n c] 30)) 27 #[.int .i64 0, .slice none 0 0]).below_ hb1
    rwa [World.size_alloc] at this
  have bel1 : Below w.heap.size w w1 := (((Below.refl _ _).alloc (Nat.le_refl _) _).alloc (by simp) _).trans (hb1.mono (by simp only [World.size_alloc]; omega))
  have m1 := h.below bel1
  obtain ⟨vs, us, hB2, hvs, hus, hN2, hL2⟩ := h.below bel1
  have hf2 := hB2.frozen k
  obtain ⟨v0, hv0, _⟩ := hN2 k hk
  have hc2 : w1.cell? ⟨g, k, none⟩ = some v0 := hB2.cell_ k (by simp [List.getElem?_append_left (by omega : k < vs.length), hv0])
  have c0 : w1.cell? ⟨w.heap.size, 0, none⟩ = some (.int .i64 4) := k1.cell_ 0 rfl
  have c1 : w1.cell? ⟨w.heap.size, 1, none⟩ = some (.int .i64 k) := k1.cell_ 1 rfl
  have n1 : ¬ (w.heap.size = g) := by omega
  have hlt1 : g < w1.heap.size := by omega
  clear hb1 h hN2 hL2 hv0
  go_wp2_with fail
  go_region
  have hz : Has w1 (.slice none 0 0) zeros := ⟨by simp [zeros], .inl ⟨rfl, rfl⟩⟩
  have r3 := r1.far (p := ⟨g, k, none⟩) (by simp; omega) (.slice none 0 0)
  have m3 := m1.store hk hz
  have o3 : w.grownBy (w1.setCell ⟨g, k, none⟩ (.slice none 0 0)) (some g) := only_setCell (only_of_below bel1 _) (.inl rfl) _
  generalize w1.setCell ⟨g, k, none⟩ (.slice none 0 0) = w3 at r3 m3 o3 ⊢
  clear hB2 hf2 hc2 m1 c0 c1
  have ra : w3.cell? ⟨w.heap.size + 1, 0, none⟩ = some (.int .i64 0) := r3.cell_ 0 rfl
  have rb : w3.cell? ⟨w.heap.size + 1, 1, none⟩ = some (.slice none 0 0) := r3.cell_ 1 rfl
  have rc := r3.frozen 0
  have rd := r3.frozen 1
  have rl := r3.lt
  go_wp2_with fail
  refine bodyPost_ret (v := .agg #[.int .i64 0, .slice none 0 0]) (by simp [results, Try.results10, go_sem, ra, rb]) rfl ⟨rfl, ?_, ?_⟩
  · exact ((m3.only (g' := w.heap.size + 1) (only_setCell (only_refl _ _) (.inl rfl) _) r3 (by decide) (by decide)).only (g' := w.heap.size + 1) (only_setCell (only_refl _ _) (.inl rfl) _) (r3.set_ 0 _) (by decide) (by decide)).drew
  · exact only_drew (only_setCell (only_setCell o3 (.inr (by simp)) _) (.inr (by simp)) _)
end Go.Proofs.Ytbmpocalapgmjab
