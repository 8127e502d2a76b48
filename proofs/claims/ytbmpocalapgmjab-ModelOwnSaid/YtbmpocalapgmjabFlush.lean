/- The model's Do at a flush, Crash, Last; the law's small example. -/
import Derived.Test.YtbmpocalapgmjabDo
namespace Go.Proofs.Ytbmpocalapgmjab
open Go.RowKit
set_option linter.unusedVariables false
theorem info66 : (Try.prog.info? 66).map (·.size) = some 32 := by kernel_rfl
theorem Has.one {w : World} {v : Value} {l : List UInt8} (h : Has w v l) : v.oneCell' = true := by
  obtain ⟨_, h⟩ := h
  rcases h with ⟨rfl, _⟩ | ⟨b, c, cs, fr, rfl, _⟩ <;> rfl
theorem all_has {w : World} {vs : List Value} {N : Nat → List UInt8} (hl : vs.length = 32) (h : ∀ i, i < 32 → ∃ v, vs[i]? = some v ∧ Has w v (N i)) : ∀ v ∈ vs, v.oneCell' = true := by
  intro v hv
  obtain ⟨i, hi⟩ := List.mem_iff_getElem?.1 hv
  have hlt : i < 32 := by have := (List.getElem?_eq_some_iff.1 hi).1; omega
  obtain ⟨u, hu, hh⟩ := h i hlt
  rw [hi] at hu
  injection hu with hu
  subst hu
  exact hh.one
theorem Has.setCells {w : World} {v : Value} {l : List UInt8} {g t : Nat} {cs : Array Value} (h : Has w v l) (hb : Blk w g t cs) (ht : t ≠ 5) (o : Nat) (vs : List Value) : Has (w.setCells g o vs) v l :=
  h.only (g := g) (only_setCells vs o w (only_refl _ _)) hb ht
theorem range_of {w : World} {g t o : Nat} {cs : List Value} {vs : List Value} (h : Blk w g t cs.toArray) (hv : ∀ (j : Nat) (u : Value), vs[j]? = some u → cs[o + j]? = some u) : w.rangeAt g o vs := by
  intro j u hj
  rw [h.cell]
  simpa using hv j u hj
theorem there_of {w : World} {g t o n : Nat} {cs : List Value} (h : Blk w g t cs.toArray) (hn : o + n ≤ cs.length) : w.there g o n := by
  intro j hj
  refine ⟨?_, h.frozen _⟩
  rw [h.cell]
  simp
  omega
/-- all lasts -/
theorem MI.lasts {w : World} {g : Nat} {vs us : List Value} {N L : Nat → List UInt8} (b : Blk w g 68 (vs ++ us).toArray) (h1 : vs.length = 32) (h2 : us.length = 32) (h3 : ∀ i, i < 32 → ∃ v, vs[i]? = some v ∧ Has w v (N i)) :
    MI (w.setCells g 32 vs) g N N := by
  have hb := Blk.setCells (w := w) vs (vs ++ us) 32 w b (by simp; omega)
  have e : (vs ++ us).take 32 ++ (vs ++ (vs ++ us).drop (32 + vs.length)) = vs ++ vs := by
    rw [List.take_left' h1, List.drop_eq_nil_of_le (by simp [h1, h2]), List.append_nil]
  rw [e] at hb
  refine ⟨vs, vs, hb, h1, h1, fun i hi => ?_, fun i hi => ?_⟩
  all_goals
    obtain ⟨v, hv, hh⟩ := h3 i hi
    exact ⟨v, hv, hh.setCells b (by decide) _ _⟩
/-- all is what lasts -/
theorem MI.back {w : World} {g : Nat} {vs us : List Value} {N L : Nat → List UInt8} (b : Blk w g 68 (vs ++ us).toArray) (h1 : vs.length = 32) (h2 : us.length = 32) (h4 : ∀ i, i < 32 → ∃ v, us[i]? = some v ∧ Has w v (L i)) :
    MI (w.setCells g 0 us) g L L := by
  have hb := Blk.setCells (w := w) us (vs ++ us) 0 w b (by simp)
  have e : (vs ++ us).take 0 ++ (us ++ (vs ++ us).drop (0 + us.length)) = us ++ us := by
    rw [List.take_zero, List.nil_append, Nat.zero_add, h2, ← h1, List.drop_left]
  rw [e] at hb
  refine ⟨us, us, hb, h2, h2, fun i hi => ?_, fun i hi => ?_⟩
  all_goals
    obtain ⟨v, hv, hh⟩ := h4 i hi
    exact ⟨v, hv, hh.setCells b (by decide) _ _⟩
theorem do_flush (g : Nat) (k i : Int) (A : Option Addr) (n c : Nat) (N L : Nat → List UInt8) (w : World) (h : MI w g N L) (hk : k = 3 ∨ k = 5) :
    Calls Try.prog 10 #[.pointer (some ⟨g, 0, none⟩), .agg #[.int .i64 k, .int .i64 i, .slice A n c]] w fun e w' => e = .returned (.agg #[.int .i64 0, .slice none 0 0]) ∧
      MI w' g N N ∧ w.grownBy w' (some g) := by
  have hlt := h.lt
  have ho : okc k i n := by unfold okc; omega
  have H := Lib.hid ho
  clear ho
  rcases hk with rfl | rfl
  · go_enter Try.func10, Try.ntmps10
    go_wp2_with fail
    refine (is_ok 3 i A n c _ H.out).mono ?_
    rintro e w1 ⟨rfl, hb1⟩
    have hs1 := hb1.size
    simp only [World.size_alloc] at hs1
    have k1 : Blk w1 w.heap.size 30 #[.int .i64 3, .int .i64 i, .slice A n c] := ((Blk.new w 30 _).alloc _).below_ hb1
    have r1 : Blk w1 (w.heap.size + 1) 27 #[.int .i64 0, .slice none 0 0] := by
      have := (Blk.new (w.alloc (.cells #[.int .i64 3, .int .i64 i, .slice A n c] 30)) 27 #[.int .i64 0, .slice none 0 0]).below_ hb1
      rwa [World.size_alloc] at this
    have bel1 : Below w.heap.size w w1 := (((Below.refl _ _).alloc (Nat.le_refl _) _).alloc (by simp) _).trans (hb1.mono (by simp only [World.size_alloc]; omega))
    obtain ⟨vs, us, hB2, hvs, hus, hN2, hL2⟩ := h.below bel1
    have hr : w1.rangeAt g 0 vs := range_of hB2 (fun j u hj => by rw [Nat.zero_add, List.getElem?_append_left (List.getElem?_eq_some_iff.1 hj).1]; exact hj)
    have ht : w1.there g 32 vs.toArray.size := there_of hB2 (by simp; omega)
    have hsz : (Try.prog.info? 66).map (·.size) = some vs.length := by rw [hvs]; exact info66
    have hsz' : (Try.prog.info? 66).map (·.size) = some vs.toArray.size := by rw [List.size_toArray]; exact hsz
    have h1 : vs.toArray.all (·.oneCell') = true := all_oneCell_toArray (all_has hvs hN2)
    have m3 := MI.lasts hB2 hvs hus hN2 (L := N)
    have o3 : w.grownBy (w1.setCells g 32 vs) (some g) := only_setCells _ _ _ (only_of_below bel1 _)
    have r3 : Blk (w1.setCells g 32 vs) (w.heap.size + 1) 27 #[.int .i64 0, .slice none 0 0] := r1.grown (only_setCells vs 32 w1 (only_refl _ (some g))) (by simp; omega)
    have c0 : w1.cell? ⟨w.heap.size, 0, none⟩ = some (.int .i64 3) := k1.cell_ 0 rfl
    have hlt1 : g < w1.heap.size := by omega
    have M3 := Lib.hid m3; have O3 := Lib.hid o3; have R3 := Lib.hid r3
    clear hb1 h hN2 hL2 m3 o3 r3 hB2 hvs hus
    go_wp2_with (first | (with_reducible refine wpList_load_mid rfl 66 _ rfl g 0 rfl vs _ hr Try.underlying66 rfl hsz ?_) | (with_reducible refine wpList_store_mid rfl 66 _ _ rfl g 32 vs.toArray rfl rfl ht hsz' h1 ?_; rw [List.toList_toArray]; clear hr ht hsz hsz' h1; generalize w1.setCells g 32 vs = w3 at M3 O3 R3 ⊢; have ra : w3.cell? ⟨w.heap.size + 1, 0, none⟩ = some (.int .i64 0) := R3.out.cell_ 0 rfl; have rb : w3.cell? ⟨w.heap.size + 1, 1, none⟩ = some (.slice none 0 0) := R3.out.cell_ 1 rfl; have rc := R3.out.frozen 0; have rd := R3.out.frozen 1; have rl := R3.out.lt))
    refine bodyPost_ret (v := .agg #[.int .i64 0, .slice none 0 0]) (by simp [results, Try.results10, go_sem, ra, rb]) rfl ⟨rfl, ?_, ?_⟩
    · exact (M3.out.only (g' := w.heap.size + 1) (only_setCell (only_refl _ _) (.inl rfl) _) R3.out (by decide) (by decide)).only (g' := w.heap.size + 1) (only_setCell (only_refl _ _) (.inl rfl) _) (R3.out.set_ 0 _) (by decide) (by decide)
    · exact only_setCell (only_setCell O3.out (.inr (by simp)) _) (.inr (by simp)) _
  · go_enter Try.func10, Try.ntmps10
    go_wp2_with fail
    refine (is_ok 5 i A n c _ H.out).mono ?_
    rintro e w1 ⟨rfl, hb1⟩
    have hs1 := hb1.size
    simp only [World.size_alloc] at hs1
    have k1 : Blk w1 w.heap.size 30 #[.int .i64 5, .int .i64 i, .slice A n c] := ((Blk.new w 30 _).alloc _).below_ hb1
    have r1 : Blk w1 (w.heap.size + 1) 27 #[.int .i64 0, .slice none 0 0] := by
      have := (Blk.new (w.alloc (.cells #[.int .i64 5, .int .i64 i, .slice A n c] 30)) 27 #[.int .i64 0, .slice none 0 0]).below_ hb1
      rwa [World.size_alloc] at this
    have bel1 : Below w.heap.size w w1 := (((Below.refl _ _).alloc (Nat.le_refl _) _).alloc (by simp) _).trans (hb1.mono (by simp only [World.size_alloc]; omega))
    obtain ⟨vs, us, hB2, hvs, hus, hN2, hL2⟩ := h.below bel1
    have hr : w1.rangeAt g 0 vs := range_of hB2 (fun j u hj => by rw [Nat.zero_add, List.getElem?_append_left (List.getElem?_eq_some_iff.1 hj).1]; exact hj)
    have ht : w1.there g 32 vs.toArray.size := there_of hB2 (by simp; omega)
    have hsz : (Try.prog.info? 66).map (·.size) = some vs.length := by rw [hvs]; exact info66
    have hsz' : (Try.prog.info? 66).map (·.size) = some vs.toArray.size := by rw [List.size_toArray]; exact hsz
    have h1 : vs.toArray.all (·.oneCell') = true := all_oneCell_toArray (all_has hvs hN2)
    have m3 := MI.lasts hB2 hvs hus hN2 (L := N)
    have o3 : w.grownBy (w1.setCells g 32 vs) (some g) := only_setCells _ _ _ (only_of_below bel1 _)
    have r3 : Blk (w1.setCells g 32 vs) (w.heap.size + 1) 27 #[.int .i64 0, .slice none 0 0] := r1.grown (only_setCells vs 32 w1 (only_refl _ (some g))) (by simp; omega)
    have c0 : w1.cell? ⟨w.heap.size, 0, none⟩ = some (.int .i64 5) := k1.cell_ 0 rfl
    have hlt1 : g < w1.heap.size := by omega
    have M3 := Lib.hid m3; have O3 := Lib.hid o3; have R3 := Lib.hid r3
    clear hb1 h hN2 hL2 m3 o3 r3 hB2 hvs hus
    go_wp2_with (first | (with_reducible refine wpList_load_mid rfl 66 _ rfl g 0 rfl vs _ hr Try.underlying66 rfl hsz ?_) | (with_reducible refine wpList_store_mid rfl 66 _ _ rfl g 32 vs.toArray rfl rfl ht hsz' h1 ?_; rw [List.toList_toArray]; clear hr ht hsz hsz' h1; generalize w1.setCells g 32 vs = w3 at M3 O3 R3 ⊢; have ra : w3.cell? ⟨w.heap.size + 1, 0, none⟩ = some (.int .i64 0) := R3.out.cell_ 0 rfl; have rb : w3.cell? ⟨w.heap.size + 1, 1, none⟩ = some (.slice none 0 0) := R3.out.cell_ 1 rfl; have rc := R3.out.frozen 0; have rd := R3.out.frozen 1; have rl := R3.out.lt))
    refine bodyPost_ret (v := .agg #[.int .i64 0, .slice none 0 0]) (by simp [results, Try.results10, go_sem, ra, rb]) rfl ⟨rfl, ?_, ?_⟩
    · exact (M3.out.only (g' := w.heap.size + 1) (only_setCell (only_refl _ _) (.inl rfl) _) R3.out (by decide) (by decide)).only (g' := w.heap.size + 1) (only_setCell (only_refl _ _) (.inl rfl) _) (R3.out.set_ 0 _) (by decide) (by decide)
    · exact only_setCell (only_setCell O3.out (.inr (by simp)) _) (.inr (by simp)) _
theorem crash_ok (g : Nat) (N L : Nat → List UInt8) (w : World) (h : MI w g N L) :
    Calls Try.prog 11 #[.pointer (some ⟨g, 0, none⟩)] w fun e w' => e = .returned (.tuple #[]) ∧ MI w' g L L ∧ w.grownBy w' (some g) := by
  have hlt := h.lt
  obtain ⟨vs, us, hB2, hvs, hus, hN2, hL2⟩ := h
  have hr : w.rangeAt g 32 us := range_of hB2 (fun j u hj => by rw [List.getElem?_append_right (by omega), hvs, Nat.add_sub_cancel_left]; exact hj)
  have ht : w.there g 0 us.toArray.size := there_of hB2 (by simp)
  have hsz : (Try.prog.info? 66).map (·.size) = some us.length := by rw [hus]; exact info66
  have hsz' : (Try.prog.info? 66).map (·.size) = some us.toArray.size := by rw [List.size_toArray]; exact hsz
  have h1 : us.toArray.all (·.oneCell') = true := all_oneCell_toArray (all_has hus hL2)
  have m3 := MI.back hB2 hvs hus hL2 (N := L)
  have o3 : w.grownBy (w.setCells g 0 us) (some g) := only_setCells _ _ _ (only_refl _ _)
  have M3 := Lib.hid m3; have O3 := Lib.hid o3
  clear hN2 hL2 m3 o3 hB2 hvs hus
  go_enter Try.func11, Try.ntmps11
  go_wp2_with (first | (with_reducible refine wpList_load_mid rfl 66 _ rfl g 32 rfl us _ hr Try.underlying66 rfl hsz ?_) | (with_reducible refine wpList_store_mid rfl 66 _ _ rfl g 0 us.toArray rfl rfl ht hsz' h1 ?_; rw [List.toList_toArray]; clear hr ht hsz hsz' h1; generalize w.setCells g 0 us = w3 at M3 O3 ⊢))
  go_end0
  exact ⟨rfl, M3.out, O3.out⟩
theorem crash_nil (w : World) : Calls Try.prog 11 #[.pointer none] w fun e w' => e = .returned (.tuple #[]) ∧ w = w' := by
  go_enter Try.func11, Try.ntmps11
  go_wp2
  go_end0
  exact ⟨rfl, rfl⟩
theorem last_ok (g k : Nat) (N L : Nat → List UInt8) (w : World) (h : MI w g N L) (hk : k < 32) :
    Calls Try.prog 18 #[.pointer (some ⟨g, 0, none⟩), .int .i64 k] w fun e w' => e = .returned (.slice (some ⟨w.heap.size, 0, none⟩) 32 32) ∧ w' = w.alloc (.cells (bcells (L k)) 5) := by
  obtain ⟨vs, us, hb, hvs, hus, hN, hL⟩ := h
  obtain ⟨v, hv, hh⟩ := hL k hk
  have hlt := hb.lt
  have hc : w.cell? ⟨g, 32 + k, none⟩ = some v := hb.cell_ (32 + k) (by
    rw [List.getElem?_toArray, List.getElem?_append_right (by omega), hvs, Nat.add_sub_cancel_left]; exact hv)
  have i0 : (0 : Int) ≤ (k : Int) := by omega
  have i1 : (k : Int) < 32 := by omega
  clear hN hL hv
  go_enter Try.func18, Try.ntmps18
  go_wp2_with fail
  refine (isLba_yes k _ i0 i1).mono ?_
  rintro e w1 ⟨rfl, rfl⟩
  go_wp2_with fail
  refine (told_ok v (L k) _ hh).mono ?_
  rintro e w1 ⟨rfl, rfl⟩
  go_wp2_with fail
  go_ret
  exact ⟨rfl, rfl⟩
theorem last_no (g : Nat) (i : Int) (w : World) (h : i < 0 ∨ 32 ≤ i) :
    Calls Try.prog 18 #[.pointer (some ⟨g, 0, none⟩), .int .i64 i] w fun e w' => e = .returned (.slice none 0 0) ∧ w = w' := by
  have H := Lib.hid h
  clear h
  go_enter Try.func18, Try.ntmps18
  go_wp2_with fail
  refine (isLba_no i _ H.out).mono ?_
  rintro e w1 ⟨rfl, rfl⟩
  go_wp2_with fail
  go_ret
  exact ⟨rfl, rfl⟩
theorem last_nil (i : Int) (w : World) :
    Calls Try.prog 18 #[.pointer none, .int .i64 i] w fun e w' => e = .returned (.slice none 0 0) ∧ w = w' := by
  go_enter Try.func18, Try.ntmps18
  go_wp2
  go_ret
  exact ⟨rfl, rfl⟩
end Go.Proofs.Ytbmpocalapgmjab
