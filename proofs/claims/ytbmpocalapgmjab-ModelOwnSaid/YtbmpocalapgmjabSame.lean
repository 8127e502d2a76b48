/- The reference's Do at a discard and a flush; Same. -/
import Derived.Test.YtbmpocalapgmjabRDo
namespace Go.Proofs.Ytbmpocalapgmjab
open Go.RowKit
set_option linter.unusedVariables false
theorem rdo_discard (g k : Nat) (A : Option Addr) (n c : Nat) (N L : Nat → List UInt8) (w : World) (h : RI w g N L) (hk : k < 32) :
    Calls Try.prog 17 #[.pointer (some ⟨g, 0, none⟩), .agg #[.int .i64 4, .int .i64 k, .slice A n c]] w fun e w' => e = .returned (.agg #[.int .i64 0, .slice none 0 0]) ∧
      RI w' g (upd N k zeros) L ∧ w.grownBy w' (some g) := by
  have hlt := h.lt
  have ho : okc 4 k n := by unfold okc; omega
  have H := Lib.hid ho
  clear ho
  have i0 : (0 : Int) ≤ (k : Int) := by omega
  have i1 : (k : Int) < 32 := by omega
  go_enter Try.func17, Try.ntmps17
  go_wp2_with fail
  refine (ris_ok 4 k A n c _ H.out).mono ?_
  rintro e w1 ⟨rfl, hb1⟩
  have hs1 := hb1.size
  simp only [World.size_alloc] at hs1
  have k1 : Blk w1 w.heap.size 30 #[.int .i64 4, .int .i64 k, .slice A n c] := ((Blk.new w 30 _).alloc _).below_ hb1
  have r1 : Blk w1 (w.heap.size + 1) 33 #[.int .i64 0, .slice none 0 0] := by
    have := (Blk.new (w.alloc (.cells #[.int .i64 4, .int .i64 k, .slice A n c] 30)) 33 #[.int .i64 0, .slice none 0 0]).below_ hb1
    rwa [World.size_alloc] at this
  have bel1 : Below w.heap.size w w1 := (((Below.refl _ _).alloc (Nat.le_refl _) _).alloc (by simp) _).trans (hb1.mono (by simp only [World.size_alloc]; omega))
  have c0 : w1.cell? ⟨w.heap.size, 0, none⟩ = some (.int .i64 4) := k1.cell_ 0 rfl
  have c1 : w1.cell? ⟨w.heap.size, 1, none⟩ = some (.int .i64 k) := k1.cell_ 1 rfl
  have hm := make32
  have hconv := conv_made zeros (by simp [zeros])
  have h1 := h.below bel1
  have cg := h1.at_ hk
  have cf := Blk.frozen h1 k
  have h3 : RI (w1.setCell ⟨g, k, none⟩ (.string (str zeros))) g (upd N k zeros) L := h1.store hk
  have r3 := r1.far (p := ⟨g, k, none⟩) (by simp; omega) (.string (str zeros))
  have o3 : w.grownBy (w1.setCell ⟨g, k, none⟩ (.string (str zeros))) (some g) := only_setCell (only_of_below bel1 _) (.inl rfl) _
  have H3 := Lib.hid h3; have R3 := Lib.hid r3; have O3 := Lib.hid o3
  have n0 : ¬ (w.heap.size = g) := by omega
  have n1 : g < w1.heap.size := by omega
  have hst : Str zeros = .string (str zeros) := rfl
  have rl0 : w.heap.size < w1.heap.size := by omega
  clear hb1 h h3 r3 o3 h1
  go_wp2_with fail
  go_region
  clear cg cf hconv c0 c1 hst hm
  generalize w1.setCell ⟨g, k, none⟩ (.string (str zeros)) = w3 at H3 R3 O3 ⊢
  have ra : w3.cell? ⟨w.heap.size + 1, 0, none⟩ = some (.int .i64 0) := R3.out.cell_ 0 rfl
  have rb : w3.cell? ⟨w.heap.size + 1, 1, none⟩ = some (.slice none 0 0) := R3.out.cell_ 1 rfl
  have rc := R3.out.frozen 0
  have rd := R3.out.frozen 1
  have rl := R3.out.lt
  go_wp2_with fail
  refine bodyPost_ret (v := .agg #[.int .i64 0, .slice none 0 0]) (by simp [results, Try.results17, go_sem, ra, rb, rl]) rfl ⟨rfl, ?_, ?_⟩
  · have h5 := (H3.out.only (g' := w.heap.size + 1) (only_setCell (only_refl _ _) (.inl rfl) (.int .i64 0)) R3.out (by decide)).only (g' := w.heap.size + 1) (only_setCell (p := ⟨w.heap.size + 1, 1, none⟩) (only_refl _ _) (.inl rfl) (.slice none 0 0)) (R3.out.set_ 0 _) (by decide)
    exact h5.alloc _
  · exact only_drew (only_alloc (only_setCell (only_setCell O3.out (.inr (by simp)) _) (.inr (by simp)) _) _)
theorem rdo_flush (g : Nat) (k i : Int) (A : Option Addr) (n c : Nat) (N L : Nat → List UInt8) (w : World) (h : RI w g N L) (hk : k = 3 ∨ k = 5) :
    Calls Try.prog 17 #[.pointer (some ⟨g, 0, none⟩), .agg #[.int .i64 k, .int .i64 i, .slice A n c]] w fun e w' => e = .returned (.agg #[.int .i64 0, .slice none 0 0]) ∧
      RI w' g N N ∧ w.grownBy w' (some g) := by
  have hlt := h.lt
  have ho : okc k i n := by unfold okc; omega
  have H := Lib.hid ho
  clear ho
  rcases hk with rfl | rfl
  · go_enter Try.func17, Try.ntmps17
    go_wp2_with fail
    refine (ris_ok 3 i A n c _ H.out).mono ?_
    rintro e w1 ⟨rfl, hb1⟩
    have hs1 := hb1.size
    simp only [World.size_alloc] at hs1
    have k1 : Blk w1 w.heap.size 30 #[.int .i64 3, .int .i64 i, .slice A n c] := ((Blk.new w 30 _).alloc _).below_ hb1
    have r1 : Blk w1 (w.heap.size + 1) 33 #[.int .i64 0, .slice none 0 0] := by
      have := (Blk.new (w.alloc (.cells #[.int .i64 3, .int .i64 i, .slice A n c] 30)) 33 #[.int .i64 0, .slice none 0 0]).below_ hb1
      rwa [World.size_alloc] at this
    have bel1 : Below w.heap.size w w1 := (((Below.refl _ _).alloc (Nat.le_refl _) _).alloc (by simp) _).trans (hb1.mono (by simp only [World.size_alloc]; omega))
    have c0 : w1.cell? ⟨w.heap.size, 0, none⟩ = some (.int .i64 3) := k1.cell_ 0 rfl
    have c1 : w1.cell? ⟨w.heap.size, 1, none⟩ = some (.int .i64 i) := k1.cell_ 1 rfl
    have hB2 := h.below bel1
    obtain ⟨vs, hvs⟩ : ∃ vs, vs = (List.range 32).map (fun i => Str (N i)) := ⟨_, rfl⟩
    have hl : vs.length = 32 := by rw [hvs]; simp
    have hr : w1.rangeAt g 0 vs := range_of hB2 (fun j u hj => by rw [hvs] at hj; rw [Nat.zero_add, List.getElem?_append_left (List.getElem?_eq_some_iff.1 hj).1]; exact hj)
    have ht : w1.there g 32 vs.toArray.size := there_of hB2 (by simp [hl])
    have hsz : (Try.prog.info? 42).map (·.size) = some vs.length := by rw [hl]; exact info42
    have hsz' : (Try.prog.info? 42).map (·.size) = some vs.toArray.size := by rw [List.size_toArray]; exact hsz
    have h1 : vs.toArray.all (·.oneCell') = true := all_oneCell_toArray (by intro v hv; rw [hvs] at hv; simp only [List.mem_map] at hv; obtain ⟨i, _, rfl⟩ := hv; rfl)
    have m3 : RI (w1.setCells g 32 vs) g N N := by rw [hvs]; exact hB2.lasts
    have o3 : w.grownBy (w1.setCells g 32 vs) (some g) := only_setCells _ _ _ (only_of_below bel1 _)
    have r3 : Blk (w1.setCells g 32 vs) (w.heap.size + 1) 33 #[.int .i64 0, .slice none 0 0] := r1.grown (only_setCells vs 32 w1 (only_refl _ (some g))) (by simp; omega)
    have hlt1 : g < w1.heap.size := by omega
    have M3 := Lib.hid m3; have O3 := Lib.hid o3; have R3 := Lib.hid r3
    clear hb1 h m3 o3 r3 hB2 hvs hl
    go_wp2_with (first | (with_reducible refine wpList_load_mid rfl 42 _ rfl g 0 rfl vs _ hr Try.underlying42 rfl hsz ?_) | (with_reducible refine wpList_store_mid rfl 42 _ _ rfl g 32 vs.toArray rfl rfl ht hsz' h1 ?_; rw [List.toList_toArray]; clear hr ht hsz hsz' h1; generalize w1.setCells g 32 vs = w3 at M3 O3 R3 ⊢; have ra : w3.cell? ⟨w.heap.size + 1, 0, none⟩ = some (.int .i64 0) := R3.out.cell_ 0 rfl; have rb : w3.cell? ⟨w.heap.size + 1, 1, none⟩ = some (.slice none 0 0) := R3.out.cell_ 1 rfl; have rc := R3.out.frozen 0; have rd := R3.out.frozen 1; have rl := R3.out.lt))
    refine bodyPost_ret (v := .agg #[.int .i64 0, .slice none 0 0]) (by simp [results, Try.results17, go_sem, ra, rb]) rfl ⟨rfl, ?_, ?_⟩
    · exact (M3.out.only (g' := w.heap.size + 1) (only_setCell (only_refl _ _) (.inl rfl) _) R3.out (by decide)).only (g' := w.heap.size + 1) (only_setCell (only_refl _ _) (.inl rfl) _) (R3.out.set_ 0 _) (by decide)
    · exact only_setCell (only_setCell O3.out (.inr (by simp)) _) (.inr (by simp)) _
  · go_enter Try.func17, Try.ntmps17
    go_wp2_with fail
    refine (ris_ok 5 i A n c _ H.out).mono ?_
    rintro e w1 ⟨rfl, hb1⟩
    have hs1 := hb1.size
    simp only [World.size_alloc] at hs1
    have k1 : Blk w1 w.heap.size 30 #[.int .i64 5, .int .i64 i, .slice A n c] := ((Blk.new w 30 _).alloc _).below_ hb1
    have r1 : Blk w1 (w.heap.size + 1) 33 #[.int .i64 0, .slice none 0 0] := by
      have := (Blk.new (w.alloc (.cells #[.int .i64 5, .int .i64 i, .slice A n c] 30)) 33 #[.int .i64 0, .slice none 0 0]).below_ hb1
      rwa [World.size_alloc] at this
    have bel1 : Below w.heap.size w w1 := (((Below.refl _ _).alloc (Nat.le_refl _) _).alloc (by simp) _).trans (hb1.mono (by simp only [World.size_alloc]; omega))
    have c0 : w1.cell? ⟨w.heap.size, 0, none⟩ = some (.int .i64 5) := k1.cell_ 0 rfl
    have c1 : w1.cell? ⟨w.heap.size, 1, none⟩ = some (.int .i64 i) := k1.cell_ 1 rfl
    have hB2 := h.below bel1
    obtain ⟨vs, hvs⟩ : ∃ vs, vs = (List.range 32).map (fun i => Str (N i)) := ⟨_, rfl⟩
    have hl : vs.length = 32 := by rw [hvs]; simp
    have hr : w1.rangeAt g 0 vs := range_of hB2 (fun j u hj => by rw [hvs] at hj; rw [Nat.zero_add, List.getElem?_append_left (List.getElem?_eq_some_iff.1 hj).1]; exact hj)
    have ht : w1.there g 32 vs.toArray.size := there_of hB2 (by simp [hl])
    have hsz : (Try.prog.info? 42).map (·.size) = some vs.length := by rw [hl]; exact info42
    have hsz' : (Try.prog.info? 42).map (·.size) = some vs.toArray.size := by rw [List.size_toArray]; exact hsz
    have h1 : vs.toArray.all (·.oneCell') = true := all_oneCell_toArray (by intro v hv; rw [hvs] at hv; simp only [List.mem_map] at hv; obtain ⟨i, _, rfl⟩ := hv; rfl)
    have m3 : RI (w1.setCells g 32 vs) g N N := by rw [hvs]; exact hB2.lasts
    have o3 : w.grownBy (w1.setCells g 32 vs) (some g) := only_setCells _ _ _ (only_of_below bel1 _)
    have r3 : Blk (w1.setCells g 32 vs) (w.heap.size + 1) 33 #[.int .i64 0, .slice none 0 0] := r1.grown (only_setCells vs 32 w1 (only_refl _ (some g))) (by simp; omega)
    have hlt1 : g < w1.heap.size := by omega
    have M3 := Lib.hid m3; have O3 := Lib.hid o3; have R3 := Lib.hid r3
    clear hb1 h m3 o3 r3 hB2 hvs hl
    go_wp2_with (first | (with_reducible refine wpList_load_mid rfl 42 _ rfl g 0 rfl vs _ hr Try.underlying42 rfl hsz ?_) | (with_reducible refine wpList_store_mid rfl 42 _ _ rfl g 32 vs.toArray rfl rfl ht hsz' h1 ?_; rw [List.toList_toArray]; clear hr ht hsz hsz' h1; generalize w1.setCells g 32 vs = w3 at M3 O3 R3 ⊢; have ra : w3.cell? ⟨w.heap.size + 1, 0, none⟩ = some (.int .i64 0) := R3.out.cell_ 0 rfl; have rb : w3.cell? ⟨w.heap.size + 1, 1, none⟩ = some (.slice none 0 0) := R3.out.cell_ 1 rfl; have rc := R3.out.frozen 0; have rd := R3.out.frozen 1; have rl := R3.out.lt))
    refine bodyPost_ret (v := .agg #[.int .i64 0, .slice none 0 0]) (by simp [results, Try.results17, go_sem, ra, rb]) rfl ⟨rfl, ?_, ?_⟩
    · exact (M3.out.only (g' := w.heap.size + 1) (only_setCell (only_refl _ _) (.inl rfl) _) R3.out (by decide)).only (g' := w.heap.size + 1) (only_setCell (only_refl _ _) (.inl rfl) _) (R3.out.set_ 0 _) (by decide)
    · exact only_setCell (only_setCell O3.out (.inr (by simp)) _) (.inr (by simp)) _
theorem conv_has (w : World) (b c : Nat) (l : List UInt8) (h : Has w (.slice (some ⟨b, 0, none⟩) 32 c) l) : (convert 24 9 (.slice (some ⟨b, 0, none⟩) 32 c)).run Try.prog w = .ok (Str l) w := by
  obtain ⟨hl, h⟩ := h
  rcases h with ⟨h, _⟩ | ⟨b', c', cs, fr, hv, hb, hc⟩
  · injection h with h; cases h
  · injection hv with h1 h2 h3
    injection h1 with h1
    injection h1 with h1
    subst h1; subst h3
    exact conv_data w b 0 c l hl (fun j u hu => by rw [Nat.zero_add, cell_of_row w b j cs 5 fr hb]; exact hc j u hu)
theorem same_data (b c b' c' : Nat) (l : List UInt8) (e : Int) (w : World) (h : Has w (.slice (some ⟨b, 0, none⟩) 32 c) l) (h' : Has w (.slice (some ⟨b', 0, none⟩) 32 c') l) :
    Calls Try.prog 12 #[.agg #[.int .i64 e, .slice (some ⟨b, 0, none⟩) 32 c], .agg #[.int .i64 e, .slice (some ⟨b', 0, none⟩) 32 c']] w fun e w' => e = .returned (.bool true) ∧ Below w.heap.size w w' := by
  have k1 := fun o o' => conv_has _ b c l ((h.alloc o).alloc o')
  have k2 := fun o o' => conv_has _ b' c' l ((h'.alloc o).alloc o')
  have hst : Str l = .string (str l) := rfl
  go_enter Try.func12, Try.ntmps12
  go_wp2_with fail
  go_ret
  exact ⟨rfl, ((Below.refl _ _).alloc (Nat.le_refl _) _).alloc (by simp) _⟩
theorem same_none (e : Int) (w : World) :
    Calls Try.prog 12 #[.agg #[.int .i64 e, .slice none 0 0], .agg #[.int .i64 e, .slice none 0 0]] w fun e w' => e = .returned (.bool true) ∧ Below w.heap.size w w' := by
  have k1 := fun W : World => run_convert_bytes_nil (P := Try.prog) W 24 5 Try.underlying24 Try.underlying5 0 0 9 Try.underlying9
  go_enter Try.func12, Try.ntmps12
  go_wp2_with fail
  go_ret
  exact ⟨rfl, ((Below.refl _ _).alloc (Nat.le_refl _) _).alloc (by simp) _⟩
theorem Has.conv {w : World} {b c : Nat} {l : List UInt8} (h : Has w (.slice (some ⟨b, 0, none⟩) 32 c) l) : (convert 24 9 (.slice (some ⟨b, 0, none⟩) 32 c)).run Try.prog w = .ok (.string (str l)) w := conv_has w b c l h
end Go.Proofs.Ytbmpocalapgmjab
