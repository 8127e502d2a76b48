/- The reference's Do. -/
import Derived.Test.YtbmpocalapgmjabRef2
namespace Go.Proofs.Ytbmpocalapgmjab
open Go.RowKit
set_option linter.unusedVariables false
theorem RI.lt {w : World} {g : Nat} {N L : Nat → List UInt8} (h : RI w g N L) : g < w.heap.size := Blk.lt h
theorem RI.below {w w' : World} {g : Nat} {N L : Nat → List UInt8} (h : RI w g N L) (hb : Below w.heap.size w w') : RI w' g N L := Blk.below_ h hb
theorem RI.only {w w' : World} {g g' t : Nat} {cs : Array Value} {N L : Nat → List UInt8} (h : RI w g N L) (hg : w.grownBy w' (some g')) (hb : Blk w g' t cs) (h44 : t ≠ 44) : RI w' g N L :=
  Blk.grown h hg (fun e => (Blk.ne_ h hb (Ne.symm h44)) (by injection e))
theorem RI.at_ {w : World} {g k : Nat} {N L : Nat → List UInt8} (h : RI w g N L) (hk : k < 32) : w.cell? ⟨g, k, none⟩ = some (Str (N k)) :=
  Blk.cell_ h k (by rw [List.getElem?_toArray, List.getElem?_append_left (by simp; omega)]; simp [hk])
theorem RI.last_ {w : World} {g k : Nat} {N L : Nat → List UInt8} (h : RI w g N L) (hk : k < 32) : w.cell? ⟨g, 32 + k, none⟩ = some (Str (L k)) :=
  Blk.cell_ h (32 + k) (by rw [List.getElem?_toArray, List.getElem?_append_right (by simp)]; simp [hk])
theorem row_set (N : Nat → List UInt8) (k : Nat) (l : List UInt8) (hk : k < 32) : ((List.range 32).map (fun i => Str (N i))).set k (Str l) = (List.range 32).map (fun i => Str (upd N k l i)) := by
  apply List.ext_getElem?
  intro i
  rw [List.getElem?_set]
  by_cases e : k = i
  · subst e
    rw [if_pos rfl, if_pos (by simp; omega)]
    simp [hk, upd]
  · rw [if_neg e]
    simp only [List.getElem?_map]
    by_cases hi : i < 32
    · simp [hi, upd, Ne.symm e]
    · simp [hi]
theorem RI.store {w : World} {g k : Nat} {N L : Nat → List UInt8} {l : List UInt8} (h : RI w g N L) (hk : k < 32) : RI (w.setCell ⟨g, k, none⟩ (Str l)) g (upd N k l) L :=
  Blk.set_to h k _ (by rw [List.setIfInBounds_toArray, List.set_append_left _ _ (by simp; omega), row_set N k l hk])
theorem RI.lasts {w : World} {g : Nat} {N L : Nat → List UInt8} (h : RI w g N L) : RI (w.setCells g 32 ((List.range 32).map (fun i => Str (N i)))) g N N := by
  have hb := Blk.setCells (w := w) ((List.range 32).map (fun i => Str (N i))) ((List.range 32).map (fun i => Str (N i)) ++ (List.range 32).map (fun i => Str (L i))) 32 w h (by simp)
  exact hb
theorem RI.back {w : World} {g : Nat} {N L : Nat → List UInt8} (h : RI w g N L) : RI (w.setCells g 0 ((List.range 32).map (fun i => Str (L i)))) g L L := by
  have hb := Blk.setCells (w := w) ((List.range 32).map (fun i => Str (L i))) ((List.range 32).map (fun i => Str (N i)) ++ (List.range 32).map (fun i => Str (L i))) 0 w h (by simp)
  exact hb
theorem conv_data (w : World) (b o c : Nat) (l : List UInt8) (hl : l.length = 32) (hc : ∀ (j : Nat) (u : UInt8), l[j]? = some u → w.cell? ⟨b, o + j, none⟩ = some (.int .u8 (u.toNat : Int))) :
    (convert 24 9 (.slice (some ⟨b, o, none⟩) 32 c)).run Try.prog w = .ok (Str l) w := by
  have h := run_convert_bytes_back (P := Try.prog) w 24 9 5 ⟨b, o, none⟩ c l Try.underlying24 Try.underlying5 Try.underlying9 (fun j hj => by
    have hadd : (⟨b, o, none⟩ : Addr).add j = ⟨b, o + j, none⟩ := by unfold Addr.add; split <;> simp_all
    rw [hadd]
    exact hc j _ (List.getElem?_eq_getElem hj))
  rw [hl] at h
  exact h
theorem conv_back (l : List UInt8) (hl : l.length = 32) (W : World) : ∃ c C fr, (convert 9 24 (Str l)).run Try.prog W = .ok (.slice (some ⟨W.heap.size, 0, none⟩) 32 c) (W.drew.alloc (.cells C 5 fr)) ∧
    ∀ (j : Nat) (u : UInt8), l[j]? = some u → C[j]? = some (Value.int .u8 (u.toNat : Int)) := by
  have h := run_bytes_of_string (P := Try.prog) W 9 24 5 (str l) Try.underlying9 Try.underlying24 Try.underlying5
  have hs : (str l).size = 32 := by simp [str, ByteArray.size, hl]
  rw [hs] at h
  refine ⟨_, _, _, h, fun j u hu => ?_⟩
  have hj : j < (str l).data.size := by
    have := (List.getElem?_eq_some_iff.1 hu).1
    simpa [str] using this
  rw [bytesRow_at _ _ j hj]
  have hj' : j < l.length := (List.getElem?_eq_some_iff.1 hu).1
  have e : l[j] = u := (List.getElem?_eq_some_iff.1 hu).2
  simp [str, e]
theorem rdo_bad (g : Nat) (k i : Int) (A : Option Addr) (n c : Nat) (w : World) (hb : ¬ okc k i n) :
    Calls Try.prog 17 #[.pointer (some ⟨g, 0, none⟩), .agg #[.int .i64 k, .int .i64 i, .slice A n c]] w fun e w' => e = .returned (.agg #[.int .i64 1, .slice none 0 0]) ∧ Below w.heap.size w w' := by
  have H := Lib.hid hb
  clear hb
  go_enter Try.func17, Try.ntmps17
  go_wp2_with fail
  refine (ris_no k i A n c _ H.out).mono ?_
  rintro e w1 ⟨rfl, hb1⟩
  have hs1 := hb1.size
  simp only [World.size_alloc] at hs1
  have k1 : Blk w1 w.heap.size 30 #[.int .i64 k, .int .i64 i, .slice A n c] := ((Blk.new w 30 _).alloc _).below_ hb1
  have r1 : Blk w1 (w.heap.size + 1) 33 #[.int .i64 0, .slice none 0 0] := by
    have := (Blk.new (w.alloc (.cells #[.int .i64 k, .int .i64 i, .slice A n c] 30)) 33 #[.int .i64 0, .slice none 0 0]).below_ hb1
    rwa [World.size_alloc] at this
  have bel1 : Below w.heap.size w w1 := (((Below.refl _ _).alloc (Nat.le_refl _) _).alloc (by simp) _).trans (hb1.mono (by simp only [World.size_alloc]; omega))
  have c0 : w1.cell? ⟨w.heap.size, 0, none⟩ = some (.int .i64 k) := k1.cell_ 0 rfl
  have c1 : w1.cell? ⟨w.heap.size, 1, none⟩ = some (.int .i64 i) := k1.cell_ 1 rfl
  have c2 : w1.cell? ⟨w.heap.size, 2, none⟩ = some (.slice A n c) := k1.cell_ 2 rfl
  have ra : w1.cell? ⟨w.heap.size + 1, 0, none⟩ = some (.int .i64 0) := r1.cell_ 0 rfl
  have rb : w1.cell? ⟨w.heap.size + 1, 1, none⟩ = some (.slice none 0 0) := r1.cell_ 1 rfl
  have rc := r1.frozen 0
  have rd := r1.frozen 1
  have rl := r1.lt
  clear hb1
  go_wp2_with fail
  exact bodyPost_ret (v := .agg #[.int .i64 1, .slice none 0 0]) (by simp [results, Try.results17, go_sem, ra, rb]) rfl ⟨rfl, (bel1.setCell (by simp) _).setCell (by simp) _⟩
theorem rdo_read (g k : Nat) (A : Option Addr) (n c : Nat) (N L : Nat → List UInt8) (w : World) (h : RI w g N L) (hk : k < 32) (hl : (N k).length = 32) :
    Calls Try.prog 17 #[.pointer (some ⟨g, 0, none⟩), .agg #[.int .i64 1, .int .i64 k, .slice A n c]] w fun e w' => ∃ a c', e = .returned (.agg #[.int .i64 0, .slice (some ⟨a, 0, none⟩) 32 c']) ∧
      Has w' (.slice (some ⟨a, 0, none⟩) 32 c') (N k) ∧ Below w.heap.size w w' := by
  have hlt := h.lt
  have ho : okc 1 k n := by unfold okc; omega
  have H := Lib.hid ho
  clear ho
  have i0 : (0 : Int) ≤ (k : Int) := by omega
  have i1 : (k : Int) < 32 := by omega
  go_enter Try.func17, Try.ntmps17
  go_wp2_with fail
  refine (ris_ok 1 k A n c _ H.out).mono ?_
  rintro e w1 ⟨rfl, hb1⟩
  have hs1 := hb1.size
  simp only [World.size_alloc] at hs1
  have k1 : Blk w1 w.heap.size 30 #[.int .i64 1, .int .i64 k, .slice A n c] := ((Blk.new w 30 _).alloc _).below_ hb1
  have r1 : Blk w1 (w.heap.size + 1) 33 #[.int .i64 0, .slice none 0 0] := by
    have := (Blk.new (w.alloc (.cells #[.int .i64 1, .int .i64 k, .slice A n c] 30)) 33 #[.int .i64 0, .slice none 0 0]).below_ hb1
    rwa [World.size_alloc] at this
  have bel1 : Below w.heap.size w w1 := (((Below.refl _ _).alloc (Nat.le_refl _) _).alloc (by simp) _).trans (hb1.mono (by simp only [World.size_alloc]; omega))
  have c0 : w1.cell? ⟨w.heap.size, 0, none⟩ = some (.int .i64 1) := k1.cell_ 0 rfl
  have c1 : w1.cell? ⟨w.heap.size, 1, none⟩ = some (.int .i64 k) := k1.cell_ 1 rfl
  have c2 : w1.cell? ⟨w.heap.size, 2, none⟩ = some (.slice A n c) := k1.cell_ 2 rfl
  have ra : w1.cell? ⟨w.heap.size + 1, 0, none⟩ = some (.int .i64 0) := r1.cell_ 0 rfl
  have rb : w1.cell? ⟨w.heap.size + 1, 1, none⟩ = some (.slice none 0 0) := r1.cell_ 1 rfl
  have rc := r1.frozen 0
  have rd := r1.frozen 1
  have rl := r1.lt
  have cg : w1.cell? ⟨g, k, none⟩ = some (Str (N k)) := (h.below bel1).at_ hk
  have n0 : ¬ (w.heap.size + 1 = g) := by omega
  have n1 : g < w1.heap.size := by omega
  obtain ⟨c', C, fr, hconv, hC⟩ := conv_back (N k) hl w1.drew
  have hconv' : (convert 9 24 (Str (N k))).run Try.prog w1.drew = .ok (.slice (some ⟨w1.heap.size, 0, none⟩) 32 c') (w1.alloc (.cells C 5 fr)).drew.drew := hconv
  have HC := Lib.hid hC
  clear hb1 h hC hconv
  go_wp2_with fail
  go_region
  go_wp2_with fail
  refine bodyPost_ret (v := .agg #[.int .i64 0, .slice (some ⟨w1.heap.size, 0, none⟩) 32 c']) (by simp [results, Try.results17, go_sem, ra, rb, rl]) rfl ⟨w1.heap.size, c', rfl, ?_, ?_⟩
  · refine ⟨hl, .inr ⟨_, _, C, fr, rfl, ?_, HC.out⟩⟩
    have hn := heap_alloc_new ((w1.setCell ⟨w.heap.size + 1, 0, none⟩ (.int .i64 0)).setCell ⟨w.heap.size + 1, 1, none⟩ (.slice (some ⟨w1.heap.size, 0, none⟩) 32 c')) (.cells C 5 fr)
    simp only [World.size_setCell] at hn
    exact hn
  · exact ((((bel1.setCell (by simp) _).setCell (by simp) _).alloc (by simp; omega) _).drew).drew
theorem rdo_write (g k : Nat) (A : Option Addr) (c : Nat) (l : List UInt8) (N L : Nat → List UInt8) (w : World) (h : RI w g N L) (hk : k < 32) (hd : Data32 w A l) :
    Calls Try.prog 17 #[.pointer (some ⟨g, 0, none⟩), .agg #[.int .i64 2, .int .i64 k, .slice A 32 c]] w fun e w' => e = .returned (.agg #[.int .i64 0, .slice none 0 0]) ∧
      RI w' g (upd N k l) L ∧ w.grownBy w' (some g) := by
  have hlt := h.lt
  have ho : okc 2 k 32 := by unfold okc; omega
  have H := Lib.hid ho
  clear ho
  have i0 : (0 : Int) ≤ (k : Int) := by omega
  have i1 : (k : Int) < 32 := by omega
  obtain ⟨hl, b, o, rfl, hbl, hc⟩ := hd
  go_enter Try.func17, Try.ntmps17
  go_wp2_with fail
  refine (ris_ok 2 k _ 32 c _ H.out).mono ?_
  rintro e w1 ⟨rfl, hb1⟩
  have hs1 := hb1.size
  simp only [World.size_alloc] at hs1
  have k1 : Blk w1 w.heap.size 30 #[.int .i64 2, .int .i64 k, .slice (some ⟨b, o, none⟩) 32 c] := ((Blk.new w 30 _).alloc _).below_ hb1
  have r1 : Blk w1 (w.heap.size + 1) 33 #[.int .i64 0, .slice none 0 0] := by
    have := (Blk.new (w.alloc (.cells #[.int .i64 2, .int .i64 k, .slice (some ⟨b, o, none⟩) 32 c] 30)) 33 #[.int .i64 0, .slice none 0 0]).below_ hb1
    rwa [World.size_alloc] at this
  have bel1 : Below w.heap.size w w1 := (((Below.refl _ _).alloc (Nat.le_refl _) _).alloc (by simp) _).trans (hb1.mono (by simp only [World.size_alloc]; omega))
  have c0 : w1.cell? ⟨w.heap.size, 0, none⟩ = some (.int .i64 2) := k1.cell_ 0 rfl
  have c1 : w1.cell? ⟨w.heap.size, 1, none⟩ = some (.int .i64 k) := k1.cell_ 1 rfl
  have c2 : w1.cell? ⟨w.heap.size, 2, none⟩ = some (.slice (some ⟨b, o, none⟩) 32 c) := k1.cell_ 2 rfl
  have ra : w1.cell? ⟨w.heap.size + 1, 0, none⟩ = some (.int .i64 0) := r1.cell_ 0 rfl
  have rb : w1.cell? ⟨w.heap.size + 1, 1, none⟩ = some (.slice none 0 0) := r1.cell_ 1 rfl
  have rc := r1.frozen 0
  have rd := r1.frozen 1
  have rl := r1.lt
  have hconv := conv_data w1.drew b o c l hl (fun j u hu => (bel1.drew.cell hbl).trans (hc j u hu))
  have h1 := h.below bel1
  have cg := h1.at_ hk
  have cf := Blk.frozen h1 k
  have h3 : RI (w1.setCell ⟨g, k, none⟩ (.string (str l))) g (upd N k l) L := h1.store hk
  have r3 := r1.far (p := ⟨g, k, none⟩) (by simp; omega) (.string (str l))
  have o3 : w.grownBy (w1.setCell ⟨g, k, none⟩ (.string (str l))) (some g) := only_setCell (only_of_below bel1 _) (.inl rfl) _
  have H3 := Lib.hid h3; have R3 := Lib.hid r3; have O3 := Lib.hid o3
  have n0 : ¬ (w.heap.size = g) := by omega
  have n1 : g < w1.heap.size := by omega
  have hst : Str l = .string (str l) := rfl
  clear hb1 h hc h3 r3 o3 h1 ra rb rc rd rl
  go_wp2_with fail
  go_region
  clear cg cf hconv c0 c1 c2 hst
  generalize w1.setCell ⟨g, k, none⟩ (.string (str l)) = w3 at H3 R3 O3 ⊢
  have ra : w3.cell? ⟨w.heap.size + 1, 0, none⟩ = some (.int .i64 0) := R3.out.cell_ 0 rfl
  have rb : w3.cell? ⟨w.heap.size + 1, 1, none⟩ = some (.slice none 0 0) := R3.out.cell_ 1 rfl
  have rc := R3.out.frozen 0
  have rd := R3.out.frozen 1
  have rl := R3.out.lt
  go_wp2_with fail
  refine bodyPost_ret (v := .agg #[.int .i64 0, .slice none 0 0]) (by simp [results, Try.results17, go_sem, ra, rb]) rfl ⟨rfl, ?_, ?_⟩
  · exact (H3.out.only (g' := w.heap.size + 1) (only_setCell (only_refl _ _) (.inl rfl) _) R3.out (by decide)).only (g' := w.heap.size + 1) (only_drew (only_setCell (only_refl _ _) (.inl rfl) _)) (R3.out.set_ 0 _) (by decide)
  · exact only_drew (only_setCell (only_setCell O3.out (.inr (by simp)) _) (.inr (by simp)) _)
end Go.Proofs.Ytbmpocalapgmjab
