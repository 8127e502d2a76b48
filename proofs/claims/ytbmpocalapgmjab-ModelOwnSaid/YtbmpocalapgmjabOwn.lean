/- What ModelOwn wants besides: where a written block lies. -/
import Derived.Test.YtbmpocalapgmjabMi
namespace Go.Proofs.Ytbmpocalapgmjab
open Go.RowKit
set_option linter.unusedVariables false
theorem clone_own (A : Option Addr) (c : Nat) (l : List UInt8) (w : World) (h : Data32 w A l) :
    Calls Try.prog 30 #[.slice A 32 c] w fun e w' => ∃ (g' c' : Nat), e = .returned (.slice (some ⟨g', 0, none⟩) 32 c') ∧ Has w' (.slice (some ⟨g', 0, none⟩) 32 c') l ∧ Below w.heap.size w w' ∧ w.heap.size ≤ g' := by
  obtain ⟨hl, b, o, rfl, hlt, hc⟩ := h
  obtain ⟨i0, hi, hz0, hz1, hz2⟩ := info_parts info5
  have hn := fun W => Lib.run_eql_slice_nil (P := Try.prog) W 24 5 (some ⟨b, o, none⟩) 32 c 0 0 Try.underlying24
  have hown : (w.alloc (.cells #[] 5)).ownsRow w.heap.size 5 1 (.slice (some ⟨w.heap.size, 0, none⟩) 0 0) 0 [] := World.ownsRow_lit w #[] 0 (Nat.le_refl _) (by unfold maxLen; omega) rfl
  go_enter Try.func30, Try.ntmps30
  go_wp2_with (at_builtin; refine wpList_append_own _ rfl _ _ 24 rfl w.heap.size 5 i0 (.int .u8 0) 1 1 Try.underlying24 hi hz0 hz1 hz2 rfl (by decide) _ _ _ rfl hown ⟨b, o, none⟩ 32 c (bcells l).toList rfl (by simp [bcells_size, hl]) ?c1 ?c2 (by unfold maxLen; omega) (by omega) (by simp) ?_)
  case c1 =>
    intro j v hj
    have hadd : (⟨b, o, none⟩ : Addr).add j = ⟨b, o + j, none⟩ := by unfold Addr.add; split <;> simp_all
    simp only [bcells, List.toList_toArray, List.getElem?_map, Option.map_eq_some_iff] at hj
    obtain ⟨u, hu, rfl⟩ := hj
    rw [hadd, World.cell?_alloc_lt _ _ _ (by simpa using hlt)]
    exact hc j u hu
  case c2 =>
    intro v hv
    simp only [bcells, List.toList_toArray, List.mem_map] at hv
    obtain ⟨u, _, rfl⟩ := hv
    rfl
  intro v' w1 hown1 hgrow _
  clear hn
  obtain ⟨g, cap, cur, rfl, hbase, hg, ht⟩ : ∃ (g cap : Nat) (cur : Array Value), v' = .slice (some ⟨g, 0, none⟩) 32 cap ∧ w.heap.size ≤ g ∧ w1.heap[g]? = some (.cells cur 5 (0, 0)) ∧ cur.toList.take (32 * 1) = (bcells l).toList := by
    rcases hown1.2 with ⟨_, h0⟩ | ⟨g, cap, cur, hv, hbs, hg, _, _, _, ht⟩
    · omega
    · exact ⟨g, cap, cur, hv, hbs, hg, ht⟩
  have hh : Has w1 (.slice (some ⟨g, 0, none⟩) 32 cap) l := by
    refine ⟨hl, .inr ⟨g, cap, cur, (0, 0), rfl, hg, fun j u hu => ?_⟩⟩
    have hj : j < 32 := by
      have := (List.getElem?_eq_some_iff.1 hu).1
      omega
    have e : (cur.toList.take (32 * 1))[j]? = some (Value.int .u8 (u.toNat : Int)) := by
      rw [ht]
      simp only [bcells, List.toList_toArray, List.getElem?_map, hu, Option.map_some]
    rw [List.getElem?_take, if_pos (by omega)] at e
    simpa using e
  clear ht hg hown1
  go_wp2_with fail
  go_ret
  exact ⟨_, _, rfl, hh, ((Below.refl _ _).alloc (Nat.le_refl _) _).grown hgrow (by simp) (fun k hk => by simp [Value.ownBlock] at hk; omega), hbase⟩
theorem do_write_own (g k : Nat) (A : Option Addr) (c : Nat) (l : List UInt8) (vs us : List Value) (w : World) (h : Blk w g 68 (vs ++ us).toArray) (hvs : vs.length = 32) (hv1 : ∀ v ∈ vs, v.oneCell' = true) (hk : k < 32) (hd : Data32 w A l) :
    Calls Try.prog 10 #[.pointer (some ⟨g, 0, none⟩), .agg #[.int .i64 2, .int .i64 k, .slice A 32 c]] w fun e w' => e = .returned (.agg #[.int .i64 0, .slice none 0 0]) ∧
      ∃ g' c', Blk w' g 68 (vs.set k (.slice (some ⟨g', 0, none⟩) 32 c') ++ us).toArray ∧ Has w' (.slice (some ⟨g', 0, none⟩) 32 c') l ∧ w.heap.size ≤ g' ∧ w.grownBy w' (some g) := by
  have hlt := h.lt
  have ho : okc 2 k 32 := by unfold okc; omega
  have H := Lib.hid ho
  clear ho
  have i0 : (0 : Int) ≤ (k : Int) := by omega
  have i1 : (k : Int) < 32 := by omega
  go_enter Try.func10, Try.ntmps10
  go_wp2_with fail
  refine (is_ok 2 k A 32 c _ H.out).mono ?_
  rintro e w1 ⟨rfl, hb1⟩
  have hs1 := hb1.size
  simp only [World.size_alloc] at hs1
  have k1 : Blk w1 w.heap.size 30 #[.int .i64 2, .int .i64 k, .slice A 32 c] := ((Blk.new w 30 _).alloc _).below_ hb1
  have r1 : Blk w1 (w.heap.size + 1) 27 #[.int .i64 0, .slice none 0 0] := by
    have := (Blk.new (w.alloc (.cells #[.int .i64 2, .int .i64 k, .slice A 32 c] 30)) 27 #[.int .i64 0, .slice none 0 0]).below_ hb1
    rwa [World.size_alloc] at this
  have bel1 : Below w.heap.size w w1 := (((Below.refl _ _).alloc (Nat.le_refl _) _).alloc (by simp) _).trans (hb1.mono (by simp only [World.size_alloc]; omega))
  have m1 := h.below_ bel1
  have d1 : Data32 w1 A l := by
    obtain ⟨hl, b, o, hA, hbl, hc⟩ := hd
    exact ⟨hl, b, o, hA, by omega, fun j u hu => (bel1.cell hbl).trans (hc j u hu)⟩
  have c0 : w1.cell? ⟨w.heap.size, 0, none⟩ = some (.int .i64 2) := k1.cell_ 0 rfl
  have c1 : w1.cell? ⟨w.heap.size, 1, none⟩ = some (.int .i64 k) := k1.cell_ 1 rfl
  have c2 : w1.cell? ⟨w.heap.size, 2, none⟩ = some (.slice A 32 c) := k1.cell_ 2 rfl
  have n1 : ¬ (w.heap.size = g) := by omega
  have hlt1 : g < w1.heap.size := by omega
  clear hb1 hd h
  go_wp2_with fail
  go_region_held3 (fun w' => w'.cell? ⟨w.heap.size, 1, none⟩ = some (.int .i64 k) ∧ w'.cell? ⟨w.heap.size, 2, none⟩ = some (.slice A 32 c))
    (first | exact ⟨c1, c2⟩ | exact ⟨(hb2.cell (by simp; omega)).trans c1, (hb2.cell (by simp; omega)).trans c2⟩ | exact ⟨(cell_far (by omega)).trans ((hb2.cell (by simp; omega)).trans c1), (cell_far (by omega)).trans ((hb2.cell (by simp; omega)).trans c2)⟩)
    (first | (go_at_call 30; refine (clone_own A c l _ d1.drew).mono ?_; rintro e w2 ⟨g', c', rfl, hv2, hb2, hg2⟩; have hB2 := m1.drew.below_ hb2; have hs2 := hB2.lt; have hf2 := hB2.frozen k; have hc2 : w2.cell? ⟨g, k, none⟩ = some (vs[k]'(by omega)) := hB2.cell_ k (by simp [List.getElem?_append_left (by omega : k < vs.length)])))
  have r3 := (r1.drew.below_ hb2).far (p := ⟨g, k, none⟩) (by simp; omega) (.slice (some ⟨g', 0, none⟩) 32 c')
  have m3 := hB2.set_to k (.slice (some ⟨g', 0, none⟩) 32 c') (cs' := (vs.set k (.slice (some ⟨g', 0, none⟩) 32 c') ++ us).toArray) (by rw [List.setIfInBounds_toArray, List.set_append_left _ _ (by omega)])
  have v3 := hv2.setCell hB2 (by decide) k (.slice (some ⟨g', 0, none⟩) 32 c')
  have o3 : w.grownBy (w2.setCell ⟨g, k, none⟩ (.slice (some ⟨g', 0, none⟩) 32 c')) (some g) := only_setCell (only_of_below (bel1.drew.trans (hb2.mono (by simp; omega))) _) (.inl rfl) _
  generalize w2.setCell ⟨g, k, none⟩ (.slice (some ⟨g', 0, none⟩) 32 c') = w3 at r3 m3 o3 v3 ⊢
  clear hb2 hB2 hf2 hc2 c0 c1 c2
  have ra : w3.cell? ⟨w.heap.size + 1, 0, none⟩ = some (.int .i64 0) := r3.cell_ 0 rfl
  have rb : w3.cell? ⟨w.heap.size + 1, 1, none⟩ = some (.slice none 0 0) := r3.cell_ 1 rfl
  have rc := r3.frozen 0
  have rd := r3.frozen 1
  have rl := r3.lt
  go_wp2_with fail
  refine bodyPost_ret (v := .agg #[.int .i64 0, .slice none 0 0]) (by simp [results, Try.results10, go_sem, ra, rb]) rfl ⟨rfl, g', c', ?_, ?_, ?_, ?_⟩
  · exact (m3.far (p := ⟨w.heap.size + 1, 0, none⟩) (by simp; omega) _).far (p := ⟨w.heap.size + 1, 1, none⟩) (by simp; omega) _
  · exact (v3.setCell r3 (by decide) 0 _).setCell (r3.set_ 0 _) (by decide) 1 _
  · simp at hg2; omega
  · exact only_setCell (only_setCell o3 (.inr (by simp)) _) (.inr (by simp)) _
end Go.Proofs.Ytbmpocalapgmjab
