/- The cache: drops; a leaf written into the row. The cache: commit. The cache: puts. The cache: value. -/
import Derived.Test.YtggmdjdflaglpaaGreatM28
namespace Go.Proofs.YtggmdjdflaglpaaGreat
open Go.RowKit Go.Proofs.YtggmdjdflaglpaaGreat.geo
set_option linter.unusedVariables false
theorem lcs_set : ∀ {ls : List Lf} {i : Nat} (l : Lf), i < ls.length → lcs (ls.set i l) = (lcs ls).take (i * 8) ++ (lfc l ++ (lcs ls).drop (i * 8 + 8))
  | [], i, l, h => by simp at h
  | x :: ls, 0, l, h => by
    show lfc l ++ lcs ls = ((lfc x ++ lcs ls).take (0 * 8)) ++ (lfc l ++ (lfc x ++ lcs ls).drop (0 * 8 + 8))
    rw [Nat.zero_mul, List.take_zero, List.nil_append, Nat.zero_add, List.drop_append_of_le_length (by rw [lfc_len]; omega), List.drop_of_length_le (by rw [lfc_len]; omega), List.nil_append]
  | x :: ls, i + 1, l, h => by
    have ih := lcs_set (ls := ls) (i := i) l (by simpa using h)
    show lfc x ++ lcs (ls.set i l) = ((lfc x ++ lcs ls).take ((i + 1) * 8)) ++ (lfc l ++ (lfc x ++ lcs ls).drop ((i + 1) * 8 + 8))
    rw [ih]
    have e1 : (i + 1) * 8 = (lfc x).length + i * 8 := by rw [lfc_len]; omega
    have e2 : (i + 1) * 8 + 8 = (lfc x).length + (i * 8 + 8) := by rw [lfc_len]; omega
    rw [e2, List.drop_length_add_append, e1, List.take_length_add_append, List.append_assoc]
theorem Blk.leaf_set {w : World} {g i : Nat} {ls : List Lf} {r : List Value} (h : Blk w g 103 (lcs ls ++ r).toArray) (hi : i < ls.length) (l : Lf) : Blk (w.setCells g (i * 8) (lfc l)) g 103 (lcs (ls.set i l) ++ r).toArray := by
  have hl := lcs_len ls
  have := r27.Blk.setCells (w := w) (lfc l) (lcs ls ++ r) (i * 8) w h (by rw [lfc_len, List.length_append]; omega)
  rw [lcs_set l hi]
  rw [lfc_len, List.take_append_of_le_length (by omega), List.drop_append_of_le_length (by omega)] at this
  rw [List.append_assoc, List.append_assoc]
  exact this
theorem Blk.leaf_there {w : World} {g i : Nat} {ls : List Lf} {r : List Value} (h : Blk w g 103 (lcs ls ++ r).toArray) (hi : i < ls.length) : w.there g (i * 8) 8 := by
  have hl := lcs_len ls
  exact r27.there_of (cs := lcs ls ++ r) h (by rw [List.length_append]; omega)
theorem lfc_one (l : Lf) : (lfc l).toArray.all (·.oneCell') = true := by
  refine all_oneCell_toArray (fun v hv => ?_)
  simp [lfc] at hv
  rcases hv with rfl | rfl | rfl | rfl | rfl | rfl | rfl | rfl <;> rfl
/-- a leaf is written into the row -/
theorem CchR.set_now {ρ : Rl} {w : World} {a : Ads} {cc m ag : Nat} {C : Cch} (h : CchR ρ w a cc m ag C) (hf : Fresh ρ w) {i : Nat} (hi : i < C.now.length) (l : Lf) :
    ∃ g cap, w.cell? ⟨cc, 2, none⟩ = some (.slice (some ⟨g, 0, none⟩) C.now.length cap) ∧ w.there g (i * 8) 8 ∧ g < w.heap.size ∧ ρ g = rNow ∧
      CchR ρ (w.setCells g (i * 8) (lfc l)) a cc m ag ⟨C.W, C.M, C.now.set i l, C.was, C.age, C.T, C.pois⟩ ∧ Ste (· = rNow) ρ w ρ (w.setCells g (i * 8) (lfc l)) := by
  obtain ⟨vn, vw, h1, h2, h3, h4, ⟨g, cap, rr, rfl, h5, h5'⟩, h6, h7⟩ := h
  have hg : w.grownBy (w.setCells g (i * 8) (lfc l)) (some g) := r27.only_setCells _ _ w (only_refl _ _)
  have hk : ∀ b, b < w.heap.size → ρ b ≠ rNow → (w.setCells g (i * 8) (lfc l)).heap[b]? = w.heap[b]? ∧ ρ b = ρ b := fun b hb e => ⟨hg.block b hb (fun c => e (by injection c with c; rw [c]; exact h5)), rfl⟩
  refine ⟨g, cap, h1.cell_ 2 rfl, h5'.leaf_there hi, h5'.lt, h5, ⟨.slice (some ⟨g, 0, none⟩) C.now.length cap, vw, ?_, h2, ?_, ?_, ?_, ?_, ?_⟩, Ste.of_grown hg h5 hf⟩
  · exact (hk cc h1.lt (by rw [h2]; decide)).1.trans h1
  · exact h3.keep hg.size (fun b hb e => hk b hb (fun c => by rw [c] at e; unfold rsW at e; exact absurd e.2 (by decide)))
  · exact h4.keep (hk m h4.1.lt (by rw [h4.2.1]; decide))
  · exact ⟨g, cap, rr, by rw [List.length_set], h5, h5'.leaf_set hi l⟩
  · exact h6.keepR (fun b hb e => hk b hb (by rw [e]; decide))
  · exact h7.keep (fun b hb e => hk b hb (by rw [e]; decide))
theorem zlfc : (lfc Lf.no).toArray = #[.int .i64 0, .bool false, .int .i64 0, .int .u32 0, .int .u32 0, .int .u64 0, .int .u64 0, .int .u64 0] := rfl
set_option maxHeartbeats 2000000 in
set_option maxRecDepth 100000 in
theorem drops_ok (ρ : Rl) (a : Ads) (cc m ag : Nat) (C : Cch) (i : Nat) (w : World) (hf : Fresh ρ w) (h : CchR ρ w a cc m ag C) (hi : i < C.now.length) (hn : C.now.length ≤ 16) :
    Calls Tryz.prog 158 #[.pointer (some ⟨cc, 0, none⟩), .int .i64 i] w fun e w' => e = .returned (.tuple #[]) ∧ ∃ ρ', CchR ρ' w' a cc m ag (cdrops C i) ∧ Ste rtC ρ w ρ' w' := by
  obtain ⟨g, cap, c2, ht, lg, hrg, hC, hs⟩ := h.set_now hf hi Lf.no
  have hb := h
  obtain ⟨vn, vw, hb, hcc, _⟩ := hb
  have lc := hb.lt
  have hC' := hC
  obtain ⟨vn', vw', hb', _⟩ := hC'
  have c4 := hb'.cell_ 4 rfl
  have lc' := hb'.lt
  have hd := adrop_ok ρ ag C.T (i : Int) C.age _ hs.fresh hC.age
  obtain ⟨n, hn'⟩ : ∃ n, n = C.now.length := ⟨_, rfl⟩
  rw [← hn'] at hi hn c2
  have m0 : (0 : Int) ≤ (i : Int) := by omega
  have m1 : (i : Int) < (n : Int) := by omega
  have sz8 : (Tryz.prog.info? 103).map (·.size) = some (#[.int .i64 0, .bool false, .int .i64 0, .int .u32 0, .int .u32 0, .int .u64 0, .int .u64 0, .int .u64 0] : Array Value).size := sz103
  have hone : (#[.int .i64 0, .bool false, .int .i64 0, .int .u32 0, .int .u32 0, .int .u64 0, .int .u64 0, .int .u64 0] : Array Value).all (·.oneCell') = true := lfc_one Lf.no
  have ht' : w.there g (i * 8) (#[.int .i64 0, .bool false, .int .i64 0, .int .u32 0, .int .u32 0, .int .u64 0, .int .u64 0, .int .u64 0] : Array Value).size := ht
  have H := Lib.hid (And.intro hC hs)
  obtain ⟨W1, hW1⟩ : ∃ W1, W1 = w.setCells g (i * 8) (lfc Lf.no) := ⟨_, rfl⟩
  have hW2 : w.setCells g (i * 8) (#[.int .i64 0, .bool false, .int .i64 0, .int .u32 0, .int .u32 0, .int .u64 0, .int .u64 0, .int .u64 0] : Array Value).toList = W1 := hW1.symm
  rw [← hW1] at H c4 lc' hd
  have HW := Lib.hid hW2
  clear h hC hs hb hb' hn' hW1 hW2
  go_enter Tryz.func158, Tryz.ntmps158
  go_wp2_with ((with_reducible refine wpList_store_mid rfl 103 _ _ rfl g (i * 8) #[.int .i64 0, .bool false, .int .i64 0, .int .u32 0, .int .u32 0, .int .u64 0, .int .u64 0, .int .u64 0] rfl rfl ht' sz8 hone ?_); rw [HW.out])
  refine hd.mono ?_
  rintro e w2 ⟨rfl, ρ2, hA, s2⟩
  have HA := Lib.hid (And.intro hA s2)
  clear hd hA s2 c4 lc' ht ht' hone
  go_wp2_with fail
  go_end0
  obtain ⟨hC, hs⟩ := H.out
  obtain ⟨hA, s2⟩ := HA.out
  exact ⟨rfl, ρ2, hC.put_age hA s2, (hs.mono (fun r e => by rw [e]; unfold rtC; decide)).trans (s2.mono (fun r e => by rw [e]; unfold rtC; decide))⟩
end Go.Proofs.YtggmdjdflaglpaaGreat
namespace Go.Proofs.YtggmdjdflaglpaaGreat
open Go.RowKit Go.Proofs.YtggmdjdflaglpaaGreat.geo
set_option linter.unusedVariables false
theorem s3c {w : World} {cc wl m : Nat} {vn x3 x4 x5 : Value} (b : Blk w cc 107 #[.pointer (some ⟨wl, 0, none⟩), .pointer (some ⟨m, 0, none⟩), vn, x3, x4, x5]) :
    w.cell? ⟨cc, 0, none⟩ = some (.pointer (some ⟨wl, 0, none⟩)) ∧ w.cell? ⟨cc, 1, none⟩ = some (.pointer (some ⟨m, 0, none⟩)) ∧ w.cell? ⟨cc, 2, none⟩ = some vn := ⟨b.cell_ 0 rfl, b.cell_ 1 rfl, b.cell_ 2 rfl⟩
/-- a row of one's own, as a slice of leaves -/
theorem LvsP.of_row {w : World} {B : Nat} {v : Value} {ls : List Lf} (h : w.ownsRow B 103 8 v ls.length (lcs ls)) (h0 : 0 < ls.length) : ∃ g, LvsP (· = g) w v ls ∧ B ≤ g ∧ g < w.heap.size := by
  rcases h.2 with ⟨_, h4⟩ | ⟨r, c, cur, rfl, a2, a3, a4, a5, a6, a7⟩
  · omega
  · refine ⟨r, ⟨r, c, cur.toList.drop (ls.length * 8), rfl, rfl, ?_⟩, a2, (Array.getElem?_eq_some_iff.1 a3).1⟩
    have e : (lcs ls ++ cur.toList.drop (ls.length * 8)).toArray = cur := by
      rw [← a7, List.take_append_drop]
    rw [e]
    exact a3
/-- the row as it was: a new one -/
theorem CchR.put_was {ρ : Rl} {w : World} {a : Ads} {cc m ag : Nat} {C : Cch} {v : Value} {g : Nat} (h : CchR ρ w a cc m ag C) (hf : Fresh ρ w) (hv : LvsP (· = g) w v C.now) (hg : g < w.heap.size) (h0 : ρ g = 0) :
    CchR (ρ.set g rWas) (w.setCell ⟨cc, 3, none⟩ v) a cc m ag ⟨C.W, C.M, C.now, C.now, C.age, C.T, C.pois⟩ := by
  have hz : ∀ b, ρ b ≠ 0 → (ρ.set g rWas) b = ρ b := fun b e => Rl.set_other _ (fun c => e (by rw [c]; exact h0))
  have h' : CchR (ρ.set g rWas) w a cc m ag C := h.keep (Nat.le_refl _) (fun b hb e => ⟨rfl, hz b (by unfold rsC at e; omega)⟩)
  have h'' := h'
  obtain ⟨vn, vw, h1, h2, h3, h4, h5, h6, h7⟩ := h''
  obtain ⟨g', cap, rr, rfl, rfl, hb⟩ := hv
  exact h'.head (only_setCell (only_refl _ _) (.inl rfl) _) (h1.set_to 3 _ rfl) h5 ⟨g', cap, rr, rfl, Rl.set_same _ _ _, hb⟩ h7 rfl rfl
set_option maxHeartbeats 4000000 in
set_option maxRecDepth 100000 in
theorem ccm_ok (HS : SumOk) (HT : ShutOk) (ρ : Rl) (a : Ads) (cc m ag : Nat) (C : Cch) (k t : Nat) (w : World) (hf : Fresh ρ w) (h : CchR ρ w a cc m ag C) (hC : Cok C k t) (hk6 : k ≤ 600000) :
    Calls Tryz.prog 109 #[.pointer (some ⟨cc, 0, none⟩)] w fun e w' => e = .returned (.int .i64 (ccommit C).1) ∧ ∃ ρ', CchR ρ' w' a cc m ag (ccommit C).2 ∧ Ste rtC ρ w ρ' w' := by
  have hcm := fun W' v h1 h2 h3 h4 => cmt_ok HS HT ρ a C.W m C.M v C.now W' h1 h2 h3 (hC.fit.mono hk6) h4 hC.nl hC.okn
  have h' := h
  obtain ⟨vn, vw, hb, hcc, hw, hm, hn, _⟩ := h'
  have hn' : LvsP (fun b => ¬ rtW (ρ b)) w vn C.now := by
    obtain ⟨g, cap, rr, e1, e2, e3⟩ := hn
    exact ⟨g, cap, rr, e1, by show ¬ rtW (ρ g); rw [e2]; unfold rtW; decide, e3⟩
  have hl := hC.n16
  have hcc2 : ccommit C = ((cmt C.W C.M C.now).1, ⟨(cmt C.W C.M C.now).2.1, (cmt C.W C.M C.now).2.2, C.now, if (cmt C.W C.M C.now).1 = 0 then C.now else C.was, C.age, C.T, C.pois⟩) := rfl
  obtain ⟨R, hR⟩ : ∃ R, R = cmt C.W C.M C.now := ⟨_, rfl⟩
  rw [← hR] at hcm hcc2
  obtain ⟨CC, hCC⟩ : ∃ CC, CC = ccommit C := ⟨_, rfl⟩
  rw [← hCC] at hcc2
  rw [← hCC]
  obtain ⟨e0, W0, M0⟩ := R
  simp only at hcm hcc2
  obtain ⟨g, cap, rr, e1, hg1, hg2⟩ := hn
  subst e1
  have hnd : LvsP (fun b => ¬ rtW (ρ b)) w.drew (.slice (some ⟨g, 0, none⟩) C.now.length cap) C.now := hn'
  have hca := hcm w.drew (.slice (some ⟨g, 0, none⟩) C.now.length cap) hf hw.drew (hm.below_ (Below.refl _ _).drew) hnd
  obtain ⟨n, hnn⟩ : ∃ n, n = C.now.length := ⟨_, rfl⟩
  rw [← hnn] at hb hca hl
  have lc := hb.lt
  have H := Lib.hid (And.intro h (And.intro hnn hl))
  have HCC := Lib.hid hcc2
  clear h hw hm hn' hnd hcm hR hcc2 hCC hnn hg1 hg2
  go_enter Tryz.func109, Tryz.ntmps109
  go_wp2_with fail
  have hb0 := hb
  go_region_held3 (fun w' => w'.cell? ⟨cc, 0, none⟩ = some (.pointer (some ⟨a.wl, 0, none⟩)) ∧ w'.cell? ⟨cc, 1, none⟩ = some (.pointer (some ⟨m, 0, none⟩)) ∧ w'.cell? ⟨cc, 2, none⟩ = some (.slice (some ⟨g, 0, none⟩) n cap))
    (first | (with_reducible exact s3c hb0) | (with_reducible exact s3c hb0.drew))
    (first
      | (go_at_call 145; (with_reducible refine hca.mono ?_); rintro e w2 ⟨rfl, ρ2, hW2, hM2, s2⟩; have t2 : Ste rtLog ρ w ρ2 w2 := (Ste.of_below (Below.refl _ _).drew hf).trans s2; replace hb0 := hb.ste t2 (by rw [hcc]; unfold rtLog rtW; decide)))
  clear hca hb
  have hC2 := H.out.1.put_log hW2 hM2 t2
  clear hW2 hM2 s2
  by_cases he : e0 = 0
  · subst he
    have hC2' := hC2
    obtain ⟨vn2, vw2, hb2, hcc2, _, _, hn2, _⟩ := hC2'
    have hcl := lclone_ok (ρ2 · = rNow) vn2 C.now w2 hn2 (by have := H.out.2; omega)
    have hvn : vn2 = .slice (some ⟨g, 0, none⟩) n cap := by
      have q1 := hb2.cell_ 2 rfl
      have q2 := hb0.cell_ 2 rfl
      rw [q1] at q2
      injection q2
    rw [hvn] at hcl
    have c2 := hb0.cell_ 2 rfl
    have lc2 := hb0.lt
    have HX := Lib.hid (And.intro hC2 t2)
    clear hC2 t2 hb2 hn2 hvn
    go_wp2_with fail
    refine hcl.mono ?_
    rintro e w3 ⟨v3, rfl, ho, q3⟩
    obtain ⟨A3, z3, rfl⟩ := row_form ho
    have hb3 := hb0.below_ q3
    have f3 := hb3.frozen 3
    have c3 := hb3.cell_ 3 rfl
    have lc3 := hb3.lt
    have HY := Lib.hid (And.intro ho q3)
    clear hcl c2 lc2 ho q3 hb0 hb3
    go_wp2_with fail
    go_ret
    obtain ⟨hC2, t2⟩ := HX.out
    obtain ⟨ho, q3⟩ := HY.out
    obtain ⟨_, hnn, hl⟩ := H.out
    obtain ⟨g3, hv3, hg3, hgl⟩ := LvsP.of_row ho (by omega)
    have hC3 := hC2.below_ q3
    have hz : ρ2 g3 = 0 := t2.fresh _ hg3
    have hf3 : Fresh ρ2 w3 := fun i hi => t2.fresh i (Nat.le_trans q3.size hi)
    have hs3 : Ste rtC ρ2 w2 (ρ2.set g3 rWas) w3 := (Ste.of_below q3 t2.fresh).label hg3 hgl
    have hcw := hC3.put_was hf3 hv3 hgl hz
    have hq := HCC.out
    rw [if_pos trivial] at hq
    rw [hq]
    refine ⟨rfl, ρ2.set g3 rWas, hcw, ((t2.mono (fun r e => e.c)).trans hs3).trans ?_⟩
    have hne : cc ≠ g3 := fun c => by
      obtain ⟨_, _, _, q, _⟩ := hC3
      rw [c, hz] at q
      exact absurd q (by decide)
    refine Ste.of_grown (g := cc) (only_setCell (only_refl _ _) (.inl rfl) _) ?_ hs3.fresh
    rw [Rl.set_other _ hne]
    obtain ⟨_, _, _, q, _⟩ := hC3
    rw [q]
    unfold rtC
    decide
  · have t1 : (e0 == 0) = false := by simpa using he
    have HX := Lib.hid (And.intro hC2 (And.intro t2 he))
    clear hC2 t2 he
    go_wp2_with fail
    go_ret
    obtain ⟨hC2, t2, he⟩ := HX.out
    have hq := HCC.out
    rw [if_neg he] at hq
    rw [hq]
    exact ⟨rfl, ρ2, hC2, t2.mono (fun r e => e.c)⟩
end Go.Proofs.YtggmdjdflaglpaaGreat
namespace Go.Proofs.YtggmdjdflaglpaaGreat
open Go.RowKit Go.Proofs.YtggmdjdflaglpaaGreat.geo
set_option linter.unusedVariables false
theorem sets8o (w : World) (x o : Nat) (a b c d e f g h : Value) : ((((((((w.setCell ⟨x, o, none⟩ a).setCell ⟨x, o + 1, none⟩ b).setCell ⟨x, o + 2, none⟩ c).setCell ⟨x, o + 3, none⟩ d).setCell ⟨x, o + 4, none⟩ e).setCell ⟨x, o + 5, none⟩ f).setCell ⟨x, o + 6, none⟩ g).setCell ⟨x, o + 7, none⟩ h) = w.setCells x o [a, b, c, d, e, f, g, h] := rfl
theorem there8 {w : World} {g o : Nat} (h : w.there g o 8) : ∃ a b c d e f x y, (w.cell? ⟨g, o, none⟩ = some a ∧ w.cell? ⟨g, o + 1, none⟩ = some b ∧ w.cell? ⟨g, o + 2, none⟩ = some c ∧ w.cell? ⟨g, o + 3, none⟩ = some d ∧ w.cell? ⟨g, o + 4, none⟩ = some e ∧ w.cell? ⟨g, o + 5, none⟩ = some f ∧ w.cell? ⟨g, o + 6, none⟩ = some x ∧ w.cell? ⟨g, o + 7, none⟩ = some y) ∧
    (w.frozen? ⟨g, o, none⟩ = false ∧ w.frozen? ⟨g, o + 1, none⟩ = false ∧ w.frozen? ⟨g, o + 2, none⟩ = false ∧ w.frozen? ⟨g, o + 3, none⟩ = false ∧ w.frozen? ⟨g, o + 4, none⟩ = false ∧ w.frozen? ⟨g, o + 5, none⟩ = false ∧ w.frozen? ⟨g, o + 6, none⟩ = false ∧ w.frozen? ⟨g, o + 7, none⟩ = false) := by
  have k : ∀ j, j < 8 → ∃ v, w.cell? ⟨g, o + j, none⟩ = some v := fun j hj => Option.isSome_iff_exists.1 (h j hj).1
  obtain ⟨a, ha⟩ := k 0 (by omega)
  obtain ⟨b, hb⟩ := k 1 (by omega)
  obtain ⟨c, hc⟩ := k 2 (by omega)
  obtain ⟨d, hd⟩ := k 3 (by omega)
  obtain ⟨e, he⟩ := k 4 (by omega)
  obtain ⟨f, hf⟩ := k 5 (by omega)
  obtain ⟨x, hx⟩ := k 6 (by omega)
  obtain ⟨y, hy⟩ := k 7 (by omega)
  exact ⟨a, b, c, d, e, f, x, y, ⟨ha, hb, hc, hd, he, hf, hx, hy⟩, ⟨(h 0 (by omega)).2, (h 1 (by omega)).2, (h 2 (by omega)).2, (h 3 (by omega)).2, (h 4 (by omega)).2, (h 5 (by omega)).2, (h 6 (by omega)).2, (h 7 (by omega)).2⟩⟩
theorem s2p {w : World} {cc g n c : Nat} {x0 x1 x3 x4 x5 : Value} (b : Blk w cc 107 #[x0, x1, .slice (some ⟨g, 0, none⟩) n c, x3, x4, x5]) : w.cell? ⟨cc, 2, none⟩ = some (.slice (some ⟨g, 0, none⟩) n c) := b.cell_ 2 rfl
set_option maxHeartbeats 8000000 in
set_option maxRecDepth 100000 in
theorem puts_ok (ρ : Rl) (a : Ads) (cc m ag : Nat) (C : Cch) (k t s : Nat) (l : Lf) (w : World) (hf : Fresh ρ w) (h : CchR ρ w a cc m ag C) (hC : Cok C k t) (ht : t ≤ 1000) (hs : s < C.now.length) (hl : l.ok s) (h0 : l.kind ≠ 0) :
    Calls Tryz.prog 119 #[.pointer (some ⟨cc, 0, none⟩), .int .i64 s, lfv l] w fun e w' => e = .returned (.tuple #[]) ∧ ∃ ρ', CchR ρ' w' a cc m ag (cputs C s l) ∧ Ste rtC ρ w ρ' w' := by
  have hn16 := hC.n16
  have hT := hC.T
  have hlba := hl.bd.2.1
  have hsl := fun W' hh => slot_ok ρ a cc m ag l.lba C W' hh hn16.2
  have hold := slotOf_bd C.now l.lba
  obtain ⟨old, ho⟩ : ∃ old, old = slotOf C.now l.lba := ⟨_, rfl⟩
  rw [← ho] at hsl hold
  have hP : cputs C s l = if 0 ≤ old then cdrops (cput1 C s l) old.toNat else cput1 C s l := by rw [ho]; rfl
  have hB : Blk (w.alloc (.cells (lfc l).toArray 103)) w.heap.size 103 (lfc l).toArray := Blk.new w 103 _
  have hbw : Below w.heap.size w (w.alloc (.cells (lfc l).toArray 103)) := (Below.refl _ _).alloc (Nat.le_refl _) _
  have h1 := h.below_ hbw
  obtain ⟨W1, hW1⟩ : ∃ W1, W1 = w.alloc (.cells (lfc l).toArray 103) := ⟨_, rfl⟩
  rw [← hW1] at hB hbw h1
  have hs1 := hsl W1 h1
  obtain ⟨kind, dirty, lba, ⟨ep, sl, ver⟩, ta, tb⟩ := l
  unfold lfv lfc
  unfold lfc at hB hW1
  simp only at hB hW1 hs1 hlba ⊢
  have HW := Lib.hid hW1
  have c2 := hB.cell_ 2 rfl
  have lB := hB.lt
  have H := Lib.hid (And.intro hbw (And.intro h1 (And.intro hB (And.intro hold (And.intro hP (And.intro hC (And.intro hl h0)))))))
  have hf1 : Fresh ρ W1 := fun i hi => hf i (Nat.le_trans hbw.size hi)
  clear h hC hl h0 hsl ho hP hB hbw h1 hW1 hold hT
  go_enter Tryz.func119, Tryz.ntmps119
  go_wp2_with fail
  rw [← HW.out]
  refine hs1.mono ?_
  rintro e w2 ⟨rfl, q2⟩
  clear hs1 c2 lB
  obtain ⟨hbw, h1, hB, hold, hP, hC, hl, h0⟩ := H.out
  have h2 := h1.below_ q2
  have hw2 := hbw.trans (q2.mono hbw.size)
  have hf2 : Fresh ρ w2 := fun i hi => hf i (Nat.le_trans hw2.size hi)
  obtain ⟨g, cap, c2, ht', lg, hrg, hCn, hsn⟩ := h2.set_now hf2 hs ⟨kind, dirty, lba, ⟨ep, sl, ver⟩, ta, tb⟩
  have hB2 := hB.below_ q2
  have hr := hB2.range
  have hne : w.heap.size ≠ g := fun c => by rw [← c, hf _ (Nat.le_refl _)] at hrg; exact absurd hrg (by decide)
  have h2' := h2
  obtain ⟨vn, vw, hb2, _⟩ := h2'
  have lc2 := hb2.lt
  have hvn : vn = .slice (some ⟨g, 0, none⟩) C.now.length cap := by
    have := hb2.cell_ 2 rfl
    rw [c2] at this
    injection this with this
    exact this.symm
  subst hvn
  obtain ⟨n, hn⟩ : ∃ n, n = C.now.length := ⟨_, rfl⟩
  rw [← hn] at hs hn16 c2 hb2
  have m0 : (0 : Int) ≤ (s : Int) := by omega
  have m1 : (s : Int) < (n : Int) := by omega
  have hC3 := hCn
  unfold lfc at hC3 hsn
  simp only at hC3 hsn
  have hf3 : Fresh ρ (w2.setCells g (s * 8) [.int .i64 kind, .bool dirty, .int .i64 lba, .int .u32 ep, .int .u32 sl, .int .u64 ver, .int .u64 ta, .int .u64 tb]) := hsn.fresh
  have hto := atouch_ok ρ ag C.T s C.age _ hf3 hC3.age (by have := hC.T; omega) (by omega)
  obtain ⟨W3, hW3⟩ : ∃ W3, W3 = w2.setCells g (s * 8) [.int .i64 kind, .bool dirty, .int .i64 lba, .int .u32 ep, .int .u32 sl, .int .u64 ver, .int .u64 ta, .int .u64 tb] := ⟨_, rfl⟩
  rw [← hW3] at hC3 hsn hto
  have hC3d := hC3.drew
  have hto := atouch_ok ρ ag C.T s C.age W3.drew hsn.fresh hC3d.age (by have := hC.T; omega) (by omega)
  have hC3d' := hC3d
  obtain ⟨vn3, vw3, hb3, _⟩ := hC3d'
  have c4 := hb3.cell_ 4 rfl
  have lc3 := hb3.lt
  obtain ⟨u0, u1, u2, u3, u4, u5, u6, u7, ⟨t0, t1, t2, t3, t4, t5, t6, t7⟩, p0, p1, p2, p3, p4, p5, p6, p7⟩ := there8 ht'
  have r0 := hB2.cell_ 0 rfl
  have r1 := hB2.cell_ 1 rfl
  have r2 := hB2.cell_ 2 rfl
  have r3 := hB2.cell_ 3 rfl
  have r4 := hB2.cell_ 4 rfl
  have r5 := hB2.cell_ 5 rfl
  have r6 := hB2.cell_ 6 rfl
  have r7 := hB2.cell_ 7 rfl
  have lr := hB2.lt
  have HW3 := Lib.hid hW3
  have HC3 := Lib.hid hC3d
  clear hC3d
  have HH := Lib.hid (And.intro hC3 (And.intro hsn (And.intro hw2 (And.intro hn (And.intro hold (And.intro hP (And.intro hC (And.intro hl h0))))))))
  clear hbw h1 hB hold hP hC hl h0 h2 hw2 hCn hC3 hsn hB2 hr hn q2 hf2 ht' hW3 hf3 hb2 hb3
  go_wp2_with fail
  go_region
  rw [sets8o, ← HW3.out]
  clear t0 t1 t2 t3 t4 t5 t6 t7 p0 p1 p2 p3 p4 p5 p6 p7 r0 r1 r2 r3 r4 r5 r6 r7
  go_wp2_with fail
  refine hto.mono ?_
  rintro e w4 ⟨rfl, ρ4, hA4, s4⟩
  clear hto c4 lc3
  have hC4 := HC3.out.put_age hA4 s4
  obtain ⟨hC3, hsn, hw2, hn, hold, hP, hC, hl, h0⟩ := HH.out
  have st4 : Ste rtC ρ w ρ4 w4 := (((Ste.of_below hw2 hf).trans (hsn.mono (fun r e => by rw [e]; unfold rtC; decide))).trans (Ste.of_below (Below.refl _ _).drew hsn.fresh)).trans (s4.mono (fun r e => by rw [e]; unfold rtC; decide))
  rcases hold with ho | ⟨x, ho, hx, _⟩
  · subst ho
    have HF := Lib.hid (And.intro hC4 (And.intro st4 hP))
    clear hC4 st4 hP hC3 hsn hw2 hn hC hl h0 hA4 s4
    go_wp2_with fail
    go_end0
    obtain ⟨hC4, st4, hP⟩ := HF.out
    rw [if_neg (by decide)] at hP
    rw [hP]
    exact ⟨rfl, ρ4, hC4, st4⟩
  · subst ho
    have hd := drops_ok ρ4 a cc m ag (cput1 C s ⟨kind, dirty, lba, ⟨ep, sl, ver⟩, ta, tb⟩) x w4 s4.fresh hC4 (by show x < (C.now.set s _).length; rw [List.length_set]; exact hx) (by show (C.now.set s _).length ≤ 16; rw [List.length_set]; omega)
    have HF := Lib.hid (And.intro st4 hP)
    have x0 : (0 : Int) ≤ (x : Int) := by omega
    clear hC4 st4 hP hC3 hsn hw2 hn hC hl h0 hA4 s4 hx
    go_wp2_with fail
    refine hd.mono ?_
    rintro e w5 ⟨rfl, ρ5, hC5, s5⟩
    have HG := Lib.hid (And.intro hC5 s5)
    clear hd hC5 s5
    go_wp2_with fail
    go_end0
    obtain ⟨st4, hP⟩ := HF.out
    obtain ⟨hC5, s5⟩ := HG.out
    rw [if_pos (by omega), Int.toNat_natCast] at hP
    rw [hP]
    exact ⟨rfl, ρ5, hC5, st4.trans s5⟩
end Go.Proofs.YtggmdjdflaglpaaGreat
namespace Go.Proofs.YtggmdjdflaglpaaGreat
open Go.RowKit Go.Proofs.YtggmdjdflaglpaaGreat.geo
set_option linter.unusedVariables false
theorem s3v {w : World} {cc wl sa n m : Nat} {x1 x2 x3 x4 x5 y1 y3 y4 y5 y6 : Value} (hn : n = m) (b : Blk w cc 107 #[.pointer (some ⟨wl, 0, none⟩), x1, x2, x3, x4, x5]) (b2 : Blk w wl 70 #[.int .i64 m, y1, .pointer (some ⟨sa, 0, none⟩), y3, y4, y5, y6]) :
    w.cell? ⟨cc, 0, none⟩ = some (.pointer (some ⟨wl, 0, none⟩)) ∧ w.cell? ⟨wl, 2, none⟩ = some (.pointer (some ⟨sa, 0, none⟩)) ∧ w.cell? ⟨wl, 0, none⟩ = some (.int .i64 n) := ⟨b.cell_ 0 rfl, b2.cell_ 2 rfl, by rw [hn]; exact b2.cell_ 0 rfl⟩
theorem s3k {w : World} {cc wl ka g : Nat} {x1 x2 x3 x4 x5 y0 y1 y2 y3 y4 y6 z0 z1 z2 z3 z4 z5 z6 z7 : Value} (b : Blk w cc 107 #[.pointer (some ⟨wl, 0, none⟩), x1, x2, x3, x4, x5]) (b2 : Blk w wl 70 #[y0, y1, y2, y3, y4, .pointer (some ⟨ka, 0, none⟩), y6]) (b3 : Blk w g 103 #[z0, z1, z2, z3, z4, z5, z6, z7]) :
    w.cell? ⟨cc, 0, none⟩ = some (.pointer (some ⟨wl, 0, none⟩)) ∧ w.cell? ⟨wl, 5, none⟩ = some (.pointer (some ⟨ka, 0, none⟩)) ∧ w.cell? ⟨g, 3, none⟩ = some z3 := ⟨b.cell_ 0 rfl, b2.cell_ 5 rfl, b3.cell_ 3 rfl⟩
theorem s3o {w : World} {cc wl la g x : Nat} {x1 x2 x3 x4 x5 y0 y1 y2 y3 y4 y5 z0 z1 z2 z3 z4 z5 z6 z7 k0 k1 : Value} (b : Blk w cc 107 #[.pointer (some ⟨wl, 0, none⟩), x1, x2, x3, x4, x5]) (b2 : Blk w wl 70 #[y0, y1, y2, y3, y4, y5, .pointer (some ⟨la, 0, none⟩)]) (b3 : Blk w g 103 #[z0, z1, z2, z3, z4, z5, z6, z7]) (b4 : Blk w x 101 #[k0, k1]) :
    w.cell? ⟨cc, 0, none⟩ = some (.pointer (some ⟨wl, 0, none⟩)) ∧ w.cell? ⟨wl, 6, none⟩ = some (.pointer (some ⟨la, 0, none⟩)) ∧ w.cell? ⟨x, 0, none⟩ = some k0 ∧ w.cell? ⟨x, 1, none⟩ = some k1 ∧
      w.cell? ⟨g, 2, none⟩ = some z2 ∧ w.cell? ⟨g, 3, none⟩ = some z3 ∧ w.cell? ⟨g, 4, none⟩ = some z4 ∧ w.cell? ⟨g, 5, none⟩ = some z5 ∧ w.cell? ⟨g, 6, none⟩ = some z6 ∧ w.cell? ⟨g, 7, none⟩ = some z7 :=
  ⟨b.cell_ 0 rfl, b2.cell_ 6 rfl, b4.cell_ 0 rfl, b4.cell_ 1 rfl, b3.cell_ 2 rfl, b3.cell_ 3 rfl, b3.cell_ 4 rfl, b3.cell_ 5 rfl, b3.cell_ 6 rfl, b3.cell_ 7 rfl⟩
theorem nought_made (w : World) : HasP (w.heap.size ≤ ·) (w.alloc (.cells (bvals nought).toArray 5)) (.slice (some ⟨w.heap.size, 0, none⟩) 32 32) nought := HasP.made w nought (by simp [nought, maxLen])
theorem wsread_off32 (ρ : Rl) (a : Ads) (W : Wld) (w : World) (o : Nat) (off : Int) (ho : off = (o : Int)) (h : WldR ρ w a W) (hl : o + 32 ≤ W.ssd.lasts.length) (hg : W.pow.gone = true) :
    Calls Tryz.prog 96 #[.pointer (some ⟨a.s, 0, none⟩), .int .i64 off, .int .i64 32] w fun e w' => e = .returned (.tuple #[.slice none 0 0, .bool false]) ∧ w = w' := by
  subst ho
  exact wsread_off ρ a W w o 32 h hl hg
theorem wsread_on32 (ρ : Rl) (a : Ads) (W : Wld) (w : World) (o : Nat) (off : Int) (ho : off = (o : Int)) (h : WldR ρ w a W) (hl : o + 32 ≤ W.ssd.lasts.length) (hc : W.ssd.cnt ≤ 1000000) (hg : W.pow.gone = false) :
    Calls Tryz.prog 96 #[.pointer (some ⟨a.s, 0, none⟩), .int .i64 off, .int .i64 32] w fun e w' => ∃ v, e = .returned (.tuple #[v, .bool true]) ∧ HasP (w.heap.size ≤ ·) w' v (W.sbytes o 32) ∧ Below w.heap.size w w' := by
  subst ho
  exact wsread_on ρ a W w o 32 h (by omega) hl hc hg
def ValP (ρ : Rl) (a : Ads) (cc m ag : Nat) (R : Int × By × Cch) (w : World) (e : Ending) (w' : World) : Prop :=
  ∃ v, e = .returned (.tuple #[v, .int .i64 R.1]) ∧ HasP (ρ · = 0) w' v R.2.1 ∧ CchR ρ w' a cc m ag R.2.2 ∧ Ste rtC ρ w ρ w' ∧ (R.1 = 0 → Below w.heap.size w w')
set_option maxHeartbeats 4000000 in
set_option maxRecDepth 100000 in
theorem value_zero (ρ : Rl) (a : Ads) (cc m ag : Nat) (C : Cch) (i : Nat) (w : World) (hf : Fresh ρ w) (h : CchR ρ w a cc m ag C) (hi : i < C.now.length) (hn : C.now.length ≤ 16) (hk : (C.lf i).kind = 2) :
    Calls Tryz.prog 114 #[.pointer (some ⟨cc, 0, none⟩), .int .i64 i] w (ValP ρ a cc m ag (cval C i) w) := by
  have hR : cval C i = (0, nought, C) := by unfold cval; rw [if_pos hk]
  rw [hR]
  have hl := lf_at C hi
  have h' := h
  obtain ⟨vn, vw, hb, _, _, _, ⟨g, cap, rr, rfl, _, hg⟩, _⟩ := h'
  have hgr := hg.leaf hl
  obtain ⟨l, hle⟩ : ∃ l, l = C.lf i := ⟨_, rfl⟩
  rw [← hle] at hgr hk
  obtain ⟨kind, dirty, lba, ⟨ep, sl, ver⟩, ta, tb⟩ := l
  unfold lfc at hgr
  simp only at hgr hk
  subst hk
  have c2 := hb.cell_ 2 rfl
  have lc := hb.lt
  have lg := hg.lt
  obtain ⟨n, hn'⟩ : ∃ n, n = C.now.length := ⟨_, rfl⟩
  rw [← hn'] at hi hn c2
  have m0 : (0 : Int) ≤ (i : Int) := by omega
  have m1 : (i : Int) < (n : Int) := by omega
  have sz8 : (Tryz.prog.info? 103).map (·.size) = some ([.int .i64 ((2 : Nat) : Int), .bool dirty, .int .i64 lba, .int .u32 ep, .int .u32 sl, .int .u64 ver, .int .u64 ta, .int .u64 tb] : List Value).length := sz103
  have hmk := fun W => r27.make32 W
  have H := Lib.hid h
  have hfr : ∀ b, w.heap.size ≤ b → ρ b = 0 := hf
  clear h hb hg hl hle hR hn'
  go_enter Tryz.func114, Tryz.ntmps114
  go_wp2_with (with_reducible refine wpList_load_mid rfl 103 _ rfl g (i * 8) rfl _ _ hgr Tryz.underlying103 rfl sz8 ?_)
  go_ret2
  have hq : Below w.heap.size w ((w.alloc (.cells #[.int .i64 ((2 : Nat) : Int), .bool dirty, .int .i64 lba, .int .u32 ep, .int .u32 sl, .int .u64 ver, .int .u64 ta, .int .u64 tb] 103)).alloc (.cells (r27.bcells r27.zeros) 5)) := ((Below.refl _ _).alloc (Nat.le_refl _) _).alloc (by simp) _
  have hv := (nought_made (w.alloc (.cells #[.int .i64 ((2 : Nat) : Int), .bool dirty, .int .i64 lba, .int .u32 ep, .int .u32 sl, .int .u64 ver, .int .u64 ta, .int .u64 tb] 103))).weak (q := (ρ · = 0)) (fun b e => hfr b (by rw [World.size_alloc] at e; omega))
  rw [World.size_alloc] at hv
  exact ⟨_, rfl, hv, H.out.below_ hq, Ste.of_below hq hf, fun _ => hq⟩
/-- what is there behind the key's load -/
def Vq (w3 : World) (x : Nat) (ka kb : Int) (W4 : World) : Prop := Below w3.heap.size w3 W4 ∧ Blk W4 x 101 #[.int .u64 ka, .int .u64 kb]
set_option maxHeartbeats 16000000 in
set_option maxRecDepth 100000 in
theorem value_full (HO : OpenOk) (ρ : Rl) (a : Ads) (cc m ag : Nat) (C : Cch) (k t i : Nat) (w : World) (hf : Fresh ρ w) (h : CchR ρ w a cc m ag C) (hC : Cok C k t) (hk6 : k ≤ 600000) (hi : i < C.now.length) (hk : (C.lf i).kind ≠ 2) :
    Calls Tryz.prog 114 #[.pointer (some ⟨cc, 0, none⟩), .int .i64 i] w (ValP ρ a cc m ag (cval C i) w) := by
  have hn16 := hC.n16
  have hV := hC.fit.geo
  have hok := hC.ok i
  have hbd := hok.bd
  have hsz := hC.fit.size
  have hnl := hC.nl
  have hbl := sbytes_len C.W hC.fit (o := i * 32) (n := 32) (by omega)
  have hl := lf_at C hi
  have h' := h
  obtain ⟨vn, vw, hb, _, hw, _, ⟨g, cap, rr, rfl, _, hg⟩, _⟩ := h'
  have hgr := hg.leaf hl
  obtain ⟨l, hle⟩ : ∃ l, l = C.lf i := ⟨_, rfl⟩
  rw [← hle] at hgr hk hok hbd
  have hR : ∀ R : Int × By × Cch, R = cval C i → R = if C.W.pow.gone then ((7 : Int), [], C) else match C.W.vopen l i with | some b => ((0 : Int), b, C) | none => ((3 : Int), [], C.bad) := by
    intro R e
    rw [e, hle]
    unfold cval Cch.vopen
    rw [if_neg (by rw [← hle]; exact hk)]
    rfl
  obtain ⟨R, hRR⟩ : ∃ R, R = cval C i := ⟨_, rfl⟩
  have hR := hR R hRR
  rw [← hRR]
  clear hRR
  unfold Wld.vopen at hR
  obtain ⟨kind, dirty, lba, ⟨ep, sl, ver⟩, ta, tb⟩ := l
  simp only at hgr hk hbd hR
  obtain ⟨hkd, hlba, hno, htg⟩ := hbd
  obtain ⟨ep, rfl⟩ : ∃ e : Nat, ep = (e : Int) := ⟨ep.toNat, by have := hno.1.1; simp at this; omega⟩
  have hep : ep < 4294967296 := by have := hno.1.2; simp at this; omega
  rw [Int.toNat_natCast] at hR
  have hkey := fun W' hh => key_ok ρ a.p a.k C.W.kys ep W' hh hep
  have hkk : ep ∈ C.W.kys.es → C.W.kys.key ep = keyOf C.W.kys.seed ep := fun e => by unfold Kys.key; rw [if_pos e]
  have hku : U2 (C.W.kys.key ep) := by
    unfold Kys.key
    split
    · exact keyOf_u _ _ ⟨by omega, by omega⟩
    · unfold U2 U64; decide
  obtain ⟨K, hK⟩ : ∃ K, K = C.W.kys.key ep := ⟨_, rfl⟩
  rw [← hK] at hkey hkk hku
  obtain ⟨ka, kb⟩ := K
  obtain ⟨D, hD⟩ : ∃ D, D = decide (ep ∈ C.W.kys.es) := ⟨_, rfl⟩
  rw [← hD] at hkey
  obtain ⟨x, hx⟩ : ∃ x : Int, x = (kind : Int) := ⟨_, rfl⟩
  unfold lfc at hgr
  simp only at hgr
  rw [← hx] at hgr
  have hx2 : (x == 2) = false := by rw [hx]; simp; omega
  have c2 := hb.cell_ 2 rfl
  have lc := hb.lt
  have lg := hg.lt
  obtain ⟨n, hn'⟩ : ∃ n, n = C.now.length := ⟨_, rfl⟩
  rw [← hn'] at hi c2 hn16
  have hns : n = C.W.slots := hn'.trans hnl
  rw [← hns] at hV
  have m0 : (0 : Int) ≤ (i : Int) := by omega
  have m1 : (i : Int) < (n : Int) := by omega
  have sz8 : (Tryz.prog.info? 103).map (·.size) = some ([.int .i64 x, .bool dirty, .int .i64 lba, .int .u32 ep, .int .u32 sl, .int .u64 ver, .int .u64 ta, .int .u64 tb] : List Value).length := sz103
  have hdt := fun W' => data_ok (n : Int) (i : Int) W' hV m0 m1
  have H := Lib.hid h
  have HN := Lib.hid (And.intro hns (And.intro hn' (And.intro hnl (And.intro hsz (And.intro hkk (And.intro hku (And.intro hno (And.intro htg (And.intro hD (And.intro hR (And.intro hbl (And.intro hC hlba))))))))))))
  have hfr : ∀ b, w.heap.size ≤ b → ρ b = 0 := hf
  have hnn := Lib.hid hns
  have hofs : i * 32 + 32 ≤ C.W.ssd.lasts.length := by rw [hsz]; omega
  have hcn : C.W.ssd.cnt ≤ 1000000 := Nat.le_trans hC.fit.ssd (by omega)
  have hbw : Below w.heap.size w (w.alloc (.cells #[.int .i64 x, .bool dirty, .int .i64 lba, .int .u32 ep, .int .u32 sl, .int .u64 ver, .int .u64 ta, .int .u64 tb] 103)) := (Below.refl _ _).alloc (Nat.le_refl _) _
  have hLb : Blk (w.alloc (.cells #[.int .i64 x, .bool dirty, .int .i64 lba, .int .u32 ep, .int .u32 sl, .int .u64 ver, .int .u64 ta, .int .u64 tb] 103)) w.heap.size 103 #[.int .i64 x, .bool dirty, .int .i64 lba, .int .u32 ep, .int .u32 sl, .int .u64 ver, .int .u64 ta, .int .u64 tb] := Blk.new w 103 _
  obtain ⟨W1, hW1⟩ : ∃ W1, W1 = w.alloc (.cells #[.int .i64 x, .bool dirty, .int .i64 lba, .int .u32 ep, .int .u32 sl, .int .u64 ver, .int .u64 ta, .int .u64 tb] 103) := ⟨_, rfl⟩
  rw [← hW1] at hbw hLb
  have HW := Lib.hid hW1
  clear h hb hw hg hl hle hR hn' hV hok hkd hno htg hkk hku hD hx hns hnl hsz hbl hC hW1 hlba
  have h1 := H.out.below_ hbw
  obtain ⟨vn1, vw1, hb1, _, hw1, _⟩ := h1
  have hww := hw1.1
  go_enter Tryz.func114, Tryz.ntmps114
  go_wp2_with (with_reducible refine wpList_load_mid rfl 103 _ rfl g (i * 8) rfl _ _ hgr Tryz.underlying103 rfl sz8 ?_)
  rw [← HW.out]
  have e32 : (i : Int) * 32 = ((i * 32 : Nat) : Int) := by omega
  obtain ⟨off, hoff⟩ : ∃ off : Int, off = (i : Int) * 32 := ⟨_, rfl⟩
  rw [← hoff] at hdt
  have HOF := Lib.hid (hoff.trans e32)
  clear e32 hoff
  cases hgn : C.W.pow.gone with
  | true =>
    have hrd := fun W' hh => wsread_off32 ρ a C.W W' (i * 32) off HOF.out hh hofs hgn
    have HG := Lib.hid hgn
    clear hgn
    go_region_held3 (fun w' => w'.cell? ⟨cc, 0, none⟩ = some (.pointer (some ⟨a.wl, 0, none⟩)) ∧ w'.cell? ⟨a.wl, 2, none⟩ = some (.pointer (some ⟨a.s, 0, none⟩)) ∧ w'.cell? ⟨a.wl, 0, none⟩ = some (.int .i64 n))
      (first | (with_reducible exact s3v hnn.out hb1 hww) | (with_reducible exact s3v hnn.out hb1.drew hww.drew))
      (first
        | (go_at_call 150; (with_reducible refine (hdt _).mono ?_); rintro e w2 ⟨rfl, q2⟩; replace hb1 := hb1.drew.below_ q2; replace hww := hww.drew.below_ q2; replace hw1 := hw1.drew.below_ q2; replace hbw := hbw.drew.trans (q2.mono (hbw.drew).size))
        | (go_at_call 96; (with_reducible refine (hrd _ hw1).mono ?_); rintro e w3 ⟨rfl, rfl⟩))
    clear hdt hrd hb1 hww hw1
    go_wp2_with fail
    go_ret2
    obtain ⟨_, _, _, _, _, _, _, _, _, hR, _⟩ := HN.out
    rw [if_pos HG.out] at hR
    rw [hR]
    exact ⟨_, rfl, .inl ⟨rfl, rfl⟩, H.out.below_ hbw, Ste.of_below hbw hf, fun _ => hbw⟩
  | false =>
    have hrd := fun W' hh => wsread_on32 ρ a C.W W' (i * 32) off HOF.out hh hofs hcn hgn
    have HG := Lib.hid hgn
    obtain ⟨sb, hsb⟩ : ∃ sb, sb = C.W.sbytes (i * 32) 32 := ⟨_, rfl⟩
    rw [← hsb] at hrd
    have HSB := Lib.hid hsb
    clear hgn hsb
    go_region_held3 (fun w' => w'.cell? ⟨cc, 0, none⟩ = some (.pointer (some ⟨a.wl, 0, none⟩)) ∧ w'.cell? ⟨a.wl, 2, none⟩ = some (.pointer (some ⟨a.s, 0, none⟩)) ∧ w'.cell? ⟨a.wl, 0, none⟩ = some (.int .i64 n))
      (first | (with_reducible exact s3v hnn.out hb1 hww) | (with_reducible exact s3v hnn.out hb1.drew hww.drew))
      (first
        | (go_at_call 150; (with_reducible refine (hdt _).mono ?_); rintro e w2 ⟨rfl, q2⟩; replace hb1 := hb1.drew.below_ q2; replace hww := hww.drew.below_ q2; replace hw1 := hw1.drew.below_ q2; replace hLb := hLb.drew.below_ q2; replace hbw := hbw.drew.trans (q2.mono (hbw.drew).size))
        | (go_at_call 96; (with_reducible refine (hrd _ hw1).mono ?_); rintro e w3 ⟨v3, rfl, o3, q3⟩; obtain ⟨A3, z3, rfl⟩ := o3.slice; have hz2 := hbw.size; replace hb1 := hb1.below_ q3; replace hww := hww.below_ q3; replace hw1 := hw1.below_ q3; replace hLb := hLb.below_ q3; replace hbw := hbw.trans (q3.mono hbw.size)))
    clear hdt hrd
    have hv3 : HasP (w.heap.size ≤ ·) w3 (.slice A3 sb.length z3) sb := o3.weak (fun b e => Nat.le_trans hz2 e)
    clear o3 q3
    go_wp2_with fail
    have hk3d := hw1.drew.2.2.2.2.2.2.2.2.1
    have hk3a := (hw1.alloc (.cells #[.int .u64 0, .int .u64 0] 101)).drew.2.2.2.2.2.2.2.2.1
    have H3 := Lib.hid (And.intro hw1 (And.intro hLb (And.intro hbw (And.intro hv3 (And.intro hb1 hww)))))
    clear hw1 hbw hv3
    go_region_held3 (fun w' => w'.cell? ⟨cc, 0, none⟩ = some (.pointer (some ⟨a.wl, 0, none⟩)) ∧ w'.cell? ⟨a.wl, 5, none⟩ = some (.pointer (some ⟨a.k, 0, none⟩)) ∧ w'.cell? ⟨w.heap.size, 3, none⟩ = some (.int .u32 ep))
      (first | (with_reducible exact s3k hb1 hww hLb) | (with_reducible exact s3k hb1.drew hww.drew hLb.drew) | (with_reducible exact s3k (hb1.alloc _) (hww.alloc _) (hLb.alloc _)) | (with_reducible exact s3k (hb1.alloc _).drew (hww.alloc _).drew (hLb.alloc _).drew) | (with_reducible exact s3k ((hb1.far (p := ⟨w3.heap.size, 0, none⟩) hx0 _).far (p := ⟨w3.heap.size, 1, none⟩) hx0 _) ((hww.far (p := ⟨w3.heap.size, 0, none⟩) hx1 _).far (p := ⟨w3.heap.size, 1, none⟩) hx1 _) ((hLb.far (p := ⟨w3.heap.size, 0, none⟩) hx2 _).far (p := ⟨w3.heap.size, 1, none⟩) hx2 _)))
      (first
        | (go_at_call 134; (with_reducible refine (hkey w3.drew hk3d).mono ?_); rintro e w4 ⟨rfl, q4⟩; replace hb1 := hb1.drew.below_ q4; replace hww := hww.drew.below_ q4; replace hLb := hLb.drew.below_ q4; have r4 : Below w3.heap.size w3 w4 := (Below.refl _ _).drew.trans q4)
        | (go_at_call 134; (with_reducible refine (hkey (w3.alloc (.cells #[.int .u64 0, .int .u64 0] 101)).drew hk3a).mono ?_); rintro e w4 ⟨rfl, q4⟩; have hx0 : cc ≠ w3.heap.size := Nat.ne_of_lt hb1.lt; have hx1 : a.wl ≠ w3.heap.size := Nat.ne_of_lt hww.lt; have hx2 : w.heap.size ≠ w3.heap.size := Nat.ne_of_lt hLb.lt; replace hb1 := (hb1.alloc _).drew.below_ q4; replace hww := (hww.alloc _).drew.below_ q4; replace hLb := (hLb.alloc _).drew.below_ q4; have r4 : Below w3.heap.size w3 w4 := ((Below.refl _ _).alloc (Nat.le_refl _) (.cells #[.int .u64 0, .int .u64 0] 101)).drew.trans (q4.mono (by simp)); have bX := (Blk.new w3 101 #[.int .u64 0, .int .u64 0]).drew.below_ q4; have x0 := bX.cell_ 0 rfl; have x1 := bX.cell_ 1 rfl; have y0 := bX.frozen 0; have y1 := bX.frozen 1; have yl := bX.lt))
    refine gen_world (F := Vq w3 w4.heap.size ka kb) (by exact ⟨r4.alloc r4.size _, Blk.new w4 101 _⟩) ?_
    obtain ⟨bx, hbx⟩ : ∃ bx, bx = w4.heap.size := ⟨_, rfl⟩
    rw [← hbx]
    clear hbx
    rotate_left 1
    refine gen_world (F := Vq w3 w3.heap.size ka kb) (by exact ⟨below_only r4 (only_set2 w4 w3.heap.size 0 1 _ _) r4.size (Nat.le_refl _), (bX.set_to 0 (.int .u64 ka) (cs' := #[.int .u64 ka, .int .u64 0]) rfl).set_to 1 (.int .u64 kb) rfl⟩) ?_
    obtain ⟨bx, hbx⟩ : ∃ bx, bx = w3.heap.size := ⟨_, rfl⟩
    rw [← hbx]
    clear hbx
    rotate_left 1
    all_goals
      clear hb1 hww hLb hkey r4 hk3d hk3a
      intro W4 hP
      obtain ⟨q5, bX5⟩ := hP
      have hbw5 : Below w.heap.size w W4 := H3.out.2.2.1.trans (q5.mono H3.out.2.2.1.size)
      have hch := H.out.below_ hbw5
      have hlb5 := H3.out.2.1.below_ q5
      have hv5 := H3.out.2.2.2.1.below_ q5
      obtain ⟨_, _, _, _, hkk, hku, hno, htg, hD, hR, hbl, hC, hlba⟩ := HN.out
      rw [HG.out, if_neg (by simp)] at hR
      cases D with
      | false =>
        rw [if_neg (of_decide_eq_false hD.symm)] at hR
        have hch' := hch
        obtain ⟨vn5, vw5, hb5, _⟩ := hch'
        have c5 := hb5.cell_ 5 rfl
        have f5 := hb5.frozen 5
        have l5 := hb5.lt
        have hfin := below_only hbw5 (only_setCell (g := cc) (only_refl W4 _) (p := ⟨cc, 5, none⟩) (.inl rfl) (.bool true)) hbw5.size
        have HF := Lib.hid (And.intro hR (And.intro hch hbw5))
        clear hR hch hb5 hbw5 hlb5 hv5 hkk hku hno htg hD hbl hC hlba bX5 q5 hfin
        go_wp2_with fail
        go_ret2
        obtain ⟨hR, hch, hbw5⟩ := HF.out
        rw [hR]
        refine ⟨_, rfl, .inl ⟨rfl, rfl⟩, hch.poison, (Ste.of_below hbw5 hf).trans (hch.ste_head (fun i hi => hf i (Nat.le_trans hbw5.size hi)) (only_setCell (only_refl _ _) (.inl rfl) _)), fun e => absurd e (by simp)⟩
      | true =>
        rw [if_pos (of_decide_eq_true hD.symm), ← hkk (of_decide_eq_true hD.symm), ← HSB.out] at hR
        have hch' := hch
        obtain ⟨vn5, vw5, hb5, _, hw5, _⟩ := hch'
        have hww5 := hw5.1
        have hhd := fun W' => head_ok lba W' hlba
        have hop := fun W' vh h1 h2 h3 => wopen_ok ρ a C.W W' HO (fun _ => True) (w.heap.size ≤ ·) (ka, kb) ⟨ep, sl, ver⟩ vh (headB lba) (.slice A3 sb.length z3) sb (ta, tb) h1 hku hno htg h2 h3 (by simp [headB, putB_len]) (by rw [HSB.out, hbl]; omega)
        obtain ⟨ans, hans⟩ : ∃ ans, ans = C.W.lk.opens (ka, kb) ⟨ep, sl, ver⟩ (headB lba) sb (ta, tb) := ⟨_, rfl⟩
        rw [← hans] at hop hR
        unfold pv nv at hop
        simp only at hop
        obtain ⟨hd, hhd'⟩ : ∃ hd, hd = headB lba := ⟨_, rfl⟩
        rw [← hhd'] at hop hhd
        have HF := Lib.hid (And.intro hR (And.intro hch (And.intro hbw5 (And.intro hans hhd'))))
        have hw5' := hw5
        clear hR hch hbw5 hkk hku hno htg hD hbl hC hlba q5 hans hhd'
        go_wp2_with fail
        go_region_held3 (fun w' => w'.cell? ⟨cc, 0, none⟩ = some (.pointer (some ⟨a.wl, 0, none⟩)) ∧ w'.cell? ⟨a.wl, 6, none⟩ = some (.pointer (some ⟨a.l, 0, none⟩)) ∧ w'.cell? ⟨bx, 0, none⟩ = some (.int .u64 ka) ∧ w'.cell? ⟨bx, 1, none⟩ = some (.int .u64 kb) ∧
            w'.cell? ⟨w.heap.size, 2, none⟩ = some (.int .i64 lba) ∧ w'.cell? ⟨w.heap.size, 3, none⟩ = some (.int .u32 ep) ∧ w'.cell? ⟨w.heap.size, 4, none⟩ = some (.int .u32 sl) ∧ w'.cell? ⟨w.heap.size, 5, none⟩ = some (.int .u64 ver) ∧ w'.cell? ⟨w.heap.size, 6, none⟩ = some (.int .u64 ta) ∧ w'.cell? ⟨w.heap.size, 7, none⟩ = some (.int .u64 tb))
          (first | (with_reducible exact s3o hb5 hww5 hlb5 bX5) | (with_reducible exact s3o hb5.drew hww5.drew hlb5.drew bX5.drew))
          (first
            | (go_at_call 151; (with_reducible refine (hhd _).mono ?_); rintro e w6 ⟨v6, rfl, o6, q6⟩; replace hb5 := hb5.drew.below_ q6; replace hww5 := hww5.drew.below_ q6; replace hlb5 := hlb5.drew.below_ q6; replace bX5 := bX5.drew.below_ q6; replace hw5' := hw5'.drew.below_ q6; replace hv5 := hv5.drew.below_ q6)
            | (go_at_call 137; (with_reducible refine (hop _ _ hw5' o6.has.any hv5).mono ?_); rintro e w7 ⟨v7, rfl, o7, q7⟩; replace hb5 := hb5.below_ q7; replace hww5 := hww5.below_ q7; replace hlb5 := hlb5.below_ q7; replace bX5 := bX5.below_ q7))
        clear hb5 hww5 hlb5 bX5 hhd hop hw5'
        have hv7 : HasP (ρ · = 0) w7 v7 (ans.getD []) := o7.has.weak (fun b e => hfr b (by have := q6.size; have := HF.out.2.2.1.size; simp at *; omega))
        have hbw7 : Below w.heap.size w w7 := ((HF.out.2.2.1.drew.trans (q6.mono HF.out.2.2.1.drew.size)).trans (q7.mono (by have := q6.size; have := HF.out.2.2.1.size; simp at *; omega)))
        have hch7 := H.out.below_ hbw7
        have hch' := hch7
        obtain ⟨vn7, vw7, hb7, _⟩ := hch'
        have c5 := hb7.cell_ 5 rfl
        have f5 := hb7.frozen 5
        have l5 := hb7.lt
        obtain ⟨hR, hch, hbw5, hans, hhd'⟩ := HF.out
        cases ans with
        | some b =>
          have hR' : R = (0, b, C) := hR
          have HH := Lib.hid (And.intro hR' (And.intro hv7 (And.intro hbw7 hch7)))
          clear hR hR' hv7 hbw7 hch7 hans hhd' hch hbw5 o6 o7 q6 q7 hb7
          go_wp2_with fail
          go_ret2
          obtain ⟨hR, hv7, hbw7, hch7⟩ := HH.out
          rw [hR]
          exact ⟨_, rfl, hv7, hch7, Ste.of_below hbw7 hf, fun _ => hbw7⟩
        | none =>
          have hR' : R = (3, [], C.bad) := hR
          have HH := Lib.hid (And.intro hR' (And.intro hv7 (And.intro hbw7 hch7)))
          clear hR hR' hv7 hbw7 hch7 hans hhd' hch hbw5 o6 o7 q6 q7 hb7
          go_wp2_with fail
          go_ret2
          obtain ⟨hR, hv7, hbw7, hch7⟩ := HH.out
          rw [hR]
          exact ⟨_, rfl, .inl ⟨rfl, rfl⟩, hch7.poison, (Ste.of_below hbw7 hf).trans (hch7.ste_head (fun i hi => hf i (Nat.le_trans hbw7.size hi)) (only_setCell (only_refl _ _) (.inl rfl) _)), fun e => absurd e (by simp)⟩
theorem cvalue_ok (HO : OpenOk) (ρ : Rl) (a : Ads) (cc m ag : Nat) (C : Cch) (k t i : Nat) (w : World) (hf : Fresh ρ w) (h : CchR ρ w a cc m ag C) (hC : Cok C k t) (hk6 : k ≤ 600000) (hi : i < C.now.length) :
    Calls Tryz.prog 114 #[.pointer (some ⟨cc, 0, none⟩), .int .i64 i] w (ValP ρ a cc m ag (cval C i) w) := by
  by_cases e : (C.lf i).kind = 2
  · exact value_zero ρ a cc m ag C i w hf h hi hC.n16.2 e
  · exact value_full HO ρ a cc m ag C k t i w hf h hC hk6 hi e
end Go.Proofs.YtggmdjdflaglpaaGreat
