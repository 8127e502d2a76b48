/- A new box: what it holds; a write and a read of it (no walk). play.Box.call. play.Box.Do: a call; a disk that refuses. lockboxtop: call, block. -/
import Derived.Test.YtggmdjdflaglpaaGreatM34
import Derived.Test.YtggmdjdflaglpaaGreatM35
namespace Go.Proofs.YtggmdjdflaglpaaGreat
open Go.RowKit Go.Proofs.YtggmdjdflaglpaaGreat.geo
open Go.Proofs.YtggmdjdflaglpaaGreat.r27 (okc upd)
set_option linter.unusedVariables false
theorem newC_lf (n seed : Nat) (i : Bool) (j : Nat) : (newC n seed i).lf j = Lf.no := by
  show (newC n seed i).now.getD j Lf.no = _
  rw [(newC_same n seed i).1, List.getD_eq_getElem?_getD, List.getElem?_replicate]
  split <;> rfl
theorem newC_was (n seed : Nat) (i : Bool) : (newC n seed i).was = List.replicate n Lf.no :=
  (ctouchs_now ⟨(newW n seed i).bot, ⟨(newW n seed i).bot.cnt.boots, 0⟩, List.replicate n Lf.no, List.replicate n Lf.no, [], 0, false⟩ (List.replicate n Lf.no).length).2.1
theorem newC_inv (n seed : Nat) (i : Bool) : Inv (newC n seed i) (fun _ => nought) := by
  have hl := newC_lf n seed i
  have hs := newC_same n seed i
  refine ⟨fun s h => ?_, fun s h => rfl, fun s s' h => ?_, fun x hx _ => ?_, fun x hx => by simp [nought], ?_, hs.2.2.2⟩
  · rw [hl] at h; exact absurd h (by decide)
  · rw [hl] at h; exact absurd rfl h
  · rw [hs.2.1, newW_bot]; rfl
  · rw [hs.2.1, newW_bot]; exact ⟨rfl, rfl⟩
theorem newC_free (n seed : Nat) (i : Bool) (hn : 0 < n) : 0 ≤ free (newC n seed i) := by
  refine free_yes (i := 0) ?_ (by rw [newC_lf]; rfl) ?_
  · rw [(newC_same n seed i).1, List.length_replicate]; exact hn
  · rw [newC_was, List.getD_eq_getElem?_getD, List.getElem?_replicate, if_pos hn]; rfl
/-- the first write is well -/
theorem newC_write (n seed : Nat) (i : Bool) (hV : V n) {x : Nat} (hx : x < 32) {data : By} (hd : data.length = 32) :
    (cdo (newC n seed i) 2 x data).1 = 0 ∧ Inv (cdo (newC n seed i) 2 x data).2.2 (upd (fun _ => nought) x data) := by
  have hi := newC_inv n seed i
  have hC := (newC_cin n seed i hV).cok
  have hok : okc 2 (x : Int) data.length := .inr (.inl ⟨rfl, ⟨by omega, by omega⟩, hd⟩)
  have hn : 0 < n := by unfold V at hV; omega
  have hf := newC_free n seed i hn
  have hm : (newC n seed i).M.n = 0 := by rw [(newC_same n seed i).2.2.1]
  have e0 : (cdo (newC n seed i) 2 x data).1 = (cwrite (newC n seed i) x data).1 := by
    unfold cdo
    rw [if_neg (by rw [hi.on.1]; simp), if_neg (by rw [hi.pois]; simp), if_neg (not_not_intro hok), if_neg (by decide), if_pos rfl, Int.toNat_natCast]
  have hr : croom (newC n seed i) = (0, newC n seed i) := by unfold croom; rw [if_pos hf]
  have e1 : (cwrite (newC n seed i) x data).1 = 0 := by
    unfold cwrite
    rw [hr, if_neg (by simp)]
    simp only
    have hc : (clay (newC n seed i) (free (newC n seed i)).toNat x data true).1 = 0 := by
      rcases clay_err (newC n seed i) (free (newC n seed i)).toNat x data true with ⟨e, _⟩ | ⟨_, _, e⟩ | ⟨_, _, _, e⟩
      · exact e
      · rw [hm] at e; cases e
      · rw [hi.on.spend.1] at e; cases e
    rw [if_neg (by rw [hc]; simp)]
  rcases hi.do_ hC (by omega) hok with ⟨h1, h2, h3⟩ | ⟨h1, _⟩
  · refine ⟨h1, ?_⟩
    have : bnext (fun _ => nought) 2 (x : Int) data = upd (fun _ => nought) x data := by unfold bnext; rw [if_pos rfl, Int.toNat_natCast]
    rw [← this]; exact h3
  · rw [e0, e1] at h1
    rcases h1 with h1 | h1 <;> cases h1
/-- a read is well, and says what is there -/
theorem Inv.do_read {C : Cch} {B : Nat → By} {k t : Nat} (h : Inv C B) (hC : Cok C k t) {x : Nat} (hx : x < 32) (data : By) : (cdo C 1 x data).1 = 0 ∧ (cdo C 1 x data).2.1 = B x := by
  have hok : okc 1 (x : Int) data.length := .inl ⟨.inl rfl, by omega, by omega⟩
  have e : cdo C 1 x data = cread C x := by
    unfold cdo
    rw [if_neg (by rw [h.on.1]; simp), if_neg (by rw [h.pois]; simp), if_neg (not_not_intro hok), if_pos rfl, Int.toNat_natCast]
  rw [e]
  exact ⟨(h.read hC hx).1, (h.read hC hx).2.1⟩
end Go.Proofs.YtggmdjdflaglpaaGreat
namespace Go.Proofs.YtggmdjdflaglpaaGreat
open Go.RowKit Go.Proofs.YtggmdjdflaglpaaGreat.geo
set_option linter.unusedVariables false
theorem BoxR.keep {ρ ρ' : Rl} {w w' : World} {bx : Nat} {a : Ads} {cc m ag : Nat} {sv : Value} {C : Cch} (h : BoxR ρ w bx a cc m ag sv C) (hs : w.heap.size ≤ w'.heap.size) (hk : ∀ b, b < w.heap.size → ρ b ≠ 0 → w'.heap[b]? = w.heap[b]? ∧ ρ' b = ρ b) : BoxR ρ' w' bx a cc m ag sv C := by
  have k := hk bx h.1.lt (by rw [h.2.1]; decide)
  exact ⟨k.1.trans h.1, k.2.trans h.2.1, h.2.2.keep hs (fun b hb e => hk b hb (by unfold rsC at e; omega))⟩
theorem BoxR.put {ρ ρ' : Rl} {w w' : World} {bx : Nat} {a : Ads} {cc m ag ag' : Nat} {sv : Value} {C C' : Cch} (h : BoxR ρ w bx a cc m ag sv C) (hC : CchR ρ' w' a cc m ag' C') (hs : Ste rtC ρ w ρ' w') : BoxR ρ' w' bx a cc m ag' sv C' :=
  ⟨(hs.ch.keep bx h.1.lt (by rw [h.2.1]; unfold rtC; decide)).trans h.1, (hs.old bx h.1.lt).trans h.2.1, hC⟩
/-- what is told of an act: the error, the bytes, the box -/
def TolB (ρ : Rl) (bx : Nat) (a : Ads) (cc m : Nat) (sv : Value) (er : Int) (b : By) (C : Cch) (w : World) (e : Ending) (w' : World) : Prop :=
  ∃ v, e = .returned (.agg #[.int .i64 er, v]) ∧ ∃ ρ' ag', HasP (ρ' · = 0) w' v b ∧ BoxR ρ' w' bx a cc m ag' sv C ∧ Ste rtC ρ w ρ' w'
theorem bend {ρ ρ' : Rl} {w w' : World} {a : Ads} {bx cc m ag g : Nat} {sv : Value} {C : Cch} {x y v : Value} {b : By} (hB : Blk w' g 38 #[x, y]) (hz : ρ' g = rTmp) (hg : w.heap.size ≤ g) (hC : BoxR ρ' w' bx a cc m ag sv C) (hs : Ste rtC ρ w ρ' w') (hv : HasP (ρ' · = 0) w' v b) (er : Int) :
    TolB ρ bx a cc m sv er b C w (.returned (.agg [.int .i64 er, v].toArray)) ((w'.setCell ⟨g, 0, none⟩ (.int .i64 er)).setCell ⟨g, 1, none⟩ v) ∧ Blk ((w'.setCell ⟨g, 0, none⟩ (.int .i64 er)).setCell ⟨g, 1, none⟩ v) g 38 [.int .i64 er, v].toArray := by
  obtain ⟨h1, h2, h3, h4⟩ := tend hB hz hg hC.2.2 hs (.int .i64 er) v
  refine ⟨⟨_, rfl, ρ', ag, hv.keep h4.size (fun i hi e => h4.block i hi (fun c => by injection c with c; rw [c, hz] at e; exact absurd e (by decide))), ⟨(h4.block bx hC.1.lt (fun c => by injection c with c; have := hC.2.1; rw [c, hz] at this; exact absurd this (by decide))).trans hC.1, hC.2.1, h2⟩, h3⟩, h1⟩
theorem s4b {w : World} {bx g : Nat} {x0 x1 x2 y0 y1 y2 : Value} (b : Blk w bx 59 #[x0, x1, x2]) (b2 : Blk w g 34 #[y0, y1, y2]) : w.cell? ⟨bx, 1, none⟩ = some x1 ∧ w.cell? ⟨g, 0, none⟩ = some y0 ∧ w.cell? ⟨g, 1, none⟩ = some y1 ∧ w.cell? ⟨g, 2, none⟩ = some y2 := ⟨b.cell_ 1 rfl, b2.cell_ 0 rfl, b2.cell_ 1 rfl, b2.cell_ 2 rfl⟩
set_option maxHeartbeats 4000000 in
set_option maxRecDepth 100000 in
theorem bcall_ok (HO : OpenOk) (HS : SumOk) (HT : ShutOk) (ρ : Rl) (bx : Nat) (a : Ads) (cc m ag : Nat) (sv : Value) (C : Cch) (k t : Nat) (kd l : Int) (data : By) (vd : Value) (w : World) (hf : Fresh ρ w) (h : BoxR ρ w bx a cc m ag sv C) (hC : Cin C k t) (hk6 : k ≤ 300000) (ht : t ≤ 900) (hv : HasD (fun b => ¬ rtC (ρ b)) w vd data) :
    Calls Tryz.prog 17 #[.pointer (some ⟨bx, 0, none⟩), .agg #[.int .i64 kd, .int .i64 l, vd]] w (TolB ρ bx a cc m sv (cdo C kd l data).1 (cdo C kd l data).2.1 (cdo C kd l data).2.2 w) := by
  have hvv := hv
  obtain ⟨Av, c, rfl⟩ := hv.slice
  obtain ⟨q1, b1, b2⟩ := boxes w kd l (.slice Av data.length c)
  obtain ⟨W1, hW1⟩ : ∃ W1, W1 = (w.alloc (.cells #[.int .i64 kd, .int .i64 l, .slice Av data.length c] 34)).alloc (.cells #[.int .i64 0, .slice none 0 0] 38) := ⟨_, rfl⟩
  rw [← hW1] at q1 b1 b2
  have b2l := b2.lt
  obtain ⟨ρ1, hρ1⟩ : ∃ ρ1, ρ1 = ρ.set (w.heap.size + 1) rTmp := ⟨_, rfl⟩
  have st1 : Ste rtC ρ w ρ1 W1 := by rw [hρ1]; exact (Ste.of_below q1 hf).label (by omega) b2l
  have hz : ρ1 (w.heap.size + 1) = rTmp := by rw [hρ1]; exact Rl.set_same _ _ _
  have h1 : BoxR ρ1 W1 bx a cc m ag sv C := h.keep q1.size (fun b hb e => ⟨q1.block b hb, by rw [hρ1]; exact Rl.set_other _ (by omega)⟩)
  have hv1 : HasD (fun b => ¬ rtC (ρ1 b)) W1 (.slice Av data.length c) data := (hvv.below_ q1).weakB (fun b hb e => by
    rw [hρ1]
    by_cases hb2 : b = w.heap.size + 1
    · rw [hb2, Rl.set_same]; unfold rtC; decide
    · rw [Rl.set_other _ hb2]; exact e)
  have hcd := fun W (hq : Below W1.heap.size W1 W) => cdo_ok HO HS HT ρ1 a cc m ag C k t kd l data (.slice Av data.length c) W (fun i hi => st1.fresh i (Nat.le_trans hq.size hi)) (h1.2.2.below_ hq) hC.cok hk6 ht hC.tw (hv1.below_ hq)
  obtain ⟨R, hR⟩ : ∃ R, R = cdo C kd l data := ⟨_, rfl⟩
  rw [← hR] at hcd ⊢
  obtain ⟨er, bb, C'⟩ := R
  simp only at hcd ⊢
  have b0 := h1.1
  have b00 := h.1
  have k0 := b00.cell_ 1 rfl
  have lk0 := b00.lt
  have c0 := b0.cell_ 1 rfl
  have lc := b0.lt
  have d0 := b1.cell_ 0 rfl
  have d1 := b1.cell_ 1 rfl
  have d2 := b1.cell_ 2 rfl
  have ld := b1.lt
  have hb0 : bx ≠ w.heap.size + 1 := by omega
  have hb1 : w.heap.size ≠ w.heap.size + 1 := by omega
  have r0 : ¬ rtC (ρ1 bx) := by rw [h1.2.1]; unfold rtC; decide
  have r1 : ¬ rtC (ρ1 w.heap.size) := by rw [hρ1, Rl.set_other _ hb1, hf _ (Nat.le_refl _)]; exact rtC0
  have r2 : ¬ rtC (ρ1 (w.heap.size + 1)) := by rw [hz]; unfold rtC; decide
  have HW := Lib.hid hW1
  have H := Lib.hid (And.intro hz (And.intro h1 st1))
  have b2g := b2
  have HC := Lib.hid hcd
  have HR := Lib.hid (And.intro r0 (And.intro r1 r2))
  clear h h1 hW1 hρ1 st1 hz hR hC hk6 ht hvv hv1 hv q1 hcd b00 b2 r0 r1 r2
  go_enter Tryz.func17, Tryz.ntmps17
  go_wp2_with fail
  rw [← HW.out]
  go_region_held3 (fun w' => w'.cell? ⟨bx, 1, none⟩ = some (.pointer (some ⟨cc, 0, none⟩)) ∧ w'.cell? ⟨w.heap.size, 0, none⟩ = some (.int .i64 kd) ∧ w'.cell? ⟨w.heap.size, 1, none⟩ = some (.int .i64 l) ∧ w'.cell? ⟨w.heap.size, 2, none⟩ = some (.slice Av data.length c))
    (first | (with_reducible exact s4b b0 b1) | (with_reducible exact s4b b0.drew b1.drew) | (with_reducible exact s4b ((b0.far hb0 _).far hb0 _) ((b1.far hb1 _).far hb1 _)))
    (first
      | (go_at_call 44; (with_reducible refine (HC.out W1.drew ((Below.refl _ _).drew)).mono ?_); rintro e w2 ⟨v, rfl, ρ2, ag2, hv2, h2, s2⟩; obtain ⟨A5, z5, rfl⟩ := hv2.slice; obtain ⟨nb, hnb⟩ : ∃ nb, nb = bb.length := ⟨_, rfl⟩; rw [← hnb] at hv2 ⊢; have HNB := Lib.hid hnb; clear hnb;
          obtain ⟨r0, r1, r2⟩ := HR.out; replace b0 := Blk.ste b0.drew s2 r0; replace b1 := Blk.ste b1.drew s2 r1; replace b2g := Blk.ste b2g.drew s2 r2; have e0 := b2g.cell_ 0 rfl; have e1 := b2g.cell_ 1 rfl; have f0 := b2g.frozen 0; have f1 := b2g.frozen 1; have le2 := b2g.lt; have b2h := b2g.set_to 0 (.int .i64 er) (cs' := #[.int .i64 er, .slice none 0 0]) rfl; have e2 := b2h.cell_ 1 rfl; have f2 := b2h.frozen 1; have le3 := b2h.lt;
          have HE := Lib.hid (And.intro hv2 (And.intro h2 s2)); clear hv2 h2 s2 r0 r1 r2)
      | fail)
  go_wp2_with fail
  obtain ⟨hz, h1, st1⟩ := H.out
  obtain ⟨hv2, h2, s2⟩ := HE.out
  have s2' : Ste rtC ρ1 W1 ρ2 w2 := (Ste.of_below ((Below.refl _ _).drew) st1.fresh).trans s2
  obtain ⟨hB, hT⟩ := bend b2g ((s2'.old _ b2l).trans hz) (by omega) (h1.put h2 s2') (st1.trans s2') hv2 er
  exact ret_cell 4 38 (by rfl) (w.heap.size + 1) 0 (by rfl) [.int .i64 er, .slice A5 nb z5] _ hT.range Tryz.underlying38 rfl sz38 rfl hB
end Go.Proofs.YtggmdjdflaglpaaGreat
namespace Go.Proofs.YtggmdjdflaglpaaGreat
open Go.RowKit Go.Proofs.YtggmdjdflaglpaaGreat.geo
set_option linter.unusedVariables false
theorem boxesA (w : World) (cs : Array Value) : Below w.heap.size w ((w.alloc (.cells cs 36)).alloc (.cells #[.int .i64 0, .slice none 0 0] 38)) ∧ Blk ((w.alloc (.cells cs 36)).alloc (.cells #[.int .i64 0, .slice none 0 0] 38)) w.heap.size 36 cs ∧
    Blk ((w.alloc (.cells cs 36)).alloc (.cells #[.int .i64 0, .slice none 0 0] 38)) (w.heap.size + 1) 38 #[.int .i64 0, .slice none 0 0] := by
  refine ⟨((Below.refl _ _).alloc (Nat.le_refl _) _).alloc (by simp) _, (Blk.new w 36 _).alloc _, ?_⟩
  have := Blk.new (w.alloc (.cells cs 36)) 38 #[.int .i64 0, .slice none 0 0]
  rw [World.size_alloc] at this
  exact this
set_option maxHeartbeats 4000000 in
set_option maxRecDepth 100000 in
theorem bdo_call (HO : OpenOk) (HS : SumOk) (HT : ShutOk) (ρ : Rl) (bx : Nat) (a : Ads) (cc m ag : Nat) (sv : Value) (C : Cch) (k t : Nat) (kd l N F : Int) (data : By) (vd : Value) (D K : Option Addr) (dn kn : Nat) (dc kc : Nat) (w : World) (hf : Fresh ρ w) (h : BoxR ρ w bx a cc m ag sv C) (hC : Cin C k t) (hk6 : k ≤ 300000) (ht : t ≤ 900) (hv : HasD (fun b => ¬ rtC (ρ b)) w vd data) :
    Calls Tryz.prog 9 #[.pointer (some ⟨bx, 0, none⟩), .agg #[.int .i64 1, .int .i64 kd, .int .i64 l, vd, .int .i64 N, .int .i64 F, .slice D dn dc, .slice K kn kc]] w (TolB ρ bx a cc m sv (cdo C kd l data).1 (cdo C kd l data).2.1 (cdo C kd l data).2.2 w) := by
  have hvv := hv
  obtain ⟨Av, c, rfl⟩ := hv.slice
  obtain ⟨q1, b1, b2⟩ := boxesA w #[.int .i64 1, .int .i64 kd, .int .i64 l, .slice Av data.length c, .int .i64 N, .int .i64 F, .slice D dn dc, .slice K kn kc]
  obtain ⟨W1, hW1⟩ : ∃ W1, W1 = (w.alloc (.cells #[.int .i64 1, .int .i64 kd, .int .i64 l, .slice Av data.length c, .int .i64 N, .int .i64 F, .slice D dn dc, .slice K kn kc] 36)).alloc (.cells #[.int .i64 0, .slice none 0 0] 38) := ⟨_, rfl⟩
  rw [← hW1] at q1 b1 b2
  have b2l := b2.lt
  obtain ⟨ρ1, hρ1⟩ : ∃ ρ1, ρ1 = ρ.set (w.heap.size + 1) rTmp := ⟨_, rfl⟩
  have st1 : Ste rtC ρ w ρ1 W1 := by rw [hρ1]; exact (Ste.of_below q1 hf).label (by omega) b2l
  have hz : ρ1 (w.heap.size + 1) = rTmp := by rw [hρ1]; exact Rl.set_same _ _ _
  have h1 : BoxR ρ1 W1 bx a cc m ag sv C := h.keep q1.size (fun b hb e => ⟨q1.block b hb, by rw [hρ1]; exact Rl.set_other _ (by omega)⟩)
  have hv1 : HasD (fun b => ¬ rtC (ρ1 b)) W1 (.slice Av data.length c) data := (hvv.below_ q1).weakB (fun b hb e => by
    rw [hρ1]
    by_cases hb2 : b = w.heap.size + 1
    · rw [hb2, Rl.set_same]; unfold rtC; decide
    · rw [Rl.set_other _ hb2]; exact e)
  have hcd := bcall_ok HO HS HT ρ1 bx a cc m ag sv C k t kd l data (.slice Av data.length c) W1 st1.fresh h1 hC hk6 ht hv1
  obtain ⟨R, hR⟩ : ∃ R, R = cdo C kd l data := ⟨_, rfl⟩
  rw [← hR] at hcd ⊢
  obtain ⟨er, bb, C'⟩ := R
  simp only at hcd ⊢
  have d0 := b1.cell_ 0 rfl
  have d1 := b1.cell_ 1 rfl
  have d2 := b1.cell_ 2 rfl
  have d3 := b1.cell_ 3 rfl
  have ld := b1.lt
  have HW := Lib.hid hW1
  have r2 : ¬ rtC (ρ1 (w.heap.size + 1)) := by rw [hz]; unfold rtC; decide
  have H := Lib.hid (And.intro hz (And.intro b2 (And.intro st1 r2)))
  clear h h1 hW1 hρ1 st1 hz hR hC hk6 ht hvv hv1 hv q1 b2 r2 b1
  go_enter Tryz.func9, Tryz.ntmps9
  go_wp2_with fail
  rw [← HW.out]
  refine hcd.mono ?_
  rintro e w2 ⟨v, rfl, ρ2, ag2, hv2, h2, s2⟩
  clear hcd
  obtain ⟨A5, z5, rfl⟩ := hv2.slice
  obtain ⟨nb, hnb⟩ : ∃ nb, nb = bb.length := ⟨_, rfl⟩
  rw [← hnb] at hv2 ⊢
  obtain ⟨hz, b2, st1, r2⟩ := H.out
  have b3 := b2.ste s2 r2
  have HE := Lib.hid (And.intro hv2 (And.intro h2 (And.intro s2 (And.intro b3 ((s2.old _ b2l).trans hz)))))
  have HNB := Lib.hid hnb
  have e0 := b3.cell_ 0 rfl
  have e1 := b3.cell_ 1 rfl
  have f0 := b3.frozen 0
  have f1 := b3.frozen 1
  have le := b3.lt
  clear hv2 h2 s2 hnb b3 b2 hz st1 r2
  go_wp2_with fail
  obtain ⟨hz, b2, st1, r2⟩ := H.out
  obtain ⟨hv2, h2, s2, b3, hz2⟩ := HE.out
  obtain ⟨hB, hT⟩ := bend b3 hz2 (by omega) h2 (st1.trans s2) hv2 er
  exact ret_cell 4 38 (by rfl) (w.heap.size + 1) 0 (by rfl) [.int .i64 er, .slice A5 nb z5] _ hT.range Tryz.underlying38 rfl sz38 rfl hB
theorem s4r {w : World} {bx g wl d : Nat} {N : Int} {x1 x2 y0 y1 y2 y3 y5 y6 y7 z0 z1 z2 z4 z5 z6 : Value} (b : Blk w bx 59 #[.pointer (some ⟨wl, 0, none⟩), x1, x2]) (b2 : Blk w wl 70 #[z0, z1, z2, .pointer (some ⟨d, 0, none⟩), z4, z5, z6]) (b3 : Blk w g 36 #[y0, y1, y2, y3, .int .i64 N, y5, y6, y7]) :
    w.cell? ⟨bx, 0, none⟩ = some (.pointer (some ⟨wl, 0, none⟩)) ∧ w.cell? ⟨wl, 3, none⟩ = some (.pointer (some ⟨d, 0, none⟩)) ∧ w.cell? ⟨g, 4, none⟩ = some (.int .i64 N) := ⟨b.cell_ 0 rfl, b2.cell_ 3 rfl, b3.cell_ 4 rfl⟩
set_option maxHeartbeats 4000000 in
set_option maxRecDepth 100000 in
theorem bdo_refuse (ρ : Rl) (bx : Nat) (a : Ads) (cc m ag : Nat) (sv : Value) (C : Cch) (kd l N F : Int) (V D K : Option Addr) (vn dn kn : Nat) (vc dc kc : Nat) (w : World) (hf : Fresh ρ w) (h : BoxR ρ w bx a cc m ag sv C) :
    Calls Tryz.prog 9 #[.pointer (some ⟨bx, 0, none⟩), .agg #[.int .i64 7, .int .i64 kd, .int .i64 l, .slice V vn vc, .int .i64 N, .int .i64 F, .slice D dn dc, .slice K kn kc]] w (TolB ρ bx a cc m sv 0 [] (C.wld (C.W.ref (N != 0))) w) := by
  obtain ⟨q1, b1, b2⟩ := boxesA w #[.int .i64 7, .int .i64 kd, .int .i64 l, .slice V vn vc, .int .i64 N, .int .i64 F, .slice D dn dc, .slice K kn kc]
  obtain ⟨W1, hW1⟩ : ∃ W1, W1 = (w.alloc (.cells #[.int .i64 7, .int .i64 kd, .int .i64 l, .slice V vn vc, .int .i64 N, .int .i64 F, .slice D dn dc, .slice K kn kc] 36)).alloc (.cells #[.int .i64 0, .slice none 0 0] 38) := ⟨_, rfl⟩
  rw [← hW1] at q1 b1 b2
  have b2l := b2.lt
  obtain ⟨ρ1, hρ1⟩ : ∃ ρ1, ρ1 = ρ.set (w.heap.size + 1) rTmp := ⟨_, rfl⟩
  have st1 : Ste rtC ρ w ρ1 W1 := by rw [hρ1]; exact (Ste.of_below q1 hf).label (by omega) b2l
  have hz : ρ1 (w.heap.size + 1) = rTmp := by rw [hρ1]; exact Rl.set_same _ _ _
  have h1 : BoxR ρ1 W1 bx a cc m ag sv C := h.keep q1.size (fun b hb e => ⟨q1.block b hb, by rw [hρ1]; exact Rl.set_other _ (by omega)⟩)
  have hcd := fun b => wref_ok ρ1 a C.W b W1.drew st1.fresh (h1.2.2.wld.drew)
  have b0 := h1.1
  have bw := h1.2.2.wld.1
  have c0 := b0.cell_ 0 rfl
  have lb := b0.lt
  have cw := bw.cell_ 3 rfl
  have lw := bw.lt
  have d0 := b1.cell_ 0 rfl
  have d4 := b1.cell_ 4 rfl
  have ld := b1.lt
  have HW := Lib.hid hW1
  have r0 : ¬ ρ1 bx = rDsk := by rw [h1.2.1]; decide
  have rw_ : ¬ ρ1 a.wl = rDsk := by rw [h1.2.2.wld.2.1]; decide
  have r1 : ¬ ρ1 w.heap.size = rDsk := by rw [hρ1, Rl.set_other _ (by omega), hf _ (Nat.le_refl _)]; decide
  have HR := Lib.hid (And.intro r0 (And.intro rw_ r1))
  have H := Lib.hid (And.intro hz (And.intro b2 (And.intro st1 h1)))
  have HC := Lib.hid hcd
  obtain ⟨B, hB⟩ : ∃ B, B = (N != 0) := ⟨_, rfl⟩
  rw [← hB]
  have HB := Lib.hid hB
  clear h h1 hW1 hρ1 st1 hz q1 b2 hcd hB r0 rw_ r1
  go_enter Tryz.func9, Tryz.ntmps9
  go_wp2_with fail
  rw [← HW.out]
  go_region_held3 (fun w' => w'.cell? ⟨bx, 0, none⟩ = some (.pointer (some ⟨a.wl, 0, none⟩)) ∧ w'.cell? ⟨a.wl, 3, none⟩ = some (.pointer (some ⟨a.d, 0, none⟩)) ∧ w'.cell? ⟨w.heap.size, 4, none⟩ = some (.int .i64 N))
    (first | (with_reducible exact s4r b0 bw b1) | (with_reducible exact s4r b0.drew bw.drew b1.drew))
    (first
      | (go_at_call 23; (with_reducible refine (HC.out _).mono ?_); rintro e w2 ⟨rfl, h2, s2⟩;
          obtain ⟨r0, rw_, r1⟩ := HR.out; replace b0 := Blk.ste b0.drew s2 r0; replace bw := Blk.ste bw.drew s2 rw_; replace b1 := Blk.ste b1.drew s2 r1;
          have HE := Lib.hid (And.intro h2 s2); clear h2 s2 r0 rw_ r1)
      | fail)
  obtain ⟨h2, s2⟩ := HE.out
  obtain ⟨hz, b2, st1, h1⟩ := H.out
  have h2' : WldR ρ1 w2 a (C.W.ref B) := by rw [HB.out]; exact h2
  have b3 := Blk.ste b2.drew s2 (by rw [hz]; decide)
  have s2' : Ste (fun r => r = rDsk) ρ1 W1 ρ1 w2 := (Ste.of_below ((Below.refl _ _).drew) st1.fresh).trans s2
  have h3 : BoxR ρ1 w2 bx a cc m ag sv (C.wld (C.W.ref B)) := h1.put (h1.2.2.put_wld h2' (s2'.mono (fun r e => by rw [e]; unfold rtW; decide))) (s2'.mono (fun r e => by rw [e]; unfold rtC; decide))
  have HE2 := Lib.hid (And.intro hz (And.intro b3 (And.intro h3 (st1.trans (s2'.mono (fun r e => by rw [e]; unfold rtC; decide))))))
  have e0 := b3.cell_ 0 rfl
  have e1 := b3.cell_ 1 rfl
  have f0 := b3.frozen 0
  have f1 := b3.frozen 1
  have le := b3.lt
  clear h2 s2 hz b2 st1 h1 h2' b3 s2' h3
  go_wp2_with fail
  obtain ⟨hz, b3, h3, st3⟩ := HE2.out
  obtain ⟨hB, hT⟩ := bend (b := []) b3 hz (by omega) h3 st3 (.inl ⟨rfl, rfl⟩) 0
  exact ret_cell 4 38 (by rfl) (w.heap.size + 1) 0 (by rfl) [.int .i64 0, .slice none 0 0] _ hT.range Tryz.underlying38 rfl sz38 rfl hB
end Go.Proofs.YtggmdjdflaglpaaGreat
namespace Go.Proofs.YtggmdjdflaglpaaGreat
open Go.RowKit Go.Proofs.YtggmdjdflaglpaaGreat.geo
set_option linter.unusedVariables false
theorem sz36 : (Tryz.prog.info? 36).map (·.size) = some 8 := by kernel_rfl
set_option maxHeartbeats 2000000 in
set_option maxRecDepth 100000 in
theorem tcall_ok (kd l : Int) (V : Option Addr) (vn vc : Nat) (w : World) :
    Calls Tryz.prog 10 #[.int .i64 kd, .int .i64 l, .slice V vn vc] w fun e w' => e = .returned (.agg #[.int .i64 1, .int .i64 kd, .int .i64 l, .slice V vn vc, .int .i64 0, .int .i64 0, .slice none 0 0, .slice none 0 0]) ∧ Below w.heap.size w w' := by
  go_enter Tryz.func10, Tryz.ntmps10
  go_wp2_with fail
  have hB := Blk.new w 36 #[.int .i64 1, .int .i64 kd, .int .i64 l, .slice V vn vc, .int .i64 0, .int .i64 0, .slice none 0 0, .slice none 0 0]
  exact ret_cell 6 36 (by rfl) w.heap.size 0 (by rfl) [.int .i64 1, .int .i64 kd, .int .i64 l, .slice V vn vc, .int .i64 0, .int .i64 0, .slice none 0 0, .slice none 0 0] _ hB.range Tryz.underlying36 rfl sz36 rfl ⟨rfl, (Below.refl _ _).alloc (Nat.le_refl _) _⟩
/-- a row of i bytes u, then noughts -/
def fillB (u : UInt8) (i : Nat) : By := List.replicate i u ++ List.replicate (32 - i) 0
theorem fillB_len (u : UInt8) (i : Nat) (h : i ≤ 32) : (fillB u i).length = 32 := by simp [fillB]; omega
theorem fillB_set (u : UInt8) (i : Nat) (h : i < 32) : (fillB u i).set i u = fillB u (i + 1) := by
  unfold fillB
  have e : 32 - i = (32 - (i + 1)) + 1 := by omega
  rw [List.set_append_right _ _ (by simp), List.length_replicate, Nat.sub_self, e, List.replicate_succ, List.set_cons_zero, List.replicate_succ', List.append_assoc]
  rfl
theorem fillB_set' (u : UInt8) (i : Nat) (h : i < 32) : (bvals (fillB u i)).toArray.setIfInBounds i (.int .u8 (u.toNat : Int)) = (bvals (fillB u (i + 1))).toArray := by
  rw [← fillB_set u i h]
  unfold bvals
  rw [List.map_set]
  simp
set_option maxHeartbeats 2000000 in
set_option maxRecDepth 100000 in
theorem tblock_ok (u : UInt8) (w : World) :
    Calls Tryz.prog 24 #[.int .u8 (u.toNat : Int)] w fun e w' => e = .returned (.slice (some ⟨w.heap.size, 0, none⟩) 32 32) ∧ Blk w' w.heap.size 5 (bvals (fillB u 32)).toArray ∧ Below w.heap.size w w' := by
  have hm : ∀ W : World, (Instr.makeSlice 32 (.int .i64 32) (.int .i64 32)).run Tryz.prog W = .ok (.slice (some ⟨W.heap.size, 0, none⟩) 32 32) (W.alloc (.cells (bvals (fillB u 0)).toArray 5)) := fun W => make_bytes 32 (by omega) W
  have hB := Blk.new w 5 (bvals (fillB u 0)).toArray
  have q : Below w.heap.size w (w.alloc (.cells (bvals (fillB u 0)).toArray 5)) := (Below.refl _ _).alloc (Nat.le_refl _) _
  obtain ⟨W1, hW1⟩ : ∃ W1, W1 = w.alloc (.cells (bvals (fillB u 0)).toArray 5) := ⟨_, rfl⟩
  rw [← hW1] at hB q
  have HW := Lib.hid hW1
  obtain ⟨n, hn⟩ : ∃ n : Nat, n = 32 := ⟨_, rfl⟩
  have HN := Lib.hid hn
  clear hW1 hn
  have hb := u.toNat_lt
  obtain ⟨b, hbb⟩ : ∃ b : Int, b = (u.toNat : Int) := ⟨_, rfl⟩
  have HB := Lib.hid hbb
  rw [← hbb]
  clear hbb
  go_enter Tryz.func24, Tryz.ntmps24
  go_wp2_with fail
  rw [← HW.out]
  go_loopw [4] (fun t wr => ∃ i : Nat, t = .int .i64 i ∧ i ≤ 32 ∧ Blk wr w.heap.size 5 (bvals (fillB u i)).toArray ∧ Below w.heap.size w wr) (fun t _ => 32 - (intOf t).toNat)
  case atStart => exact ⟨0, rfl, by omega, hB, q⟩
  case round =>
    obtain ⟨i, rfl, hi, hBr, hqr⟩ := hrel
    clear hB q
    by_cases hlt : i < 32
    · have m0 : (0 : Int) ≤ (i : Int) := by omega
      have m1 : (i : Int) < 32 := by omega
      have hli : i < (bvals (fillB u i)).toArray.size := by rw [List.size_toArray, bvals_len, fillB_len u i hi]; exact hlt
      obtain ⟨x0, hx0⟩ : ∃ x : UInt8, (fillB u i)[i]? = some x := ⟨_, List.getElem?_eq_getElem (by rw [fillB_len u i hi]; exact hlt)⟩
      have c0 : wr.cell? ⟨w.heap.size, i, none⟩ = some (.int .u8 (x0.toNat : Int)) := hBr.cell_ i (by rw [List.getElem?_toArray, bvals_at, hx0]; rfl)
      have HX := Lib.hid hx0
      clear hx0 hli
      have f0 := hBr.frozen i
      have lb := hBr.lt
      have HR := Lib.hid (And.intro hBr hqr)
      clear hBr hqr
      go_wp2_with fail
      obtain ⟨hBr, hqr⟩ := HR.out
      go_roundw
      case rel => exact ⟨i + 1, by go_num, by omega, hBr.set_to i _ (by rw [HB.out]; exact fillB_set' u i hlt), hqr.setCell (Nat.le_refl _) _⟩
      case measure => simp [intOf]; omega
    · have hin : i = 32 := by omega
      subst hin
      have HR := Lib.hid (And.intro hBr hqr)
      clear hBr hqr
      go_wp2_with fail
      go_ret
      exact ⟨rfl, HR.out.1, HR.out.2⟩
end Go.Proofs.YtggmdjdflaglpaaGreat
