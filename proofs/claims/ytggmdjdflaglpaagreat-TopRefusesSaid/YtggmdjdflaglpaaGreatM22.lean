/- tree.Build: the walk. area.Write: all leaves, and the tree of them; the first loop. root.Put, root.PutRec. log.Put: a root is sealed and written. -/
import Derived.Test.YtggmdjdflaglpaaGreatM21
import Derived.Test.YtggmdjdflaglpaaGreatM19
import Derived.Test.YtggmdjdflaglpaaGreatM20
import Derived.Test.YtggmdjdflaglpaaGreatM04
namespace Go.Proofs.YtggmdjdflaglpaaGreat
open Go.RowKit Go.Proofs.YtggmdjdflaglpaaGreat.geo
set_option linter.unusedVariables false
/-- a slice of rows of bytes, all in blocks of which p is true -/
def RowsP (p : Nat → Prop) (w : World) (v : Value) (Ls : List By) : Prop :=
  ∃ b off cap, v = .slice (some ⟨b, off, none⟩) Ls.length cap ∧ p b ∧ b < w.heap.size ∧
    ∀ (j : Nat) (l : By), Ls[j]? = some l → ∃ vj, w.cell? ⟨b, off + j, none⟩ = some vj ∧ HasP p w vj l
theorem RowsP.keep {p : Nat → Prop} {w w' : World} {v : Value} {Ls : List By} (h : RowsP p w v Ls) (hs : w.heap.size ≤ w'.heap.size) (hk : ∀ b, b < w.heap.size → p b → w'.heap[b]? = w.heap[b]?) : RowsP p w' v Ls := by
  obtain ⟨b, off, cap, h1, h2, h3, h4⟩ := h
  refine ⟨b, off, cap, h1, h2, Nat.lt_of_lt_of_le h3 hs, fun j l hj => ?_⟩
  obtain ⟨vj, h5, h6⟩ := h4 j l hj
  refine ⟨vj, ?_, h6.keep hs hk⟩
  rw [← h5]
  simp only [World.cell?, hk b h3 h2]
/-- the nodes' block, the lock and all else behind some sums -/
structure BldI (ρ : Rl) (w : World) (l : Nat) (g n : Nat) (L : Lk) (f : Nat → Two) (wr : World) : Prop where
  blk : Blk wr g 101 (pcells (2 * n) f).toArray
  lk : LkR ρ wr l L
  st : Ste rtOrc ρ w ρ wr
theorem BldI.step {ρ : Rl} {w wr w1 : World} {l g n : Nat} {L L' : Lk} {f : Nat → Two} (h : BldI ρ w l g n L f wr) (hs : Ste rtOrc ρ wr ρ w1) (hL : LkR ρ w1 l L') (hg : ρ g = 0) : BldI ρ w l g n L' f w1 :=
  ⟨h.blk.ch hs.ch (by rw [hg]; unfold rtOrc; decide), hL, h.st.trans hs⟩
theorem BldI.put {ρ : Rl} {w w1 : World} {l g n : Nat} {L : Lk} {f : Nat → Two} (h : BldI ρ w l g n L f w1) (hg : ρ g = 0) (hgw : w.heap.size ≤ g) {k : Nat} (hk : k < 2 * n) (t : Two) {i j : Nat} (hi : i = 2 * k) (hj : j = 2 * k + 1) :
    BldI ρ w l g n L (fun i => if i = k then t else f i) ((w1.setCell ⟨g, i, none⟩ (.int .u64 t.1)).setCell ⟨g, j, none⟩ (.int .u64 t.2)) := by
  subst hi hj
  have g2 := only_set2 w1 g (2 * k) (2 * k + 1) (.int .u64 t.1) (.int .u64 t.2)
  refine ⟨?_, lk_back h.lk g2 hg, ste_back (Below.refl _ _) h.st g2 hgw⟩
  refine (h.blk.set_to (2 * k) _ (cs' := ((pcells (2 * n) f).set (2 * k) (.int .u64 t.1)).toArray) (by rw [List.setIfInBounds_toArray])).set_to (2 * k + 1) _ ?_
  rw [List.setIfInBounds_toArray, pcells_set f t hk]
theorem cset_ne (w : World) (g i o : Nat) (v : Value) (h : o ≠ i) : (w.setCell ⟨g, i, none⟩ v).cell? ⟨g, o, none⟩ = w.cell? ⟨g, o, none⟩ := by
  apply World.cell?_setCell_other
  intro e
  injection e with _ e2
  exact h e2.symm
set_option maxHeartbeats 8000000 in
set_option maxRecDepth 100000 in
theorem build_ok (HS : SumOk) (ρ : Rl) (l : Nat) (L : Lk) (v : Value) (R : List By) (w : World) (hf : Fresh ρ w) (h : LkR ρ w l L) (hV : V R.length) (hv : RowsP (fun b => ¬ rtOrc (ρ b)) w v R) (hR : ∀ x ∈ R, x.length = 32) (hlim : L.lim 800000) :
    Calls Tryz.prog 101 #[.pointer (some ⟨l, 0, none⟩), v] w fun e w' => ∃ g, e = .returned (.tuple #[.slice (some ⟨g, 0, none⟩) (2 * R.length) (2 * R.length), .bool true]) ∧ Blk w' g 101 (pcells (2 * R.length) (bldN L R)).toArray ∧ w.heap.size ≤ g ∧ LkR ρ w' l (bldL L R) ∧ Ste rtOrc ρ w ρ w' := by
  have hn16 : R.length ≤ 16 ∧ 4 ≤ R.length := by unfold V at hV; omega
  have hiy := fun W => is_yes (R.length : Int) W hV
  obtain ⟨b, off, cap, rfl, hb1, hb2, hb3⟩ := hv
  obtain ⟨n, hn⟩ : ∃ n, n = R.length := ⟨_, rfl⟩
  rw [← hn] at hiy hn16 ⊢
  have HN := Lib.hid hn
  have hm : ∀ W, (Instr.makeSlice 190 (.int .i64 (2 * (n : Int))) (.int .i64 (2 * (n : Int)))).run Tryz.prog W = .ok (.slice (some ⟨W.heap.size, 0, none⟩) (2 * n) (2 * n)) (W.alloc (.cells (pcells (2 * n) (fun _ => (0, 0))).toArray 101)) := fun W => by
    have := make_pairs (2 * n) (by omega) W
    rw [Int.natCast_mul] at this
    exact this
  clear hn hV
  go_enter Tryz.func101, Tryz.ntmps101
  go_wp2_with fail
  refine (hiy _).mono ?_
  rintro e w1 ⟨rfl, rfl⟩
  go_wp2_with fail
  have hg0 : ρ w.heap.size = 0 := hf _ (Nat.le_refl _)
  have hb0 : Below w.heap.size w (w.alloc (.cells (pcells (2 * n) fun _ => (0, 0)).toArray 101)) := (Below.refl _ _).alloc (Nat.le_refl _) _
  have hrw : ∀ wr : World, Ste rtOrc ρ w ρ wr → ∀ (j : Nat) (x : By), R[j]? = some x → ∃ vj, wr.cell? ⟨b, off + j, none⟩ = some vj ∧ HasP (fun b => ¬ rtOrc (ρ b)) wr vj x := fun wr hs j x hj => by
    obtain ⟨vj, h5, h6⟩ := hb3 j x hj
    exact ⟨vj, (hs.ch.cell hb2 hb1).trans h5, h6.keep hs.size (fun b hb e => hs.ch.keep b hb e)⟩
  have HW := Lib.hid hrw
  have HB := Lib.hid (And.intro hb1 (And.intro hb2 hb3))
  have HL := Lib.hid (And.intro hlim (And.intro hR hg0))
  obtain ⟨g, hg⟩ : ∃ g, g = w.heap.size := ⟨_, rfl⟩
  have hstart : BldI ρ w l g n L (nd1 L R 0) (w.alloc (.cells (pcells (2 * n) fun _ => (0, 0)).toArray 101)) := by
    refine ⟨?_, h.below_ hb0, Ste.of_below hb0 hf⟩
    have : nd1 L R 0 = fun _ => (0, 0) := by funext k; unfold nd1; rw [if_neg (by omega)]
    rw [hg, this]
    exact Blk.new w 101 _
  rw [← hg]
  have HG := Lib.hid hg
  generalize (w.alloc (.cells (pcells (2 * n) fun _ => (0, 0)).toArray 101)) = w1 at hstart ⊢
  clear hrw hb1 hb2 hb3 hlim hR hg0 hb0 hm hiy h hg
  go_loopw [21] (fun t wr => ∃ i : Nat, t = .int .i64 i ∧ i ≤ n ∧ BldI ρ w l g n (lfL L R i) (nd1 L R i) wr) (fun t _ => n - (intOf t).toNat)
  case atStart => exact ⟨0, rfl, by omega, hstart⟩
  case round =>
    obtain ⟨i, rfl, hi, hI⟩ := hrel
    clear hstart
    by_cases hlt : i < n
    · obtain ⟨x, hx⟩ : ∃ x, R[i]? = some x := ⟨_, List.getElem?_eq_getElem (by have := HN.out; omega)⟩
      obtain ⟨vj, hc, hvj⟩ := HW.out wr hI.st i x hx
      obtain ⟨A, z, rfl⟩ := hvj.slice
      have m0 : (0 : Int) ≤ (i : Int) := by omega
      have m1 : (i : Int) < (n : Int) := by omega
      have m2 : (n : Int) + (i : Int) < 2 * (n : Int) := by omega
      have hS := hI.st
      have HX := Lib.hid (And.intro hx (And.intro hI hvj))
      clear hx hI hvj
      go_wp2_with fail
      have hx32 : x.length = 32 := HL.out.2.1 x (List.mem_of_getElem? HX.out.1)
      refine (tleaf_ok HS ρ _ l (lfL L R i) _ x wr HX.out.2.1.st.fresh HX.out.2.1.lk HX.out.2.2 (by intro e; rw [e] at hx32; simp at hx32) (by omega) (Lk.lim_mono (lfL_lim HL.out.1 i) (by omega))).mono ?_
      rintro e w2 ⟨rfl, h2, s2⟩
      have hI2 := HX.out.2.1.step s2 h2 (by rw [HG.out]; exact HL.out.2.2)
      have hni : n + i < 2 * n := by omega
      have x0 := hI2.blk.cell_ ((n + i) * 2) (by rw [List.getElem?_toArray, Nat.mul_comm (n + i) 2]; exact (pcells_at _ hni).1)
      have x1 := hI2.blk.cell_ ((n + i) * 2 + 1) (by rw [List.getElem?_toArray, Nat.mul_comm (n + i) 2]; exact (pcells_at _ hni).2)
      have y0 := hI2.blk.frozen ((n + i) * 2)
      have y1 := hI2.blk.frozen ((n + i) * 2 + 1)
      have yl := hI2.blk.lt
      have hput := hI2.put (k := n + i) (by rw [HG.out]; exact HL.out.2.2) (by rw [HG.out]; exact Nat.le_refl _) hni (lfN L R i) (i := (n + i) * 2) (j := (n + i) * 2 + 1) (Nat.mul_comm _ _) (by rw [Nat.mul_comm])
      have HP := Lib.hid hput
      clear hput hI2 s2 h2 hx32 hS
      unfold pv
      obtain ⟨t, ht⟩ : ∃ t, t = (lfL L R i).sum (leafS x) := ⟨_, rfl⟩
      rw [← ht]
      obtain ⟨ta, tb⟩ := t
      have HT := Lib.hid ht
      clear ht
      go_wp2_with fail
      go_roundw
      case rel =>
        refine ⟨i + 1, by go_num, by omega, ?_⟩
        have hgd : R.getD i [] = x := by rw [List.getD_eq_getElem?_getD, HX.out.1]; rfl
        have e1 : (ta, tb) = lfN L R i := by rw [HT.out]; unfold lfN; rw [hgd]
        have e2 : lfL L R (i + 1) = (lfL L R i).summed (leafS x) := by simp only [lfL, hgd]
        have e3 : nd1 L R (i + 1) = fun k => if k = n + i then lfN L R i else nd1 L R i k := by
          funext k
          unfold nd1
          rw [← HN.out]
          by_cases c : k = n + i
          · subst c
            rw [if_pos (by omega), if_pos rfl, Nat.add_sub_cancel_left]
          · rw [if_neg c]
            by_cases d : n ≤ k ∧ k < n + i
            · rw [if_pos d, if_pos (by omega)]
            · rw [if_neg d, if_neg (by omega)]
        rw [e2, e3]
        have := HP.out
        rw [← e1] at this ⊢
        exact this
      case measure => simp [intOf]; omega
    · obtain rfl : n = i := by omega
      have hd : decide ((n : Int) < (n : Int)) = false := by simp
      have HI := Lib.hid hI
      clear hI
      go_wp2_with fail
      have hI := HI.out

      obtain ⟨wo, rfl⟩ : ∃ wo : World, wo = wr := ⟨_, rfl⟩
      have n0 : (4 : Int) ≤ (n : Int) := by omega
      go_loopw [10] (fun t wr => ∃ i : Nat, t = .int .i64 i ∧ i ≤ n - 1 ∧ BldI ρ w l g n (nd2 L R (n - 1 - i)).1 (nd2 L R (n - 1 - i)).2 wr) (fun t _ => (intOf t).toNat)
      case atStart =>
        refine ⟨n - 1, by go_num, by omega, ?_⟩
        rw [Nat.sub_self]
        show BldI ρ w l g n (lfL L R R.length) (nd1 L R R.length) wo
        rw [← HN.out]
        exact hI
      case round =>
        obtain ⟨i, rfl, hi, hQ⟩ := hrel
        clear hI
        by_cases hlt : 0 < i
        · have m0 : (0 : Int) < (i : Int) := by omega
          have m1 : (i : Int) ≤ (n : Int) - 1 := by omega
          have m2 : 2 * (i : Int) < 2 * (n : Int) := by omega
          have m3 : 2 * (i : Int) + 1 < 2 * (n : Int) := by omega
          have k0 := pcells_at (n := 2 * n) (nd2 L R (n - 1 - i)).2 (k := 2 * i) (by omega)
          have k1 := pcells_at (n := 2 * n) (nd2 L R (n - 1 - i)).2 (k := 2 * i + 1) (by omega)
          obtain ⟨X, hX⟩ : ∃ X, X = (nd2 L R (n - 1 - i)).2 (2 * i) := ⟨_, rfl⟩
          obtain ⟨Y, hY⟩ : ∃ Y, Y = (nd2 L R (n - 1 - i)).2 (2 * i + 1) := ⟨_, rfl⟩
          rw [← hX] at k0
          rw [← hY] at k1
          have hXY := Lib.hid (And.intro hX hY)
          obtain ⟨Xa, Xb⟩ := X
          obtain ⟨Ya, Yb⟩ := Y
          simp only at k0 k1
          have hcl := fun W h1 h2 => tnode_ok HS ρ l (nd2 L R (n - 1 - i)).1 (Xa, Xb) (Ya, Yb) W h1 h2 (by rw [hX]; exact nd2_u HL.out.1 (by rw [← HN.out]; omega) (by omega) _ _ (by omega)) (by rw [hY]; exact nd2_u HL.out.1 (by rw [← HN.out]; omega) (by omega) _ _ (by omega)) (Lk.lim_mono (nd2_lim HL.out.1 _) (by rw [← HN.out]; omega))
          have c0 : wr.cell? ⟨g, 2 * i * 2, none⟩ = some (.int .u64 Xa) := hQ.blk.cell_ (2 * i * 2) (by rw [List.getElem?_toArray, Nat.mul_comm (2 * i) 2]; exact k0.1)
          have c1 : wr.cell? ⟨g, 2 * i * 2 + 1, none⟩ = some (.int .u64 Xb) := hQ.blk.cell_ (2 * i * 2 + 1) (by rw [List.getElem?_toArray, Nat.mul_comm (2 * i) 2]; exact k0.2)
          have c2 : wr.cell? ⟨g, (2 * i + 1) * 2, none⟩ = some (.int .u64 Ya) := hQ.blk.cell_ ((2 * i + 1) * 2) (by rw [List.getElem?_toArray, Nat.mul_comm (2 * i + 1) 2]; exact k1.1)
          have c3 : wr.cell? ⟨g, (2 * i + 1) * 2 + 1, none⟩ = some (.int .u64 Yb) := hQ.blk.cell_ ((2 * i + 1) * 2 + 1) (by rw [List.getElem?_toArray, Nat.mul_comm (2 * i + 1) 2]; exact k1.2)
          have hQl := hQ.blk.lt
          have hQb := hQ.lk
          have hQs := hQ.st
          have HQ := Lib.hid hQ
          clear hQ hX hY k0 k1
          have hkeep : ∀ w2, Ste rtOrc ρ wr ρ w2 → ∀ (o : Nat) (v : Value), wr.cell? ⟨g, o, none⟩ = some v → w2.cell? ⟨g, o, none⟩ = some v := fun w2 s2 o v hc => (s2.ch.cell hQl (by rw [HG.out, HL.out.2.2]; unfold rtOrc; decide)).trans hc
          have hin : i < 2 * n := by omega
          obtain ⟨t, ht⟩ : ∃ t, t = (nd2 L R (n - 1 - i)).1.sum (nodeS (Xa, Xb) (Ya, Yb)) := ⟨_, rfl⟩
          have hnext : ∀ w2, Ste rtOrc ρ wr ρ w2 → LkR ρ w2 l ((nd2 L R (n - 1 - i)).1.summed (nodeS (Xa, Xb) (Ya, Yb))) →
              w2.cell? ⟨g, i * 2, none⟩ = some (.int .u64 ((nd2 L R (n - 1 - i)).2 i).1) ∧ w2.cell? ⟨g, i * 2 + 1, none⟩ = some (.int .u64 ((nd2 L R (n - 1 - i)).2 i).2) ∧ w2.frozen? ⟨g, i * 2, none⟩ = false ∧ w2.frozen? ⟨g, i * 2 + 1, none⟩ = false ∧ g < w2.heap.size ∧
              Hid (BldI ρ w l g n ((nd2 L R (n - 1 - i)).1.summed (nodeS (Xa, Xb) (Ya, Yb))) (fun k => if k = i then t else (nd2 L R (n - 1 - i)).2 k) ((w2.setCell ⟨g, i * 2, none⟩ (.int .u64 t.1)).setCell ⟨g, i * 2 + 1, none⟩ (.int .u64 t.2))) ∧
              (∀ (o : Nat) (v : Value), o ≠ i * 2 → o ≠ i * 2 + 1 → w2.cell? ⟨g, o, none⟩ = some v → ((w2.setCell ⟨g, i * 2, none⟩ (.int .u64 t.1)).setCell ⟨g, i * 2 + 1, none⟩ (.int .u64 t.2)).cell? ⟨g, o, none⟩ = some v) := fun w2 s2 h2 => by
            have hI2 := HQ.out.step s2 h2 (by rw [HG.out]; exact HL.out.2.2)
            refine ⟨hI2.blk.cell_ (i * 2) (by rw [List.getElem?_toArray, Nat.mul_comm i 2]; exact (pcells_at _ hin).1), hI2.blk.cell_ (i * 2 + 1) (by rw [List.getElem?_toArray, Nat.mul_comm i 2]; exact (pcells_at _ hin).2), hI2.blk.frozen _, hI2.blk.frozen _, hI2.blk.lt, Lib.hid (hI2.put (k := i) (by rw [HG.out]; exact HL.out.2.2) (by rw [HG.out]; exact Nat.le_refl _) hin t (Nat.mul_comm _ _) (by rw [Nat.mul_comm])), fun o v h1 h2 hc => ?_⟩
            exact (cset_ne _ g (i * 2 + 1) o _ h2).trans ((cset_ne _ g (i * 2) o _ h1).trans hc)
          have h00 : 2 * i * 2 ≠ i * 2 := by omega
          have h01 : 2 * i * 2 ≠ i * 2 + 1 := by omega
          have h10 : 2 * i * 2 + 1 ≠ i * 2 := by omega
          have h11 : 2 * i * 2 + 1 ≠ i * 2 + 1 := by omega
          have h20 : (2 * i + 1) * 2 ≠ i * 2 := by omega
          have h21 : (2 * i + 1) * 2 ≠ i * 2 + 1 := by omega
          have h30 : (2 * i + 1) * 2 + 1 ≠ i * 2 := by omega
          have h31 : (2 * i + 1) * 2 + 1 ≠ i * 2 + 1 := by omega
          have p0 : (0 : Int) ≤ 2 * (i : Int) := by omega
          have p1 : (0 : Int) ≤ 2 * (i : Int) + 1 := by omega
          have p2 : (i : Int) < 2 * (n : Int) := by omega
          have p3 : (2 * (i : Int)).toNat = 2 * i := by omega
          have p4 : (2 * (i : Int) + 1).toNat = 2 * i + 1 := by omega
          have p5 : (i : Int) < (n : Int) := by omega
          have p6 : i < n := by omega
          have e1 : IntKind.i64.wrap (2 * (i : Int)) = 2 * (i : Int) := IntWalk.i64_in _ (by omega)
          have e2 : IntKind.i64.wrap (2 * (i : Int) + 1) = 2 * (i : Int) + 1 := IntWalk.i64_in _ (by omega)
          rw [← ht] at hcl
          unfold pv at hcl
          obtain ⟨ta, tb⟩ := t
          have HT := Lib.hid ht
          clear ht
          simp only at hnext hcl
          have hst2 : Ste rtOrc ρ wr ρ wr.drew := Ste.of_below (Below.refl _ _).drew hQs.fresh
          have hcl2 := hcl wr.drew hst2.fresh (hQb.below_ (Below.refl _ _).drew)
          go_wp2_with fail
          go_region_held3 (fun w' => w'.cell? ⟨g, 2 * i * 2, none⟩ = some (.int .u64 Xa) ∧ w'.cell? ⟨g, 2 * i * 2 + 1, none⟩ = some (.int .u64 Xb) ∧ w'.cell? ⟨g, (2 * i + 1) * 2, none⟩ = some (.int .u64 Ya) ∧ w'.cell? ⟨g, (2 * i + 1) * 2 + 1, none⟩ = some (.int .u64 Yb))
            (first | (with_reducible exact ⟨c0, c1, c2, c3⟩) | (with_reducible exact ⟨z0, z1, z2, z3⟩) | exact ⟨c0, c1, c2, c3⟩)
            ((go_at_call 140; (with_reducible refine hcl2.mono ?_); rintro e w2 ⟨rfl, h2, s2⟩; replace s2 := hst2.trans s2; replace c0 := hkeep w2 s2 _ _ c0; replace c1 := hkeep w2 s2 _ _ c1; replace c2 := hkeep w2 s2 _ _ c2; replace c3 := hkeep w2 s2 _ _ c3; obtain ⟨x0, x1, y0, y1, yl, hP, hz⟩ := hnext w2 s2 h2; have z0 := hz _ _ h00 h01 c0; have z1 := hz _ _ h10 h11 c1; have z2 := hz _ _ h20 h21 c2; have z3 := hz _ _ h30 h31 c3))
          have HH := Lib.hid (And.intro hP hz)
          clear hP hz x0 x1 y0 y1 c0 c1 c2 c3 z0 z1 z2 z3 hkeep hnext hcl hcl2 hst2 s2 h2 hQs hQb
          clear e1 e2
          go_wp2_with fail
          go_roundw
          case rel =>
            refine ⟨i - 1, by have : ((i - 1 : Nat) : Int) = (i : Int) - 1 := (by omega); rw [this], by omega, ?_⟩
            have q1 : n - 1 - (i - 1) = (n - 1 - i) + 1 := by omega
            have q2 : R.length - 1 - (n - 1 - i) = i := by rw [← HN.out]; omega
            have hP := HH.out.1.out
            have q3 := HT.out
            obtain ⟨q4, q5⟩ := hXY.out
            rw [q1]
            simp only [nd2, q2]
            rw [← q4, ← q5, ← q3]
            exact hP
          case measure => simp [intOf]; omega
        · obtain rfl : i = 0 := by omega
          have HQ := Lib.hid hQ
          clear hQ
          go_wp2_with fail
          go_ret2
          have hQ := HQ.out
          rw [Nat.sub_zero] at hQ
          refine ⟨g, rfl, ?_, by rw [HG.out]; exact Nat.le_refl _, ?_, hQ.st⟩
          · unfold bldN
            rw [← HN.out]
            exact hQ.blk
          · unfold bldL
            rw [← HN.out]
            exact hQ.lk
end Go.Proofs.YtggmdjdflaglpaaGreat
namespace Go.Proofs.YtggmdjdflaglpaaGreat
open Go.RowKit Go.Proofs.YtggmdjdflaglpaaGreat.geo
set_option linter.unusedVariables false
theorem aris_ok (wl : Nat) (k : Nat) (hk : k < 2) (w : World) : Calls Tryz.prog 99 #[.pointer (some ⟨wl, 0, none⟩), .int .i64 k] w fun e w' => e = .returned (.bool true) ∧ w = w' := by
  have k0 : (0 : Int) ≤ (k : Int) := by omega
  have k1 : (k : Int) < 2 := by omega
  go_enter Tryz.func99, Tryz.ntmps99
  go_wp2_with fail
  go_ret
  exact ⟨rfl, rfl⟩
/-- a row of leaves' cells -/
def lcs (ls : List Lf) : List Value := ls.flatMap lfc
theorem lfc_len (l : Lf) : (lfc l).length = 8 := rfl
theorem lcs_len (ls : List Lf) : (lcs ls).length = 8 * ls.length := by
  induction ls with
  | nil => rfl
  | cons a ls ih => simp only [lcs, List.flatMap_cons, List.length_append, lfc_len, List.length_cons]; unfold lcs at ih; rw [ih]; omega
theorem lcs_at : ∀ {ls : List Lf} {i : Nat} {l : Lf}, ls[i]? = some l → ∀ j u, (lfc l)[j]? = some u → (lcs ls)[8 * i + j]? = some u
  | [], i, l, h, j, u, hj => by simp at h
  | a :: ls, 0, l, h, j, u, hj => by
    simp at h
    subst h
    have hj8 : j < 8 := (List.getElem?_eq_some_iff.1 hj).1
    show (lfc a ++ lcs ls)[8 * 0 + j]? = some u
    rw [Nat.mul_zero, Nat.zero_add, List.getElem?_append_left (by rw [lfc_len]; exact hj8)]
    exact hj
  | a :: ls, i + 1, l, h, j, u, hj => by
    have := lcs_at (ls := ls) (i := i) (l := l) (by simpa using h) j u hj
    show (lfc a ++ lcs ls)[8 * (i + 1) + j]? = some u
    rw [List.getElem?_append_right (by rw [lfc_len]; omega), lfc_len]
    have e : 8 * (i + 1) + j - 8 = 8 * i + j := by omega
    rw [e]
    exact this
/-- a slice of leaves, in a block of which p is true; behind them may stand more -/
def LvsP (p : Nat → Prop) (w : World) (v : Value) (ls : List Lf) : Prop :=
  ∃ g cap r, v = .slice (some ⟨g, 0, none⟩) ls.length cap ∧ p g ∧ Blk w g 103 (lcs ls ++ r).toArray
theorem Blk.leaf {w : World} {g : Nat} {ls : List Lf} {r : List Value} (h : Blk w g 103 (lcs ls ++ r).toArray) {i : Nat} {l : Lf} (hi : ls[i]? = some l) : w.rangeAt g (i * 8) (lfc l) := fun j v hv => by
  have e := lcs_at hi j v hv
  exact h.cell_ (i * 8 + j) (by rw [List.getElem?_toArray, Nat.mul_comm, List.getElem?_append_left (List.getElem?_eq_some_iff.1 e).1]; exact e)
theorem info32 : (Tryz.prog.info? 32).map (fun i => (i.zero, i.size, i.bytes)) = some (some (.slice none 0 0), 1, 24) := by kernel_rfl
def allB (ls : List Lf) (i : Nat) : By := ((ls.take i).map leafB).flatten
theorem allB_succ {ls : List Lf} {i : Nat} {l : Lf} (h : ls[i]? = some l) : allB ls (i + 1) = allB ls i ++ leafB l := by
  unfold allB
  rw [List.take_add_one, h]
  simp
theorem allB_len (ls : List Lf) (i : Nat) (h : i ≤ ls.length) : (allB ls i).length = 32 * i := by
  induction i with
  | zero => rfl
  | succ i ih =>
    obtain ⟨l, hl⟩ : ∃ l, ls[i]? = some l := ⟨_, List.getElem?_eq_getElem (by omega)⟩
    rw [allB_succ hl, List.length_append, ih (by omega), leafB_len]
    omega
/-- the rows and the bytes that are collected: none of their blocks is another's -/
structure Awi (h : Nat) (ls : List Lf) (i : Nat) (v8 v9 : Value) (wr : World) : Prop where
  rows : ∃ xs : List Value, wr.ownsRow h 32 1 v8 i xs ∧ xs.length = i ∧ ∀ (j : Nat) (x : Value) (l : Lf), xs[j]? = some x → ls[j]? = some l → HasP (fun b => h ≤ b ∧ v8.ownBlock ≠ some b ∧ v9.ownBlock ≠ some b) wr x (leafB l)
  all : OwnB h wr v9 (allB ls i)
  ne : ∀ b, v8.ownBlock = some b → v9.ownBlock ≠ some b
theorem HasP.own_lt {p : Nat → Prop} {w : World} {v : Value} {l : By} (h : HasP p w v l) {b : Nat} (hb : v.ownBlock = some b) : p b ∧ b < w.heap.size := by
  rcases h with ⟨rfl, _⟩ | ⟨b', o, c, rfl, h1, h2, _⟩
  · simp [Value.ownBlock] at hb
  · simp only [Value.ownBlock] at hb
    injection hb with hb
    rw [← hb]
    exact ⟨h1, h2⟩
theorem Awi.push {h : Nat} {ls : List Lf} {i : Nat} {l : Lf} {v8 v9 x v8' v9' : Value} {w1 w2 w3 : World} {xs : List Value} (hi : ls[i]? = some l)
    (hrow : w1.ownsRow h 32 1 v8 i xs) (hxs : xs.length = i) (hhas : ∀ (j : Nat) (x : Value) (l : Lf), xs[j]? = some x → ls[j]? = some l → HasP (fun b => h ≤ b ∧ v8.ownBlock ≠ some b ∧ v9.ownBlock ≠ some b) w1 x (leafB l))
    (hall : OwnB h w1 v9 (allB ls i)) (hne : ∀ b, v8.ownBlock = some b → v9.ownBlock ≠ some b) (hx : HasP (fun b => h ≤ b ∧ v8.ownBlock ≠ some b ∧ v9.ownBlock ≠ some b) w1 x (leafB l))
    (hr2 : w2.ownsRow h 32 1 v8' (i + 1) (xs ++ [x])) (hg2 : w1.grownBy w2 v8.ownBlock) (ho2 : v8'.ownBlock = v8.ownBlock ∨ v8'.ownBlock = some w1.heap.size)
    (hr3 : OwnB h w3 v9' (allB ls i ++ leafB l)) (hg3 : w2.grownBy w3 v9.ownBlock) (ho3 : v9'.ownBlock = v9.ownBlock ∨ v9'.ownBlock = some w2.heap.size) : Awi h ls (i + 1) v8' v9' w3 := by
  have hs2 := hg2.size
  have n1 : ∀ b, v8'.ownBlock = some b → v9.ownBlock ≠ some b := fun b hb c => by
    rcases ho2 with e | e
    · exact hne b (e ▸ hb) c
    · rw [e] at hb
      injection hb with hb
      have := (hall.ge c).2
      omega
  have hfar : ∀ {y : Value} {m : By}, HasP (fun b => h ≤ b ∧ v8.ownBlock ≠ some b ∧ v9.ownBlock ≠ some b) w1 y m → HasP (fun b => h ≤ b ∧ v8'.ownBlock ≠ some b ∧ v9'.ownBlock ≠ some b) w3 y m := fun {y m} hy => by
    have k1 : HasP (fun b => (h ≤ b ∧ v8.ownBlock ≠ some b ∧ v9.ownBlock ≠ some b) ∧ b < w1.heap.size) w1 y m := hy.weakB (fun b hb e => ⟨e, hb⟩)
    have k2 := k1.keep hg2.size (fun b hb e => hg2.block b hb (fun c => e.1.2.1 c.symm))
    have k3 := k2.keep hg3.size (fun b hb e => hg3.block b hb (fun c => e.1.2.2 c.symm))
    refine k3.weak (fun b e => ⟨e.1.1, fun c => ?_, fun c => ?_⟩)
    · rcases ho2 with q | q
      · exact e.1.2.1 (q ▸ c)
      · rw [q] at c
        injection c with c
        have := e.2
        omega
    · rcases ho3 with q | q
      · exact e.1.2.2 (q ▸ c)
      · rw [q] at c
        injection c with c
        have := e.2
        omega
  refine ⟨⟨xs ++ [x], row_keep hr2 (fun b hb e => hg3.block b hb (fun c => n1 b e c.symm)), by simp [hxs], fun j y m hj hm => ?_⟩, by rw [allB_succ hi]; exact hr3, fun b hb c => ?_⟩
  · by_cases c : j < xs.length
    · rw [List.getElem?_append_left c] at hj
      exact hfar (hhas j y m hj hm)
    · have hjl := (List.getElem?_eq_some_iff.1 hj).1
      rw [List.length_append, List.length_singleton] at hjl
      obtain rfl : j = i := by omega
      rw [List.getElem?_append_right (by omega), hxs] at hj
      simp at hj
      subst hj
      rw [hi] at hm
      injection hm with hm
      rw [← hm]
      exact hfar hx
  · rcases ho3 with q | q
    · exact n1 b hb (q ▸ c)
    · rw [q] at c
      injection c with c
      have := row_lt hr2 hb
      omega
end Go.Proofs.YtggmdjdflaglpaaGreat
namespace Go.Proofs.YtggmdjdflaglpaaGreat
open Go.RowKit Go.Proofs.YtggmdjdflaglpaaGreat.geo
set_option linter.unusedVariables false
theorem slots_ok (n : Int) (w : World) (h : V n) : Calls Tryz.prog 167 #[.int .i64 n] w fun e w' => e = .returned (.bool true) ∧ w = w' := by
  rcases h with rfl | rfl | rfl <;>
  · go_enter Tryz.func167, Tryz.ntmps167
    go_wp2_with fail
    go_ret
    exact ⟨rfl, rfl⟩
/-- a root as bytes -/
def rootB (c e n : Int) (t : Two) : By := putB c 8 ++ (putB e 4 ++ (putB n 4 ++ pairB t.1 t.2))
theorem rootB_len (c e n : Int) (t : Two) : (rootB c e n t).length = 32 := by simp [rootB, putB_len, pairB_len]
set_option maxHeartbeats 4000000 in
set_option maxRecDepth 100000 in
theorem rput_ok (c ep n : Int) (t : Two) (w : World) (hc : U64 c) (he : 0 ≤ ep ∧ ep < 4294967296) (hn : V n) (ht : U2 t) :
    Calls Tryz.prog 182 #[.agg #[.int .u64 c, .int .u32 ep, .int .i64 n, .int .u64 t.1, .int .u64 t.2]] w fun e w' => ∃ v, e = .returned (.tuple #[v, .bool true]) ∧ OwnB w.heap.size w' v (rootB c ep n t) ∧ Below w.heap.size w w' := by
  have hfin : rootB c ep n t = ([putB c 8, putB ep 4, putB n 4, pairB t.1 t.2] : List By).flatten := by simp [rootB]
  obtain ⟨R, hR⟩ : ∃ R, R = rootB c ep n t := ⟨_, rfl⟩
  rw [← hR] at hfin ⊢
  have his := fun W => slots_ok n W hn
  have hnb : 4 ≤ n ∧ n ≤ 16 := by unfold V at hn; omega
  clear hR hn
  obtain ⟨ta, tb⟩ := t
  simp only at hfin ⊢
  obtain ⟨c0, c1⟩ := hc
  obtain ⟨e0, e1⟩ := he
  obtain ⟨n0, n1⟩ := hnb
  obtain ⟨⟨a0, a1⟩, b0, b1⟩ := ht
  simp only at a0 a1 b0 b1
  have HF := Lib.hid hfin
  clear hfin
  have wn := IntWalk.u64_in n ⟨by omega, by omega⟩
  have we := IntWalk.u64_in ep ⟨by omega, by omega⟩
  obtain ⟨W, hW⟩ : ∃ W, W = w.alloc (.cells #[.int .u64 c, .int .u32 ep, .int .i64 n, .int .u64 ta, .int .u64 tb] 139) := ⟨_, rfl⟩
  have hB : Blk W w.heap.size 139 #[.int .u64 c, .int .u32 ep, .int .i64 n, .int .u64 ta, .int .u64 tb] := by rw [hW]; exact Blk.new w 139 _
  have hbw : Below w.heap.size w W := by rw [hW]; exact (Below.refl _ _).alloc (Nat.le_refl _) _
  go_enter Tryz.func182, Tryz.ntmps182
  go_wp2_with fail
  rw [← hW]
  clear hW
  refine (his _).mono ?_
  rintro e w1 ⟨rfl, rfl⟩
  clear his
  have lB := hB.lt
  have hA := Acc.nil W
  go_wp2_with fail
  replace hB := hB.drew
  replace hbw := hbw.drew
  replace hA : Acc W.drew [] := hA
  go_region_held3 (fun w' => w'.cell? ⟨w.heap.size, 0, none⟩ = some (.int .u64 c) ∧ w'.cell? ⟨w.heap.size, 1, none⟩ = some (.int .u32 ep) ∧ w'.cell? ⟨w.heap.size, 2, none⟩ = some (.int .i64 n) ∧ w'.cell? ⟨w.heap.size, 3, none⟩ = some (.int .u64 ta) ∧ w'.cell? ⟨w.heap.size, 4, none⟩ = some (.int .u64 tb))
    (first | exact ⟨hB.cell_ 0 rfl, hB.cell_ 1 rfl, hB.cell_ 2 rfl, hB.cell_ 3 rfl, hB.cell_ 4 rfl⟩ | exact ⟨(hB.alloc _).cell_ 0 rfl, (hB.alloc _).cell_ 1 rfl, (hB.alloc _).cell_ 2 rfl, (hB.alloc _).cell_ 3 rfl, (hB.alloc _).cell_ 4 rfl⟩)
    (first
      | (go_at_call 87; first
          | ((with_reducible refine (put4_ok _ _ (by omega) (by omega)).mono ?_); rintro e w2 ⟨v2, rfl, o2, q2⟩; obtain ⟨A2, z2, rfl⟩ := o2.has.slice; replace hB := hB.below_ q2; replace hA := (hA.below_ q2).add o2.has.any; replace hbw := hbw.trans (q2.mono hbw.size); clear o2 q2)
          | ((with_reducible refine (put8_ok _ _ (by omega) (by omega)).mono ?_); rintro e w2 ⟨v2, rfl, o2, q2⟩; obtain ⟨A2, z2, rfl⟩ := o2.has.slice; replace hB := hB.below_ q2; replace hA := (hA.below_ q2).add o2.has.any; replace hbw := hbw.trans (q2.mono hbw.size); clear o2 q2))
      | (go_at_call 124; (refine (bytes_ok _ _ _ (by omega) (by omega) (by omega) (by omega)).mono ?_); rintro e w2 ⟨v2, rfl, o2, q2⟩; obtain ⟨A2, z2, rfl⟩ := o2.has.slice; replace hB := hB.below_ q2; replace hA := (hA.below_ q2).add o2.has.any; replace hbw := hbw.trans (q2.mono hbw.size); clear o2 q2)
      | (go_at_call 86; (refine (concat_ok _ _ _ (Acc.rows (hA.alloc _) (Blk.new w2 32 _) rfl (by simp [putB_ne, pairB_ne]) (by simp)) (by simp [total, putB_len, pairB_len])).mono ?_); rintro e w3 ⟨v3, rfl, o3, q3⟩; replace o3 := o3.weak (B' := w.heap.size) (by have := hbw.size; simp; omega); replace hB := (hB.alloc _).below_ q3; replace hbw := (hbw.alloc hbw.size _).trans (q3.mono (by have := hbw.size; simp; omega))))
  have hr : OwnB w.heap.size w3 v3 R := by rw [HF.out]; exact o3
  clear o3 q3 hA hB HF
  go_wp2_with fail
  go_ret2
  exact ⟨_, rfl, hr, hbw⟩
/-- a sealed root as bytes -/
def recB (ep ver : Int) (b : By) (t : Two) : By := putB ep 4 ++ (putB ver 8 ++ (b ++ pairB t.1 t.2))
theorem recB_len (ep ver : Int) (b : By) (t : Two) (hb : b.length = 32) : (recB ep ver b t).length = 60 := by simp [recB, putB_len, pairB_len, hb]
set_option maxHeartbeats 4000000 in
set_option maxRecDepth 100000 in
theorem rrec_ok (p : Nat → Prop) (ep ver : Int) (vb : Value) (b : By) (t : Two) (w : World) (he : 0 ≤ ep ∧ ep < 4294967296) (hv : U64 ver) (hb : HasP p w vb b) (hl : b.length = 32) (ht : U2 t) :
    Calls Tryz.prog 183 #[nv ⟨ep, 65535, ver⟩, .agg #[vb, .int .u64 t.1, .int .u64 t.2]] w fun e w' => ∃ v, e = .returned (.tuple #[v, .bool true]) ∧ OwnB w.heap.size w' v (recB ep ver b t) ∧ Below w.heap.size w w' := by
  have hfin : recB ep ver b t = ([putB ep 4, putB ver 8, b, pairB t.1 t.2] : List By).flatten := by simp [recB]
  obtain ⟨R, hR⟩ : ∃ R, R = recB ep ver b t := ⟨_, rfl⟩
  rw [← hR] at hfin ⊢
  clear hR
  obtain ⟨ta, tb⟩ := t
  unfold nv
  simp only at hfin ⊢
  obtain ⟨e0, e1⟩ := he
  obtain ⟨v0, v1⟩ := hv
  obtain ⟨⟨a0, a1⟩, b0, b1⟩ := ht
  simp only at a0 a1 b0 b1
  obtain ⟨A, cap, rfl⟩ := hb.slice
  have hbl : b ≠ [] := by intro e; rw [e] at hl; simp at hl
  have hbl2 : total [b] = 32 := by simp [total, hl]
  rw [hl] at hb ⊢
  have HF := Lib.hid (And.intro hfin hl)
  clear hfin hl
  have we := IntWalk.u64_in ep ⟨by omega, by omega⟩
  obtain ⟨W, hW⟩ : ∃ W, W = (w.alloc (.cells #[.int .u32 ep, .int .u32 65535, .int .u64 ver] 99)).alloc (.cells #[.slice A 32 cap, .int .u64 ta, .int .u64 tb] 157) := ⟨_, rfl⟩
  have hB : Blk W w.heap.size 99 #[.int .u32 ep, .int .u32 65535, .int .u64 ver] := by rw [hW]; exact (Blk.new w 99 _).alloc _
  have hC : Blk W (w.heap.size + 1) 157 #[.slice A 32 cap, .int .u64 ta, .int .u64 tb] := by
    rw [hW]
    have := Blk.new (w.alloc (.cells #[.int .u32 ep, .int .u32 65535, .int .u64 ver] 99)) 157 #[.slice A 32 cap, .int .u64 ta, .int .u64 tb]
    rw [World.size_alloc] at this
    exact this
  have hbw : Below w.heap.size w W := by rw [hW]; exact ((Below.refl _ _).alloc (Nat.le_refl _) _).alloc (by simp) _
  replace hb := hb.any.below_ hbw
  go_enter Tryz.func183, Tryz.ntmps183
  go_wp2_with fail
  rw [← hW]
  clear hW
  have lB := hB.lt
  have hA := Acc.nil W
  replace hB := hB.drew
  replace hC := hC.drew
  replace hb := hb.drew
  replace hbw := hbw.drew
  replace hA : Acc W.drew [] := hA
  go_region_held3 (fun w' => w'.cell? ⟨w.heap.size, 0, none⟩ = some (.int .u32 ep) ∧ w'.cell? ⟨w.heap.size, 2, none⟩ = some (.int .u64 ver) ∧ w'.cell? ⟨w.heap.size + 1, 0, none⟩ = some (.slice A 32 cap) ∧ w'.cell? ⟨w.heap.size + 1, 1, none⟩ = some (.int .u64 ta) ∧ w'.cell? ⟨w.heap.size + 1, 2, none⟩ = some (.int .u64 tb))
    (first | exact ⟨hB.cell_ 0 rfl, hB.cell_ 2 rfl, hC.cell_ 0 rfl, hC.cell_ 1 rfl, hC.cell_ 2 rfl⟩ | exact ⟨(hB.alloc _).cell_ 0 rfl, (hB.alloc _).cell_ 2 rfl, (hC.alloc _).cell_ 0 rfl, (hC.alloc _).cell_ 1 rfl, (hC.alloc _).cell_ 2 rfl⟩)
    (first
      | (go_at_call 87; first
          | ((with_reducible refine (put4_ok _ _ (by omega) (by omega)).mono ?_); rintro e w2 ⟨v2, rfl, o2, q2⟩; obtain ⟨A2, z2, rfl⟩ := o2.has.slice; replace hB := hB.below_ q2; replace hC := hC.below_ q2; replace hb := hb.below_ q2; replace hA := (hA.below_ q2).add o2.has.any; replace hbw := hbw.trans (q2.mono hbw.size); clear o2 q2)
          | ((with_reducible refine (put8_ok _ _ (by omega) (by omega)).mono ?_); rintro e w2 ⟨v2, rfl, o2, q2⟩; obtain ⟨A2, z2, rfl⟩ := o2.has.slice; replace hB := hB.below_ q2; replace hC := hC.below_ q2; replace hb := hb.below_ q2; replace hA := ((hA.below_ q2).add o2.has.any).add hb; replace hbw := hbw.trans (q2.mono hbw.size); clear o2 q2))
      | (go_at_call 124; (refine (bytes_ok _ _ _ (by omega) (by omega) (by omega) (by omega)).mono ?_); rintro e w2 ⟨v2, rfl, o2, q2⟩; obtain ⟨A2, z2, rfl⟩ := o2.has.slice; replace hB := hB.below_ q2; replace hC := hC.below_ q2; replace hb := hb.below_ q2; replace hA := (hA.below_ q2).add o2.has.any; replace hbw := hbw.trans (q2.mono hbw.size); clear o2 q2)
      | (go_at_call 86; (refine (concat_ok _ _ _ (Acc.rows (hA.alloc _) (Blk.new w2 32 _) rfl (by simp [putB_ne, pairB_ne, hbl]) (by simp)) (by simp [total, putB_len, pairB_len, HF.out.2])).mono ?_); rintro e w3 ⟨v3, rfl, o3, q3⟩; replace o3 := o3.weak (B' := w.heap.size) (by have := hbw.size; simp; omega); replace hB := (hB.alloc _).below_ q3; replace hC := (hC.alloc _).below_ q3; replace hbw := (hbw.alloc hbw.size _).trans (q3.mono (by have := hbw.size; simp; omega))))
  have hr : OwnB w.heap.size w3 v3 R := by rw [HF.out.1]; exact o3
  clear o3 q3 hA hB hC hb
  go_wp2_with fail
  go_ret2
  exact ⟨_, rfl, hr, hbw⟩
end Go.Proofs.YtggmdjdflaglpaaGreat
namespace Go.Proofs.YtggmdjdflaglpaaGreat
open Go.RowKit Go.Proofs.YtggmdjdflaglpaaGreat.geo
set_option linter.unusedVariables false
theorem Blk.ste {T : Nat → Prop} {ρ ρ' : Rl} {w w' : World} {g : Nat} {t : TypeId} {cs : Array Value} (h : Blk w g t cs) (hs : Ste T ρ w ρ' w') (hT : ¬ T (ρ g)) : Blk w' g t cs := (hs.ch.keep g h.lt hT).trans h
theorem HasP.ste {r : Nat} {T : Nat → Prop} {ρ ρ' : Rl} {w w' : World} {v : Value} {l : By} (h : HasP (ρ · = r) w v l) (hs : Ste T ρ w ρ' w') (hT : ¬ T r) : HasP (ρ' · = r) w' v l :=
  ((h.weakB (q := fun b => ρ b = r ∧ ρ' b = r) (fun b hb e => ⟨e, (hs.old b hb).trans e⟩)).keep hs.size (fun b hb e => hs.ch.keep b hb (by rw [e.1]; exact hT))).weak (fun b e => e.2)
theorem OwnB.zero {ρ : Rl} {w w' : World} {v : Value} {l : By} (h : OwnB w.heap.size w' v l) (hf : Fresh ρ w) : HasP (ρ · = 0) w' v l := h.has.weak (fun b e => hf b e)
theorem s6of {w : World} {wl l g1 g2 : Nat} {x0 x1 x2 x3 x4 x5 : Value} {ka kb ne ns nr : Int} (b0 : Blk w wl 70 #[x0, x1, x2, x3, x4, x5, .pointer (some ⟨l, 0, none⟩)]) (b1 : Blk w g1 101 #[.int .u64 ka, .int .u64 kb]) (b2 : Blk w g2 99 #[.int .u32 ne, .int .u32 ns, .int .u64 nr]) :
    w.cell? ⟨wl, 6, none⟩ = some (.pointer (some ⟨l, 0, none⟩)) ∧ w.cell? ⟨g1, 0, none⟩ = some (.int .u64 ka) ∧ w.cell? ⟨g1, 1, none⟩ = some (.int .u64 kb) ∧ w.cell? ⟨g2, 0, none⟩ = some (.int .u32 ne) ∧ w.cell? ⟨g2, 1, none⟩ = some (.int .u32 ns) ∧ w.cell? ⟨g2, 2, none⟩ = some (.int .u64 nr) :=
  ⟨b0.cell_ 6 rfl, b1.cell_ 0 rfl, b1.cell_ 1 rfl, b2.cell_ 0 rfl, b2.cell_ 1 rfl, b2.cell_ 2 rfl⟩
theorem Blk.far3 {w : World} {g t : Nat} {cs : Array Value} (h : Blk w g t cs) {x : Nat} (hx : g ≠ x) (u v y : Value) : Blk (((w.setCell ⟨x, 0, none⟩ u).setCell ⟨x, 1, none⟩ v).setCell ⟨x, 2, none⟩ y) g t cs :=
  ((h.far (p := ⟨x, 0, none⟩) hx u).far (p := ⟨x, 1, none⟩) hx v).far (p := ⟨x, 2, none⟩) hx y
theorem only_set3 (w : World) (g : Nat) (u v y : Value) : w.grownBy (((w.setCell ⟨g, 0, none⟩ u).setCell ⟨g, 1, none⟩ v).setCell ⟨g, 2, none⟩ y) (some g) := only_setCell (only_set2 w g 0 1 u v) (p := ⟨g, 2, none⟩) (.inl rfl) y
theorem in_of {r : By} {n c L s : Nat} (hr : r.length = 60) (hL : L = s * 160 + 120) (hn : n = s) (hm : c ≤ 1) : (⟨((n * 160 + c * 60 : Nat) : Int), r⟩ : Opn).in_ L := by
  refine ⟨by show (0 : Int) ≤ ((n * 160 + c * 60 : Nat) : Int); omega, ?_, fun e => ?_⟩
  · show ((n * 160 + c * 60 : Nat) : Int) + (r.length : Int) ≤ (L : Int)
    rw [hr]
    omega
  · have e' : r = [] := e
    rw [e'] at hr
    simp at hr
theorem rtW0 : ¬ rtW 0 := by unfold rtW; decide
theorem rtW17 : ¬ rtW 17 := by unfold rtW; decide
theorem rtWm : ¬ rtW rMkr := by unfold rtW; decide
/-- what log.Put seals, and where it writes it -/
def rdat (W : Wld) (c : Nat) (t : Two) : By := rootB c W.kys.cur W.slots t
def rrec (W : Wld) (M : Mk) (c : Nat) (t : Two) : By := recB W.kys.cur (M.nonce W.kys.cur 65535).ver (W.lk.shut W.curKey (M.nonce W.kys.cur 65535) [] (rdat W c t)).1 (W.lk.shut W.curKey (M.nonce W.kys.cur 65535) [] (rdat W c t)).2
def rlck (W : Wld) (M : Mk) (c : Nat) (t : Two) : Wld := W.lck (W.lk.shutd W.curKey (M.nonce W.kys.cur 65535) [] (rdat W c t))
def roff (W : Wld) (c : Nat) : Nat := W.slots * 160 + c % 2 * 60
def lgput (W : Wld) (M : Mk) (c : Nat) (t : Two) : Int × Wld × Mk :=
  if M.n = 100 then (6, W, M) else ((if (spend W.pow).2 then 0 else 7), (rlck W M c t).swr (roff W c) (rrec W M c t), M.up)
def rtLog (r : Nat) : Prop := rtW r ∨ r = rMkr
/-- sizes that hold throughout -/
structure Wld.fit (W : Wld) (k : Nat) : Prop where
  geo : V W.slots
  size : W.ssd.lasts.length = W.slots * 160 + 120
  ssd : W.ssd.cnt ≤ k
  dsk : W.dsk.cnt ≤ k
  lk : W.lk.lim k
  cnt : W.cnt.value ≤ k ∧ W.cnt.boots ≤ k
  kys : W.kys.a ≤ k
  wts : ∀ o ∈ W.ssd.waits, o.in_ W.ssd.lasts.length
theorem Wld.curKey_u (W : Wld) (h : W.kys.a ≤ 1000000) : U2 W.curKey := keyOf_u _ _ ⟨by omega, by have := W.kys.cur_le h; omega⟩
/-- what is there when the root is sealed -/
structure Lq (ρ : Rl) (w : World) (a : Ads) (m : Nat) (g2 x : Nat) (W : Wld) (M : Mk) (cs : Array Value) (ne ns nr : Int) (v : Value) (ob : By) (oa oc : Int) (ρ' : Rl) (w' : World) : Prop where
  bx : Blk w' x 157 #[v, .int .u64 oa, .int .u64 oc]
  wd : WldR ρ' w' a W
  mm : MkR ρ' w' m M
  bh : Blk w' w.heap.size 139 cs
  bn : Blk w' g2 99 #[.int .u32 ne, .int .u32 ns, .int .u64 nr]
  ov : HasP (ρ' · = 0) w' v ob
  st : Ste rtLog ρ w ρ' w'
  zh : ρ' w.heap.size = 0
theorem Lq.of_alloc {ρ : Rl} {w : World} {a : Ads} {m g2 : Nat} {W : Wld} {M : Mk} {cs : Array Value} {ne ns nr : Int} {v : Value} {ob : By} {oa oc : Int} {ρ' : Rl} {w' : World}
    (wd : WldR ρ' w' a W) (mk : MkR ρ' w' m M) (bh : Blk w' w.heap.size 139 cs) (bn : Blk w' g2 99 #[.int .u32 ne, .int .u32 ns, .int .u64 nr]) (ov : HasP (ρ' · = 0) w' v ob) (st : Ste rtLog ρ w ρ' w') (zh : ρ' w.heap.size = 0) :
    Lq ρ w a m g2 w'.heap.size W M cs ne ns nr v ob oa oc ρ' (w'.alloc (.cells #[v, .int .u64 oa, .int .u64 oc] 157)) :=
  ⟨Blk.new w' 157 _, wd.alloc _, mk.below_ ((Below.refl _ _).alloc (Nat.le_refl _) _), bh.alloc _, bn.alloc _, ov.alloc _, st.trans (Ste.of_below ((Below.refl _ _).alloc (Nat.le_refl _) _) st.fresh), zh⟩
theorem Lq.of_set {ρ : Rl} {w : World} {a : Ads} {m g2 x : Nat} {W : Wld} {M : Mk} {cs : Array Value} {ne ns nr : Int} {v : Value} {ob : By} {oa oc : Int} {ρ' : Rl} {w' : World} {z0 z1 z2 : Value}
    (bx : Blk w' x 157 #[z0, z1, z2]) (hz : ρ' x = 0) (hx : w.heap.size < x) (hg : g2 ≠ x) (wd : WldR ρ' w' a W) (mk : MkR ρ' w' m M) (bh : Blk w' w.heap.size 139 cs) (bn : Blk w' g2 99 #[.int .u32 ne, .int .u32 ns, .int .u64 nr]) (ov : HasP (fun b => ρ' b = 0 ∧ b ≠ x) w' v ob) (st : Ste rtLog ρ w ρ' w') (zh : ρ' w.heap.size = 0) :
    Lq ρ w a m g2 x W M cs ne ns nr v ob oa oc ρ' (((w'.setCell ⟨x, 0, none⟩ v).setCell ⟨x, 1, none⟩ (.int .u64 oa)).setCell ⟨x, 2, none⟩ (.int .u64 oc)) := by
  have g := only_set3 w' x v (.int .u64 oa) (.int .u64 oc)
  have hk : ∀ b, b < w'.heap.size → b ≠ x → _ := fun b hb e => g.block b hb (fun c => e (by injection c))
  refine ⟨((bx.set_to 0 v (cs' := #[v, z1, z2]) rfl).set_to 1 _ (cs' := #[v, .int .u64 oa, z2]) rfl).set_to 2 _ rfl, wd.keep g.size (fun b hb e => ⟨hk b hb (fun c => by rw [c, hz] at e; unfold rsW at e; omega), rfl⟩), mk.keep ⟨hk m mk.1.lt (fun c => by have := mk.2.1; rw [c, hz] at this; exact absurd this (by decide)), rfl⟩,
    bh.far3 (by omega) _ _ _, bn.far3 hg _ _ _, (ov.keep g.size (fun b hb e => hk b hb e.2)).weak (fun b e => e.1), ?_, zh⟩
  have hch : Ch (fun i => rtLog (ρ i)) w _ := st.ch.then_only g (by omega)
  exact ⟨hch, st.old, fun i hi => st.fresh i (Nat.le_trans g.size hi)⟩
set_option maxHeartbeats 8000000 in
set_option maxRecDepth 100000 in
theorem lgput_full (ρ : Rl) (a : Ads) (W : Wld) (m : Nat) (M : Mk) (c : Nat) (t : Two) (w : World) (hf : Fresh ρ w) (h : WldR ρ w a W) (hm : MkR ρ w m M) (hn : M.n = 100) (hfit : W.fit 800000) (hc : c < 4294967296) (ht : U2 t) :
    Calls Tryz.prog 172 #[.pointer (some ⟨a.wl, 0, none⟩), .pointer (some ⟨m, 0, none⟩), .agg #[.int .u64 c, .int .u32 W.kys.cur, .int .i64 W.slots, .int .u64 t.1, .int .u64 t.2]] w fun e w' => e = .returned (.int .i64 6) ∧ Below w.heap.size w w' := by
  have hV := hfit.geo
  have hcl := W.kys.cur_le (Nat.le_trans hfit.kys (by omega))
  have hrp := fun W1 => rput_ok (c : Int) (W.kys.cur : Int) (W.slots : Int) t W1 ⟨by omega, by omega⟩ ⟨by omega, by omega⟩ hV ht
  obtain ⟨W1, hW1⟩ : ∃ W1, W1 = w.alloc (.cells #[.int .u64 c, .int .u32 W.kys.cur, .int .i64 W.slots, .int .u64 t.1, .int .u64 t.2] 139) := ⟨_, rfl⟩
  have hB : Blk W1 w.heap.size 139 #[.int .u64 c, .int .u32 W.kys.cur, .int .i64 W.slots, .int .u64 t.1, .int .u64 t.2] := by rw [hW1]; exact Blk.new w 139 _
  have hbw : Below w.heap.size w W1 := by rw [hW1]; exact (Below.refl _ _).alloc (Nat.le_refl _) _
  have h1 := h.below_ hbw
  have hm1 := hm.below_ hbw
  have hky := fun W' hh => wkey_ok ρ a W W' hh
  have hnx := fun W' hh => mnext_no ρ m M W.kys.cur 65535 W' hh hn (by omega)
  have HW := Lib.hid (And.intro h1 hm1)
  obtain ⟨n, hn'⟩ : ∃ n, n = W.slots := ⟨_, rfl⟩
  obtain ⟨cu, hcu⟩ : ∃ cu, cu = W.kys.cur := ⟨_, rfl⟩
  obtain ⟨ta, tb⟩ := t
  unfold pv at hky
  obtain ⟨kk, hkk⟩ : ∃ kk, kk = W.curKey := ⟨_, rfl⟩
  rw [← hkk] at hky
  obtain ⟨ka, kb⟩ := kk
  simp only at hrp hB hW1 hky ⊢
  rw [← hn', ← hcu] at hrp hB hW1 ⊢
  rw [← hcu] at hky hnx
  have HN := Lib.hid (And.intro hn' (And.intro hcu hkk))
  clear h hm hn' hcu hkk hV h1 hm1 hfit
  go_enter Tryz.func172, Tryz.ntmps172
  go_wp2_with fail
  rw [← hW1]
  clear hW1
  refine (hrp _).mono ?_
  rintro e w1 ⟨v1, rfl, o1, q1⟩
  replace hB := hB.below_ q1
  replace hbw := hbw.trans (q1.mono hbw.size)
  have hw1 := HW.out.1.below_ q1
  have hm1 := HW.out.2.below_ q1
  have c0 : w1.cell? ⟨a.wl, 0, none⟩ = some (.int .i64 n) := by rw [HN.out.1]; exact hw1.1.cell_ 0 rfl
  have c2 := hB.cell_ 2 rfl
  have l0 := hw1.1.lt
  have l2 := hB.lt
  have HW1 := Lib.hid (And.intro hw1 hm1)
  clear hrp hw1 hm1 o1 q1
  go_wp2_with fail
  go_quiet (fail)
  go_wp2_with fail
  refine (hky _ (HW1.out.1.below_ (below_drewN (Below.refl _ _) _))).mono ?_
  rintro e w2 ⟨rfl, q2⟩
  have hbw2 := (below_drewN hbw _).trans (q2.mono hbw.size)
  have hm2 := (HW1.out.2.below_ (below_drewN (Below.refl _ _) _)).below_ q2
  clear hky q2 hbw c0 c2 l0 l2
  go_wp2_with fail
  refine (hnx _ (hm2.below_ ((Below.refl _ _).alloc (Nat.le_refl _) _))).mono ?_
  rintro e w3 ⟨rfl, q3⟩
  clear hnx
  have hbw3 := (hbw2.alloc hbw2.size _).trans (q3.mono (by have := hbw2.size; simp; omega))
  clear q3 hbw2 hm2
  go_wp2_with fail
  go_ret
  exact ⟨rfl, hbw3.alloc hbw3.size _⟩
set_option maxHeartbeats 8000000 in
set_option maxRecDepth 100000 in
theorem lgput_ok (HS : ShutOk) (ρ : Rl) (a : Ads) (W : Wld) (m : Nat) (M : Mk) (c : Nat) (t : Two) (w : World) (hf : Fresh ρ w) (h : WldR ρ w a W) (hm : MkR ρ w m M) (hn : M.n < 100) (hfit : W.fit 800000) (hc : c < 4294967296) (ht : U2 t) :
    Calls Tryz.prog 172 #[.pointer (some ⟨a.wl, 0, none⟩), .pointer (some ⟨m, 0, none⟩), .agg #[.int .u64 c, .int .u32 W.kys.cur, .int .i64 W.slots, .int .u64 t.1, .int .u64 t.2]] w fun e w' =>
      e = .returned (.int .i64 (if (spend W.pow).2 then 0 else 7)) ∧ ∃ ρ', WldR ρ' w' a ((rlck W M c t).swr (roff W c) (rrec W M c t)) ∧ MkR ρ' w' m M.up ∧ Ste rtLog ρ w ρ' w' := by
  have hV := hfit.geo
  have hcl := W.kys.cur_le (Nat.le_trans hfit.kys (by omega))
  have hrp := fun W1 => rput_ok (c : Int) (W.kys.cur : Int) (W.slots : Int) t W1 ⟨by omega, by omega⟩ ⟨by omega, by omega⟩ hV ht
  obtain ⟨W1, hW1⟩ : ∃ W1, W1 = w.alloc (.cells #[.int .u64 c, .int .u32 W.kys.cur, .int .i64 W.slots, .int .u64 t.1, .int .u64 t.2] 139) := ⟨_, rfl⟩
  have hB : Blk W1 w.heap.size 139 #[.int .u64 c, .int .u32 W.kys.cur, .int .i64 W.slots, .int .u64 t.1, .int .u64 t.2] := by rw [hW1]; exact Blk.new w 139 _
  have hbw : Below w.heap.size w W1 := by rw [hW1]; exact (Below.refl _ _).alloc (Nat.le_refl _) _
  have h1 := h.below_ hbw
  have hm1 := hm.below_ hbw
  have hky := fun W' hh => wkey_ok ρ a W W' hh
  have hno := M.nonce_ok W.kys.cur 65535 (by omega) (by omega) hm.2.2.1 hm.2.2.2
  have hnx : ∀ W', Fresh ρ W' → MkR ρ W' m M → Calls Tryz.prog 155 #[.pointer (some ⟨m, 0, none⟩), .int .u32 W.kys.cur, .int .i64 65535] W' fun e w' => e = .returned (.tuple #[nv (M.nonce W.kys.cur 65535), .int .i64 0]) ∧ MkR ρ w' m M.up ∧ Ste (· = rMkr) ρ W' ρ w' := fun W' h1 hh => mnext_ok ρ m M W.kys.cur 65535 W' h1 hh hn (by omega) (by omega)
  have hfr : ∀ b, w.heap.size ≤ b → ρ b = 0 := hf
  have hR : rdat W c t = rootB c W.kys.cur W.slots t := rfl
  have hsh := fun W' vd h1 h2 hd => wshut_ok ρ a W W' HS (fun _ => True) (ρ · = 0) W.curKey (M.nonce W.kys.cur 65535) (.slice none 0 0) [] vd (rdat W c t) h1 h2 (W.curKey_u (Nat.le_trans hfit.kys (by omega))) hno (.inl ⟨rfl, rfl⟩) hd (by simp) (by rw [hR, rootB_len]) (Lk.lim_mono hfit.lk (by omega))
  have HW := Lib.hid (And.intro h1 (And.intro hm1 hfit))
  obtain ⟨n, hn'⟩ : ∃ n, n = W.slots := ⟨_, rfl⟩
  obtain ⟨cu, hcu⟩ : ∃ cu, cu = W.kys.cur := ⟨_, rfl⟩
  obtain ⟨D, hD⟩ : ∃ D, D = rdat W c t := ⟨_, rfl⟩
  rw [← hD] at hR hsh
  rw [← hR] at hrp
  obtain ⟨No, hNo⟩ : ∃ No, No = M.nonce W.kys.cur 65535 := ⟨_, rfl⟩
  obtain ⟨kk, hkk⟩ : ∃ kk, kk = W.curKey := ⟨_, rfl⟩
  obtain ⟨ot, hot⟩ : ∃ ot, ot = W.lk.shut W.curKey (M.nonce W.kys.cur 65535) [] D := ⟨_, rfl⟩
  rw [← hNo] at hsh hnx hot hno
  rw [← hkk] at hky hsh hot
  rw [← hot] at hsh
  unfold pv at hky hsh
  unfold nv at hnx hsh
  obtain ⟨ka, kb⟩ := kk
  obtain ⟨ne, ns, nr⟩ := No
  obtain rfl : ns = 65535 := congrArg Nce.slot hNo
  obtain ⟨ob, oa, oc⟩ := ot
  obtain ⟨ta, tb⟩ := t
  simp only at hrp hB hW1 hky hnx hsh ⊢
  rw [← hn', ← hcu] at hrp hB hW1 ⊢
  rw [← hcu] at hky hnx
  have HN := Lib.hid (And.intro hn' (And.intro hcu (And.intro hD (And.intro hNo (And.intro hkk (And.intro hot (And.intro hR hno)))))))
  clear h hm hn' hcu hkk hV h1 hm1 hfit hD hNo hot hR hno
  cases hsp : (spend W.pow).2
  all_goals
    have HSP := Lib.hid hsp
    clear hsp
    go_enter Tryz.func172, Tryz.ntmps172
    go_wp2_with fail
    rw [← hW1]
    refine (hrp _).mono ?_
    rintro e w1 ⟨v1, rfl, o1, q1⟩
    have hf1 : Fresh ρ W1 := fun i hi => hfr i (Nat.le_trans hbw.size hi)
    have hd1 := o1.zero hf1
    replace hB := hB.below_ q1
    replace hbw := hbw.trans (q1.mono hbw.size)
    have hw1 := HW.out.1.below_ q1
    have hm1 := HW.out.2.1.below_ q1
    have c0 : w1.cell? ⟨a.wl, 0, none⟩ = some (.int .i64 n) := by rw [HN.out.1]; exact hw1.1.cell_ 0 rfl
    have c2 := hB.cell_ 2 rfl
    have l0 := hw1.1.lt
    have l2 := hB.lt
    have HW1 := Lib.hid (And.intro hw1 hm1)
    clear hrp hw1 hm1 o1 q1 hW1
    go_wp2_with fail
    go_quiet (fail)
    go_wp2_with fail
    refine (hky _ (HW1.out.1.below_ (below_drewN (Below.refl _ _) _))).mono ?_
    rintro e w2 ⟨rfl, q2⟩
    have hbw2 := (below_drewN hbw _).trans (q2.mono hbw.size)
    have hw2 := (HW1.out.1.below_ (below_drewN (Below.refl _ _) _)).below_ q2
    have hm2 := (HW1.out.2.below_ (below_drewN (Below.refl _ _) _)).below_ q2
    have hB2 := Blk.below_ (Blk.drewN hB _) q2
    have hgw := hB2.lt
    have hd2 := HasP.below_ (HasP.drewN hd1 _) q2
    clear hky q2 hbw c0 c2 l0 l2 HW1 hB hd1
    go_wp2_with fail
    obtain ⟨W2, hW2⟩ : ∃ W2, W2 = w2.alloc (.cells #[.int .u64 ka, .int .u64 kb] 101) := ⟨_, rfl⟩
    obtain ⟨g1, hg1⟩ : ∃ g1, g1 = w2.heap.size := ⟨_, rfl⟩
    have hK : Blk W2 g1 101 #[.int .u64 ka, .int .u64 kb] := by rw [hW2, hg1]; exact Blk.new w2 101 _
    have hz1 : ρ g1 = 0 := hfr _ (by rw [hg1]; exact hbw2.size)
    replace hbw2 := hbw2.alloc hbw2.size (.cells #[.int .u64 ka, .int .u64 kb] 101)
    replace hw2 := hw2.alloc (.cells #[.int .u64 ka, .int .u64 kb] 101)
    replace hm2 := hm2.below_ ((Below.refl _ _).alloc (Nat.le_refl _) (.cells #[.int .u64 ka, .int .u64 kb] 101))
    replace hB2 := hB2.alloc (.cells #[.int .u64 ka, .int .u64 kb] 101)
    replace hd2 := hd2.alloc (.cells #[.int .u64 ka, .int .u64 kb] 101)
    rw [← hW2] at hbw2 hw2 hm2 hB2 hd2
    rw [← hW2, ← hg1]
    have hf2 : Fresh ρ W2 := fun i hi => hfr i (Nat.le_trans hbw2.size hi)
    have hst2 : Ste rtLog ρ w ρ W2 := Ste.of_below hbw2 hf
    have hng : w.heap.size ≠ g1 := fun e => by have := hbw2.size; have h2 := hB2.lt; rw [hg1] at e; have h3 := hgw; omega
    clear hW2 hg1 hbw2
    refine (hnx _ hf2 hm2).mono ?_
    rintro e w3 ⟨rfl, hm3, s3⟩
    clear hnx
    have hw3 := hw2.ste s3 (fun r e c => by rw [e] at c; unfold rsW at c; revert c; decide)
    have hB3 := hB2.ste s3 (by rw [hfr _ (Nat.le_refl _)]; decide)
    have hK3 := hK.ste s3 (by rw [hz1]; decide)
    have hd3 := hd2.ste s3 (by decide)
    have hst3 : Ste rtLog ρ w ρ w3 := hst2.trans (s3.mono (fun r e => .inr e))
    clear hw2 hB2 hK hd2 hst2 hm2 s3 hf2
    go_wp2_with fail
    obtain ⟨W4, hW4⟩ : ∃ W4, W4 = w3.alloc (.cells #[.int .u32 ne, .int .u32 65535, .int .u64 nr] 99) := ⟨_, rfl⟩
    obtain ⟨g2, hg2⟩ : ∃ g2, g2 = w3.heap.size := ⟨_, rfl⟩
    have hN : Blk W4 g2 99 #[.int .u32 ne, .int .u32 65535, .int .u64 nr] := by rw [hW4, hg2]; exact Blk.new w3 99 _
    have hz2 : ρ g2 = 0 := hfr _ (by rw [hg2]; exact hst3.size)
    have q4 : Below w3.heap.size w3 W4 := by rw [hW4]; exact (Below.refl _ _).alloc (Nat.le_refl _) _
    have hw4 := hw3.below_ q4
    have hm4 := hm3.below_ q4
    have hB4 := hB3.below_ q4
    have hK4 := hK3.below_ q4
    have hd4 := hd3.below_ q4
    have hst4 := hst3.trans (Ste.of_below (T := rtLog) q4 hst3.fresh)
    have hf4 := hst4.fresh
    rw [← hW4, ← hg2]
    have hwl : a.wl ≠ g1 := fun e => by have h17 := hw4.2.1; rw [e, hz1] at h17; exact absurd h17 (by decide)
    have hwl2 : a.wl ≠ g2 := fun e => by have h17 := hw4.2.1; rw [e, hz2] at h17; exact absurd h17 (by decide)
    have h12 : g1 ≠ g2 := fun e => by have := hK3.lt; rw [e, hg2] at this; exact absurd this (Nat.lt_irrefl _)
    have hws : w.heap.size < W4.heap.size := hB4.lt
    clear hW4 hg2 hw3 hm3 hB3 hK3 hd3 hst3 q4
    have hb0 := hw4.1
    have HX := Lib.hid (And.intro hw4 (And.intro hm4 (And.intro hB4 (And.intro hd4 hst4))))
    have hcA := hsh W4.drew v1 hf4 hw4.drew hd4.drew
    have hcB := hsh (W4.alloc (.cells #[.slice none 0 0, .int .u64 0, .int .u64 0] 157)).drew v1 (fun i hi => hf4 i (by simp at hi; omega)) (hw4.alloc _).drew (hd4.alloc _).drew
    clear hsh
    have p6 := s6of hb0 hK4 hN
    go_region_held3 (fun w' => w'.cell? ⟨a.wl, 6, none⟩ = some (.pointer (some ⟨a.l, 0, none⟩)) ∧ w'.cell? ⟨g1, 0, none⟩ = some (.int .u64 ka) ∧ w'.cell? ⟨g1, 1, none⟩ = some (.int .u64 kb) ∧ w'.cell? ⟨g2, 0, none⟩ = some (.int .u32 ne) ∧ w'.cell? ⟨g2, 1, none⟩ = some (.int .u32 65535) ∧ w'.cell? ⟨g2, 2, none⟩ = some (.int .u64 nr))
      (first | (with_reducible exact s6of hb0 hK4 hN) | (with_reducible exact s6of hb0.drew hK4.drew hN.drew) | (with_reducible exact s6of (hb0.alloc _) (hK4.alloc _) (hN.alloc _)) | (with_reducible exact s6of (hb0.alloc _).drew (hK4.alloc _).drew (hN.alloc _).drew) | (with_reducible exact s6of (hb0.far3 hx0 _ _ _) (hK4.far3 hx1 _ _ _) (hN.far3 hx2 _ _ _)))
      (first
        | (go_at_call 156; (with_reducible refine hcA.mono ?_); rintro e w5 ⟨v5, rfl, ρ5, o5, hw5, s5⟩; obtain ⟨A5, z5, rfl⟩ := o5.slice; have t5 : Ste rtW ρ W4 ρ5 w5 := (Ste.of_below (Below.refl _ _).drew hf4).trans s5; replace hb0 := hw5.1; replace hK4 := hK4.ste t5 (by rw [hz1]; exact rtW0); replace hN := hN.ste t5 (by rw [hz2]; exact rtW0))
        | (go_at_call 156; (with_reducible refine hcB.mono ?_); rintro e w5 ⟨v5, rfl, ρ5, o5, hw5, s5⟩; obtain ⟨A5, z5, rfl⟩ := o5.slice; have t5 : Ste rtW ρ W4 ρ5 w5 := (Ste.of_below ((Below.refl _ _).alloc (Nat.le_refl _) _).drew hf4).trans s5; have hx0 : a.wl ≠ W4.heap.size := Nat.ne_of_lt hb0.lt; have hx1 : g1 ≠ W4.heap.size := Nat.ne_of_lt hK4.lt; have hx2 : g2 ≠ W4.heap.size := Nat.ne_of_lt hN.lt; replace hb0 := hw5.1; replace hK4 := hK4.ste t5 (by rw [hz1]; exact rtW0); replace hN := hN.ste t5 (by rw [hz2]; exact rtW0); have hzx : ρ W4.heap.size = 0 := hf4 _ (Nat.le_refl _); have bX := (Blk.new W4 157 #[.slice none 0 0, .int .u64 0, .int .u64 0]).drew.ste s5 (by rw [hzx]; exact rtW0); have x0 := bX.cell_ 0 rfl; have x1 := bX.cell_ 1 rfl; have x2 := bX.cell_ 2 rfl; have y0 := bX.frozen 0; have y1 := bX.frozen 1; have y2 := bX.frozen 2; have yl := bX.lt))
    all_goals
      have hm5 := HX.out.2.1.ste t5 rtWm
      have bh5 := HX.out.2.2.1.ste t5 (by rw [hfr _ (Nat.le_refl _)]; exact rtW0)
      have st5 := HX.out.2.2.2.2.trans (t5.mono (T' := rtLog) (fun r e => .inl e))
      have hws5 := t5.size
      have hz5 := (t5.old _ hws).trans (hfr _ (Nat.le_refl _))
    refine gen_world (F := fun W6 => Lq ρ w a m g2 w5.heap.size (W.lck (W.lk.shutd (ka, kb) ⟨ne, 65535, nr⟩ [] D)) M.up #[.int .u64 c, .int .u32 cu, .int .i64 n, .int .u64 ta, .int .u64 tb] ne 65535 nr (.slice A5 ob.length z5) ob oa oc ρ5 W6) (Lq.of_alloc hw5 hm5 bh5 hN (o5.weak (fun b e => e.2)) st5 hz5) ?_
    obtain ⟨x, hx⟩ : ∃ x, x = w5.heap.size := ⟨_, rfl⟩
    rw [← hx]
    clear hx
    rotate_left 1
    refine gen_world (F := fun W6 => Lq ρ w a m g2 W4.heap.size (W.lck (W.lk.shutd (ka, kb) ⟨ne, 65535, nr⟩ [] D)) M.up #[.int .u64 c, .int .u32 cu, .int .i64 n, .int .u64 ta, .int .u64 tb] ne 65535 nr (.slice A5 ob.length z5) ob oa oc ρ5 W6) (Lq.of_set bX ((s5.old _ (by simp)).trans hzx) hws hx2 hw5 hm5 bh5 hN (o5.weak (fun b e => ⟨e.2, fun c => by have := e.1; rw [c] at this; simp at this; omega⟩)) st5 hz5) ?_
    obtain ⟨x, hx⟩ : ∃ x, x = W4.heap.size := ⟨_, rfl⟩
    rw [← hx]
    clear hx
    rotate_left 1
    all_goals
      intro W6 hL
      have HL := Lib.hid hL
      obtain ⟨bx, wd, mm, bh, bn, ov, st⟩ := hL
      have hno := HN.out.2.2.2.2.2.2.2
      have hfit := HW.out.2.2
      have hot := HN.out.2.2.2.2.2.1
      have hDl : D.length = 32 := by rw [HN.out.2.2.2.2.2.2.1]; exact rootB_len _ _ _ _
      have hob : ob.length = 32 := by have := Lk.shut_len W.lk W.curKey (M.nonce W.kys.cur 65535) [] D hDl; rw [← HN.out.2.2.2.1, ← HN.out.2.2.2.2.1, ← hot] at this; exact this
      have hou : U2 (oa, oc) := by have := Lk.shut_u hfit.lk (by omega) W.curKey (M.nonce W.kys.cur 65535) [] D; rw [← HN.out.2.2.2.1, ← HN.out.2.2.2.2.1, ← hot] at this; exact this
      have hrc := rrec_ok (ρ5 · = 0) ne nr (.slice A5 ob.length z5) ob (oa, oc) W6 hno.1 hno.2.2 ov hob hou
      unfold nv at hrc
      simp only at hrc
      have hst6 := st.fresh
      have n0 := bn.cell_ 0 rfl
      have n1 := bn.cell_ 1 rfl
      have n2 := bn.cell_ 2 rfl
      have x0' := bx.cell_ 0 rfl
      have x1' := bx.cell_ 1 rfl
      have x2' := bx.cell_ 2 rfl
      have nl := bn.lt
      have xl := bx.lt
      have HOB := Lib.hid hob
      clear bx bn ov hno hfit hot hou wd mm bh st hob hDl
      go_wp2_with fail
      refine hrc.mono ?_
      rintro e w7 ⟨v7, rfl, o7, q7⟩
      have hw7 := HL.out.wd.below_ q7
      have bh7 := HL.out.bh.below_ q7
      have hv7 := (o7.zero hst6).weak (q := fun i => ¬ rtW (ρ5 i)) (fun b e => by rw [e]; exact rtW0)
      have hf7 : Fresh ρ5 w7 := fun i hi => hst6 i (Nat.le_trans q7.size hi)
      have HQ := Lib.hid q7
      have hzh : ¬ rtW (ρ5 w.heap.size) := by rw [HL.out.zh]; exact rtW0
      have hb7 := hw7.1
      clear hrc n0 n1 n2 x0' x1' x2' nl xl o7 q7
      have hpl := fun w' hh => place_ok ρ5 a (W.lck (W.lk.shutd (ka, kb) ⟨ne, 65535, nr⟩ [] D)) c w' hh HW.out.2.2.geo hc
      have hrl := recB_len ne nr ob (oa, oc) HOB.out
      have hmod : c % 2 ≤ 1 := by omega
      have hwr := fun w' h1 h2 h3 => wswr_ok ρ5 a (W.lck (W.lk.shutd (ka, kb) ⟨ne, 65535, nr⟩ [] D)) w' ((n * 160 + c % 2 * 60 : Nat) : Int) v7 (recB ne nr ob (oa, oc)) h1 h2 h3 (in_of hrl HW.out.2.2.size HN.out.1 hmod) (Nat.le_trans HW.out.2.2.ssd (by omega))
      rw [show (W.lck (W.lk.shutd (ka, kb) ⟨ne, 65535, nr⟩ [] D)).slots = n from HN.out.1.symm] at hpl
      rw [show (spend (W.lck (W.lk.shutd (ka, kb) ⟨ne, 65535, nr⟩ [] D)).pow).2 = _ from HSP.out] at hwr
      obtain ⟨off, hoff⟩ : ∃ off : Int, off = ((n * 160 + c % 2 * 60 : Nat) : Int) := ⟨_, rfl⟩
      rw [← hoff] at hpl hwr
      have HOF := Lib.hid hoff
      clear hmod hrl hoff
      go_wp2_with fail
      have e0 := hb7.cell_ 2 rfl
      have e1 := bh7.cell_ 0 rfl
      have l0 := hb7.lt
      have l1 := bh7.lt
      have bh8 := bh7
      go_region_held3 (fun w' => w'.cell? ⟨a.wl, 2, none⟩ = some (.pointer (some ⟨a.s, 0, none⟩)) ∧ w'.cell? ⟨w.heap.size, 0, none⟩ = some (.int .u64 c))
        (first | exact ⟨hb7.cell_ 2 rfl, bh8.cell_ 0 rfl⟩)
        (first
          | (go_at_call 97; (with_reducible refine (hpl _ hw7.drew).mono ?_); rintro e w8 ⟨rfl, q8⟩; replace hb7 := hb7.drew.below_ q8; replace bh8 := bh8.drew.below_ q8; have hw8 := hw7.drew.below_ q8; have hv8 := hv7.drew.below_ q8; have hst8 : Ste rtW ρ5 w7 ρ5 w8 := Ste.of_below ((Below.refl _ _).drew.trans q8) hf7; have hf8 : Fresh ρ5 w8 := hst8.fresh)
          | (go_at_call 157; (with_reducible refine (hwr _ hf8 hw8 hv8).mono ?_); rintro e w9 ⟨rfl, ρ9, hw9, s9⟩; replace hb7 := hw9.1; replace bh8 := bh8.ste s9 hzh))
      have hfin := Lib.hid (And.intro hw9 (And.intro hst8 s9))
      clear hw9 hst8 s9 hw8 hv8 hb7 bh8 bh7 e0 e1 hw7 hv7
      go_wp2_with fail
      go_ret
      obtain ⟨hw9, hst8, s9⟩ := hfin.out
      refine ⟨rfl, ρ9, ?_, ?_, ?_⟩
      · have e1 : rlck W M c (ta, tb) = W.lck (W.lk.shutd (ka, kb) ⟨ne, 65535, nr⟩ [] D) := by unfold rlck; rw [HN.out.2.2.1, HN.out.2.2.2.1, HN.out.2.2.2.2.1]
        have e2 : rrec W M c (ta, tb) = recB ne nr ob (oa, oc) := by
          unfold rrec
          have q1 := HN.out.2.2.2.1
          have q2 := HN.out.2.2.2.2.1
          have q3 := HN.out.2.2.2.2.2.1
          rw [← HN.out.2.2.1, ← q1, ← q2, ← q3]
          have q4 : (W.kys.cur : Int) = ne := (congrArg Nce.ep q1).symm
          rw [q4]
        have e3 : ((roff W c : Nat) : Int) = off := by rw [HOF.out]; unfold roff; rw [HN.out.1]
        rw [e1, e2, e3]
        exact hw9
      · exact ((HL.out.mm.below_ HQ.out).ste hst8 rtWm).ste s9 rtWm
      · exact ((HL.out.st.trans (Ste.of_below HQ.out HL.out.st.fresh)).trans (hst8.mono (fun r e => .inl e))).trans (s9.mono (fun r e => .inl e))
/-- log.Put, in either case -/
theorem lg_ok (HS : ShutOk) (ρ : Rl) (a : Ads) (W : Wld) (m : Nat) (M : Mk) (c : Nat) (t : Two) (w : World) (hf : Fresh ρ w) (h : WldR ρ w a W) (hm : MkR ρ w m M) (hfit : W.fit 800000) (hc : c < 4294967296) (ht : U2 t) :
    Calls Tryz.prog 172 #[.pointer (some ⟨a.wl, 0, none⟩), .pointer (some ⟨m, 0, none⟩), .agg #[.int .u64 c, .int .u32 W.kys.cur, .int .i64 W.slots, .int .u64 t.1, .int .u64 t.2]] w fun e w' =>
      e = .returned (.int .i64 (lgput W M c t).1) ∧ ∃ ρ', WldR ρ' w' a (lgput W M c t).2.1 ∧ MkR ρ' w' m (lgput W M c t).2.2 ∧ Ste rtLog ρ w ρ' w' := by
  by_cases hn : M.n = 100
  · refine (lgput_full ρ a W m M c t w hf h hm hn hfit hc ht).mono ?_
    rintro e w1 ⟨rfl, q⟩
    have e1 : lgput W M c t = (6, W, M) := by unfold lgput; rw [if_pos hn]
    rw [e1]
    exact ⟨rfl, ρ, h.below_ q, hm.below_ q, Ste.of_below q hf⟩
  · have hn' : M.n < 100 := by have := hm.2.2.1; omega
    refine (lgput_ok HS ρ a W m M c t w hf h hm hn' hfit hc ht).mono ?_
    rintro e w1 ⟨rfl, ρ1, h1, h2, h3⟩
    have e1 : lgput W M c t = ((if (spend W.pow).2 then 0 else 7), (rlck W M c t).swr (roff W c) (rrec W M c t), M.up) := by unfold lgput; rw [if_neg hn]
    rw [e1]
    exact ⟨rfl, ρ1, h1, h2, h3⟩
end Go.Proofs.YtggmdjdflaglpaaGreat
