/- area.Write: the walk. Sizes: what each step does to them (no walk). commit.Do as a plain function; sizes behind area.Write and log.Put (no walk). commit.Do: the walk. -/
import Derived.Test.YtggmdjdflaglpaaGreatM22
namespace Go.Proofs.YtggmdjdflaglpaaGreat
open Go.RowKit Go.Proofs.YtggmdjdflaglpaaGreat.geo
set_option linter.unusedVariables false
def sumB (f : Nat → Two) (i : Nat) : By := (List.range i).flatMap (fun k => pairB (f k).1 (f k).2)
theorem sumB_succ (f : Nat → Two) (i : Nat) : sumB f (i + 1) = sumB f i ++ pairB (f i).1 (f i).2 := by
  unfold sumB
  rw [List.range_succ, List.flatMap_append]
  simp
theorem sumB_len (f : Nat → Two) (i : Nat) : (sumB f i).length = 16 * i := by
  induction i with
  | zero => rfl
  | succ i ih => rw [sumB_succ, List.length_append, ih, pairB_len]; omega
def aoff (n k : Nat) : Nat := n * 32 + k * (n * 64)
def noff (n k : Nat) : Nat := n * 32 + k * (n * 64) + n * 32
def aw1 (W : Wld) (ls : List Lf) : Wld := W.lck (bldL W.lk (ls.map leafB))
def aw2 (W : Wld) (k : Nat) (ls : List Lf) : Wld := (aw1 W ls).swr (aoff ls.length k) (allB ls ls.length)
def aw3 (W : Wld) (k : Nat) (ls : List Lf) : Wld := (aw2 W k ls).swr (noff ls.length k) (sumB (bldN W.lk (ls.map leafB)) (2 * ls.length))
/-- area.Write: the top, the error, the world -/
def awr (W : Wld) (k : Nat) (ls : List Lf) : Two × Int × Wld :=
  if (spend W.pow).2 then (if (spend (aw2 W k ls).pow).2 then (bldN W.lk (ls.map leafB) 1, 0, aw3 W k ls) else ((0, 0), 7, aw3 W k ls)) else ((0, 0), 7, aw2 W k ls)
theorem in_gen {r : By} {o L : Nat} (hr : 0 < r.length) (h : o + r.length ≤ L) : (⟨(o : Int), r⟩ : Opn).in_ L :=
  ⟨by show (0 : Int) ≤ (o : Int); omega, by show (o : Int) + (r.length : Int) ≤ (L : Int); omega, fun e => by have e' : r = [] := e; rw [e'] at hr; simp at hr⟩
theorem kn_le {k n : Nat} (hk : k < 2) : k * (n * 64) ≤ n * 64 := by
  have : k = 0 ∨ k = 1 := by omega
  rcases this with rfl | rfl <;> omega
theorem s2of {w : World} {wl sa n m : Nat} {x1 x3 x4 x5 x6 : Value} (hn : n = m) (b : Blk w wl 70 #[.int .i64 m, x1, .pointer (some ⟨sa, 0, none⟩), x3, x4, x5, x6]) :
    w.cell? ⟨wl, 0, none⟩ = some (.int .i64 n) ∧ w.cell? ⟨wl, 2, none⟩ = some (.pointer (some ⟨sa, 0, none⟩)) := ⟨by rw [hn]; exact b.cell_ 0 rfl, b.cell_ 2 rfl⟩
theorem nrt0 {ρ : Rl} {b : Nat} (h : ρ b = 0) : ¬ rtOrc (ρ b) := by rw [h]; unfold rtOrc; decide
theorem nrw0 {ρ : Rl} {b : Nat} (h : ρ b = 0) : ¬ rtW (ρ b) := by rw [h]; exact rtW0
theorem World.ownsRow.lo {w : World} {B : Nat} {e : TypeId} {z n : Nat} {v : Value} {xs : List Value} (h : w.ownsRow B e z v n xs) {b : Nat} (hb : v.ownBlock = some b) : B ≤ b := by
  rcases h.2 with ⟨rfl, _⟩ | ⟨r, c, cur, rfl, a2, _⟩
  · simp [Value.ownBlock] at hb
  · simp [Value.ownBlock] at hb
    subst hb
    exact a2
theorem Awi.below_ {h : Nat} {ls : List Lf} {i : Nat} {v8 v9 : Value} {w w' : World} (H : Awi h ls i v8 v9 w) (hb : Below w.heap.size w w') : Awi h ls i v8 v9 w' := by
  obtain ⟨⟨xs, h1, h2, h3⟩, h4, h5⟩ := H
  exact ⟨⟨xs, row_keep h1 (fun b hx _ => hb.block b hx), h2, fun j x l hj hl => (h3 j x l hj hl).below_ hb⟩, h4.below_ hb, h5⟩
set_option maxHeartbeats 8000000 in
set_option maxRecDepth 100000 in
theorem awr_ok (HS : SumOk) (ρ : Rl) (a : Ads) (W : Wld) (k : Nat) (v : Value) (ls : List Lf) (w : World) (hf : Fresh ρ w) (h : WldR ρ w a W) (hfit : W.fit 700000) (hk : k < 2) (hv : LvsP (fun b => ¬ rtW (ρ b)) w v ls) (hn : ls.length = W.slots) (hok : ∀ (i : Nat) (l : Lf), ls[i]? = some l → l.ok i) :
    Calls Tryz.prog 170 #[.pointer (some ⟨a.wl, 0, none⟩), .int .i64 k, v] w fun e w' =>
      e = .returned (.tuple #[pv (awr W k ls).1, .int .i64 (awr W k ls).2.1]) ∧ ∃ ρ', WldR ρ' w' a (awr W k ls).2.2 ∧ Ste rtW ρ w ρ' w' := by
  obtain ⟨g, cap, rr, rfl, hg1, hg2⟩ := hv
  obtain ⟨n, hn'⟩ : ∃ n, n = ls.length := ⟨_, rfl⟩
  have hV := hfit.geo
  rw [← hn, ← hn'] at hV
  have hn16 : 4 ≤ n ∧ n ≤ 16 := by unfold V at hV; omega
  rw [← hn']
  have hfr : ∀ b, w.heap.size ≤ b → ρ b = 0 := hf
  have c0 : w.cell? ⟨a.wl, 0, none⟩ = some (.int .i64 n) := by rw [hn', hn]; exact h.1.cell_ 0 rfl
  have l0 := h.1.lt
  have hbw : Below w.heap.size w (w.alloc (.cells #[.int .u64 0, .int .u64 0] 101)) := (Below.refl _ _).alloc (Nat.le_refl _) _
  have hB : Blk (w.alloc (.cells #[.int .u64 0, .int .u64 0] 101)) w.heap.size 101 #[.int .u64 0, .int .u64 0] := Blk.new w 101 _
  have HW := Lib.hid (And.intro h (And.intro hfit (And.intro hn (And.intro hn' hV))))
  have HG := Lib.hid (And.intro hg1 (And.intro hg2 hok))
  clear h hfit hn hn' hV hok
  go_enter Tryz.func170, Tryz.ntmps170
  go_wp2_with fail
  refine (aris_ok a.wl k hk _).mono ?_
  rintro e w1 ⟨rfl, rfl⟩
  go_wp2_with fail
  have hst : Awi (w.heap.size + 1) ls 0 (.slice none 0 0) (.slice none 0 0) (w.alloc (.cells #[.int .u64 0, .int .u64 0] 101)) :=
    ⟨⟨[], World.ownsRow_nil _ _ _ _, rfl, fun j x l hj _ => by simp at hj⟩, OwnB.nil _ _, fun b hb => by simp [Value.ownBlock] at hb⟩
  obtain ⟨i0, hi0, hz0, hz1, hz2⟩ := info_parts info32
  obtain ⟨i5, hi5, hy0, hy1, hy2⟩ := info_parts info5
  generalize w.alloc (.cells #[.int .u64 0, .int .u64 0] 101) = w1 at hst hB hbw ⊢
  go_loopw [8, 9, 36] (fun t8 t9 t36 wr => ∃ i : Nat, t36 = .int .i64 i ∧ i ≤ n ∧ Awi (w.heap.size + 1) ls i t8 t9 wr ∧ Below w.heap.size w wr ∧ Blk wr w.heap.size 101 #[.int .u64 0, .int .u64 0]) (fun _ _ t _ => n - (intOf t).toNat)
  case atStart => exact ⟨0, rfl, by omega, hst, hbw, hB⟩
  case round =>
    obtain ⟨i, rfl, hi, hI, hb, hBr⟩ := hrel
    clear hst hbw hB
    by_cases hlt : i < n
    · obtain ⟨l, hl⟩ : ∃ l, ls[i]? = some l := ⟨_, List.getElem?_eq_getElem (by have := HW.out.2.2.2.1; omega)⟩
      have hgr := (HG.out.2.1.below_ hb).leaf hl
      have hlp := fun W' => lput_ok l i (by omega) (HG.out.2.2 i l hl) W'
      obtain ⟨LB, hLB⟩ : ∃ LB, LB = leafB l := ⟨_, rfl⟩
      rw [← hLB] at hlp
      have HL := Lib.hid (And.intro hl hLB)
      unfold lfv lfc at hlp
      unfold lfc at hgr
      obtain ⟨kind, dirty, lba, ⟨ep, sl, ver⟩, ta, tb⟩ := l
      simp only at hlp hgr
      have m0 : (0 : Int) ≤ (i : Int) := by omega
      have m1 : (i : Int) < (n : Int) := by omega
      have HI := Lib.hid (And.intro hI (And.intro hb hBr))
      have hrsz := hb.size
      have sz8 : (Tryz.prog.info? 103).map (·.size) = some ([.int .i64 kind, .bool dirty, .int .i64 lba, .int .u32 ep, .int .u32 sl, .int .u64 ver, .int .u64 ta, .int .u64 tb] : List Value).length := sz103
      have hown8 : ∀ b, u8.ownBlock = some b → b < wr.heap.size := fun b c => by obtain ⟨xs, r1, _⟩ := hI.rows; exact row_lt r1 c
      have hown9 : ∀ b, u9.ownBlock = some b → b < wr.heap.size := fun b c => (hI.all.ge c).2
      have HO := Lib.hid (And.intro hown8 hown9)
      clear hI hb hBr hl hLB hown8 hown9
      go_wp2_with (with_reducible refine wpList_load_mid rfl 103 _ rfl g (i * 8) rfl _ _ hgr Tryz.underlying103 rfl sz8 ?_)
      refine (hlp _).mono ?_
      rintro e w2 ⟨v13, rfl, o13, q2⟩
      obtain ⟨hI, hb, hBr⟩ := HI.out
      have ha : Below wr.heap.size wr (wr.alloc (.cells #[.int .i64 kind, .bool dirty, .int .i64 lba, .int .u32 ep, .int .u32 sl, .int .u64 ver, .int .u64 ta, .int .u64 tb] 103)) := (Below.refl _ _).alloc (Nat.le_refl _) _
      have hI2 := (hI.below_ ha).below_ q2
      have hb2 := (hb.trans (ha.mono hb.size)).trans (q2.mono (by have := hb.size; simp; omega))
      have hBr2 := (hBr.below_ ha).below_ q2
      have hwrl := hBr.lt
      have hlen : LB.length = 32 := by rw [HL.out.2]; exact leafB_len _
      obtain ⟨b13, p13, c13, rfl, hb13, hl13, hc13, hm13, hd13⟩ := o13.has.eight hlen (by omega)
      have hv13 : HasP (fun b => wr.heap.size < b) w2 (.slice (some ⟨b13, p13, none⟩) 32 c13) LB := o13.has.weak (fun b e => by simp at e; omega)
      clear hlp ha hI hb hBr hgr o13 q2
      obtain ⟨⟨xs, r1, r2, r3⟩, r4, r5⟩ := hI2
      obtain ⟨hown8, hown9⟩ := HO.out
      have hxv : HasP (fun b => w.heap.size + 1 ≤ b ∧ u8.ownBlock ≠ some b ∧ u9.ownBlock ≠ some b) w2 (.slice (some ⟨b13, p13, none⟩) 32 c13) LB := hv13.weak (fun b e => ⟨by omega, fun c => by have := hown8 b c; omega, fun c => by have := hown9 b c; omega⟩)
      have hnl : (bvals LB).length = 32 * 1 := by rw [bvals_len, hlen]
      have hnb := fun (W' : World) (hh : ∀ (j : Nat) (u : UInt8), LB[j]? = some u → W'.cell? ⟨b13, p13 + j, none⟩ = some (.int .u8 (u.toNat : Int))) => ex_slice (fun _ => True) W' b13 p13 c13 LB hh
      have hal : (allB ls i).length = 32 * i := allB_len ls i (by have := HW.out.2.2.2.1; omega)
      have r4' : w2.ownsRow (w.heap.size + 1) 5 1 u9 (32 * i) (bvals (allB ls i)) := by rw [← hal]; exact r4
      have HX := Lib.hid (And.intro r2 (And.intro r3 (And.intro r4 (And.intro r5 (And.intro hxv (And.intro hb2 (And.intro hBr2 (And.intro hlen hal))))))))
      have hB2l := hBr2.lt
      clear r2 r3 r4 r5 hxv hb2 hBr2 hlen hal hv13 hown8 hown9
      go_wp2_with (first
        | (at_builtin; refine wpList_append_own_at _ rfl (.tmp 50) (.tmp 52) 57 rfl (w.heap.size + 1) 32 i0 (.slice none 0 0) 1 24 Tryz.underlying57 hi0 hz0 hz1 hz2 rfl (by decide) u8 i xs rfl (World.ownsRow.alloc r1 _) ⟨w2.heap.size, 0, none⟩ 1 1 [.slice (some ⟨b13, p13, none⟩) 32 c13] rfl rfl (cell_one_new w2 _ 32) (fun v hv => by simp at hv; rw [hv]; rfl) (by unfold maxLen; omega) (by omega) (by simp; omega) ?_; intro v8' w3 hr2 hg2' _ ho2; have hkp : ∀ b, b < (w2.alloc (.cells #[.slice (some ⟨b13, p13, none⟩) 32 c13] 32)).heap.size → u9.ownBlock = some b → w3.heap[b]? = (w2.alloc (.cells #[.slice (some ⟨b13, p13, none⟩) 32 c13] 32)).heap[b]? := fun b hb e => hg2'.block b hb (fun c => HX.out.2.2.2.1 b c.symm e); have hcp : ∀ (j : Nat) (u : UInt8), LB[j]? = some u → w3.cell? ⟨b13, p13 + j, none⟩ = some (.int .u8 (u.toNat : Int)) := (fun j u hj => by have e1 := hg2'.block b13 (Nat.lt_trans hl13 (by simp)) (fun c => by have := HO.out.1 b13 c.symm; simp at hb13; omega); have e2 := Below.heap_alloc w2 (.cells #[.slice (some ⟨b13, p13, none⟩) 32 c13] 32) b13 hl13; rw [← hd13 j u hj]; simp only [World.cell?, e1, e2]); have hsz3 : w.heap.size < w3.heap.size := (by have h1 := hg2'.size; simp at h1; omega))
        | (at_builtin; refine wpList_append_own_at _ rfl (.tmp 54) (.tmp 55) 32 rfl (w.heap.size + 1) 5 i5 (.int .u8 0) 1 1 Tryz.underlying32 hi5 hy0 hy1 hy2 rfl (by decide) u9 (32 * i) (bvals (allB ls i)) rfl (row_keep (World.ownsRow.alloc r4' _) hkp) ⟨b13, p13, none⟩ 32 c13 (bvals LB) rfl hnl (hnb _ hcp) (bvals_one _) (by unfold maxLen; omega) (by omega) (by omega) ?_; intro v9' w4 hr3 hg3 _ ho3))
      obtain ⟨r2, r3, r4, r5, hxv, hb2, hBr2, hlen, hal⟩ := HX.out
      obtain ⟨hl, hLB⟩ := HL.out
      have hpush : Awi (w.heap.size + 1) ls (i + 1) v8' v9' w4 := by
        rw [hLB] at hxv hr3
        refine Awi.push hl (World.ownsRow.alloc r1 _) r2 (fun j x l h1 h2 => (r3 j x l h1 h2).alloc _) (r4.alloc _) r5 (hxv.alloc _) hr2 hg2' ho2 ?_ hg3 ho3
        refine OwnB.of hr3 ?_ (bvals_app _ _).symm
        rw [List.length_append, hal, leafB_len]
      have hbA := hb2.alloc hb2.size (.cells #[.slice (some ⟨b13, p13, none⟩) 32 c13] 32)
      have hz3 := hg2'.size
      have hbB : Below w.heap.size w w3 := hbA.grown hg2' hbA.size (fun b e => by have := (World.ownsRow.lo r1 e); omega)
      have hbC : Below w.heap.size w w4 := hbB.grown hg3 hbB.size (fun b e => by have := (r4.ge e).1; omega)
      have hBrC : Blk w4 w.heap.size 101 #[.int .u64 0, .int .u64 0] := ((hBr2.alloc _).grown hg2' (fun e => by have := (World.ownsRow.lo r1 e.symm); omega)).grown hg3 (fun e => by have := (r4.ge e.symm).1; omega)
      have HP := Lib.hid (And.intro hpush (And.intro hbC hBrC))
      clear hpush hbA hbB hbC hBrC hr2 hr3 hg2' hg3 ho2 ho3 r1 r2 r3 r4 r5 hxv hb2 hBr2 hkp hcp hlen hal
      go_roundw
      case rel => exact ⟨i + 1, by go_num, by omega, HP.out.1, HP.out.2.1, HP.out.2.2⟩
      case measure => simp [intOf]; omega
    · obtain rfl : n = i := by omega
      have hd : decide ((n : Int) < (n : Int)) = false := by simp
      obtain ⟨h, hfit, hn, hn', hV⟩ := HW.out
      have hrows : RowsP (fun b => ¬ rtOrc (ρ b)) wr u8 (ls.map leafB) := by
        obtain ⟨xs, r1, r2, r3⟩ := hI.rows
        obtain ⟨gb, cb, rfl⟩ := ownsRow_form2 r1 (by omega)
        have hc := r1.cells (g := gb) rfl
        refine ⟨gb, 0, cb, by rw [List.length_map, ← hn'], nrt0 (hfr gb (by have := World.ownsRow.lo r1 (b := gb) rfl; omega)), row_lt r1 (b := gb) rfl, fun j m hj => ?_⟩
        rw [List.getElem?_map] at hj
        obtain ⟨l, hl, rfl⟩ := Option.map_eq_some_iff.1 hj
        have hjl := (List.getElem?_eq_some_iff.1 hl).1
        have hx : xs[j]? = some xs[j] := List.getElem?_eq_getElem (by omega)
        refine ⟨xs[j], ?_, (r3 j _ l hx hl).weak (fun b e => nrt0 (hfr b (by have := e.1; omega)))⟩
        have := hc j _ hx
        simpa [add_plain] using this
      have hwr := h.below_ hb
      have hbd := build_ok HS ρ a.l W.lk u8 (ls.map leafB) wr (fun i hi => hfr i (Nat.le_trans hb.size hi)) hwr.2.2.2.2.2.2.2.2.2 (by rw [List.length_map, ← hn']; exact hV) hrows (fun x hx => by obtain ⟨l, _, rfl⟩ := List.mem_map.1 hx; exact leafB_len l) (Lk.lim_mono hfit.lk (by omega))
      rw [List.length_map, ← hn'] at hbd
      have c6 : wr.cell? ⟨a.wl, 6, none⟩ = some (.pointer (some ⟨a.l, 0, none⟩)) := hwr.1.cell_ 6 rfl
      have lw := hwr.1.lt
      have HA := Lib.hid (And.intro hI (And.intro hb (And.intro hBr hwr)))
      clear hI hb hBr hrows hwr h hfit hn hn' hV
      go_wp2_with fail
      refine hbd.mono ?_
      rintro e w5 ⟨gn, rfl, hbn, hgn, hlk5, s5⟩
      clear hbd c6 lw
      go_wp2_with fail
      obtain ⟨f, hf'⟩ : ∃ f, f = bldN W.lk (ls.map leafB) := ⟨_, rfl⟩
      rw [← hf'] at hbn
      have hfu : ∀ k, U2 (f k) := fun k => by
        obtain ⟨h, hfit, hn, hn', hV⟩ := HW.out
        rw [hf']
        unfold bldN
        exact nd2_u hfit.lk (by rw [List.length_map, ← hn']; omega) (by omega) _ _ (by rw [List.length_map, ← hn']; omega)
      have hfu' := hfu
      have hgl := hbn.lt
      have HK := Lib.hid (And.intro hbn (And.intro hgn (And.intro hlk5 (And.intro s5 (And.intro hf' hfu)))))
      clear hgn hlk5 s5 hf'
      have hstart : OwnB w5.heap.size w5 (.slice none 0 0) (sumB f 0) := OwnB.nil _ _
      have hbs : Below w5.heap.size w5 w5 := Below.refl _ _
      obtain ⟨wo, hwo⟩ : ∃ wo : World, wo = wr := ⟨_, rfl⟩
      rw [← hwo] at HA HK
      clear hwo
      go_loopw [10, 69] (fun t10 t69 wr => ∃ j : Nat, t69 = .int .i64 j ∧ j ≤ 2 * n ∧ OwnB w5.heap.size wr t10 (sumB f j) ∧ Below w5.heap.size w5 wr) (fun _ t _ => 2 * n - (intOf t).toNat)
      case atStart => exact ⟨0, rfl, by omega, hstart, hbs⟩
      case round =>
        obtain ⟨j, rfl, hj, hO, hb⟩ := hrel
        clear hstart hbs
        by_cases hlt : j < 2 * n
        · have hp := pcells_at f hlt
          have hbn' := hbn.below_ hb
          have hjj := (hfu' j)
          have p0 : wr.cell? ⟨gn, j * 2, none⟩ = some (.int .u64 (f j).1) := hbn'.cell_ (j * 2) (by rw [List.getElem?_toArray, Nat.mul_comm j 2]; exact hp.1)
          have p1 : wr.cell? ⟨gn, j * 2 + 1, none⟩ = some (.int .u64 (f j).2) := hbn'.cell_ (j * 2 + 1) (by rw [List.getElem?_toArray, Nat.mul_comm j 2]; exact hp.2)
          have pl := hbn'.lt
          have m0 : (0 : Int) ≤ (j : Int) := by omega
          have m1 : (j : Int) < 2 * (n : Int) := by omega
          have hby := fun W' => bytes_at (f j).1 (f j).2 W' hjj.1.1 hjj.1.2 hjj.2.1 hjj.2.2
          have hO' : wr.ownsRow w5.heap.size 5 1 u10 (16 * j) (bvals (sumB f j)) := by rw [← sumB_len f j]; exact hO
          have HJ := Lib.hid (And.intro hO hb)
          have hws := hb.size
          clear hO hb hp hbn' hjj
          go_wp2_with fail
          refine (hby _).mono ?_
          rintro e w6 ⟨A6, z6, rfl, o6, q6⟩
          obtain ⟨b6, p6, c6, e6, _, hb6, _, _, hd6⟩ := o6.eight (pairB_len _ _) (by omega)
          injection e6 with e6a _ e6b
          subst e6a e6b
          have ha : Below wr.heap.size wr (wr.alloc (.cells #[.int .u64 (f j).1, .int .u64 (f j).2] 101)) := (Below.refl _ _).alloc (Nat.le_refl _) _
          have q7 := ha.trans (q6.mono ha.size)
          have hO6 : w6.ownsRow w5.heap.size 5 1 u10 (16 * j) (bvals (sumB f j)) := row_keep hO' (fun b hb _ => q7.block b hb)
          have hnl : (bvals (pairB (f j).1 (f j).2)).length = 16 * 1 := by rw [bvals_len, pairB_len]
          have hnb := ex_slice (fun _ => True) w6 b6 p6 z6 _ hd6
          have hsz6 := q7.size
          have HQ := Lib.hid q7
          clear hby ha q6 o6 hd6 p0 p1 pl hO' q7
          go_wp2_with (at_builtin; refine wpList_append_own_at _ rfl (.tmp 73) (.tmp 75) 32 rfl w5.heap.size 5 i5 (.int .u8 0) 1 1 Tryz.underlying32 hi5 hy0 hy1 hy2 rfl (by decide) u10 (16 * j) (bvals (sumB f j)) rfl hO6 ⟨b6, p6, none⟩ 16 z6 (bvals (pairB (f j).1 (f j).2)) rfl hnl hnb (bvals_one _) (by unfold maxLen; omega) (by omega) (by omega) ?_; intro v10' w7 hr7 hg7 _ ho7)
          have hO7 : OwnB w5.heap.size w7 v10' (sumB f (j + 1)) := OwnB.of hr7 (by rw [sumB_len]; omega) (by rw [sumB_succ, bvals_app])
          have hb7 : Below w5.heap.size w5 w7 := (HJ.out.2.trans (HQ.out.mono HJ.out.2.size)).grown hg7 (by omega) (fun b e => World.ownsRow.lo hO6 e)
          have HP := Lib.hid (And.intro hO7 hb7)
          clear hO7 hb7 hr7 hg7 ho7 hO6 hnb hnl
          go_roundw
          case rel => exact ⟨j + 1, by go_num, by omega, HP.out.1, HP.out.2⟩
          case measure => simp [intOf]; omega
        · obtain rfl : j = 2 * n := by omega
          have hd2 : decide (((2 * n : Nat) : Int) < 2 * (n : Int)) = false := by simp
          have HO2 := Lib.hid (And.intro hO hb)
          clear hO hb
          go_wp2_with fail
          obtain ⟨h, hfit, hn, hn', hV⟩ := HW.out
          obtain ⟨hI, hbo, hBr, hwo⟩ := HA.out
          obtain ⟨hbn5, hgn, hlk5, s5, hfd, hfu2⟩ := HK.out
          obtain ⟨hO, hb⟩ := HO2.out
          have hfo : Fresh ρ wo := fun i hi => hfr i (Nat.le_trans hbo.size hi)
          have hw1 : WldR ρ wr a (aw1 W ls) := (hwo.put_lk hlk5 s5).below_ hb
          have hf1 : Fresh ρ wr := fun i hi => s5.fresh i (Nat.le_trans hb.size hi)
          have hv9 : HasP (ρ · = 0) wr u9 (allB ls n) := ((hI.all.has.weak (q := (ρ · = 0)) (fun b e => hfr b (by omega))).ste s5 (by unfold rtOrc; decide)).below_ hb
          have hv10 : HasP (ρ · = 0) wr u10 (sumB f (2 * n)) := hO.has.weak (fun b e => s5.fresh b e)
          have hR0 : Blk wr w.heap.size 101 #[.int .u64 0, .int .u64 0] := (hBr.ste s5 (nrt0 (hfr _ (Nat.le_refl _)))).below_ hb
          have hN0 := hbn5.below_ hb
          have hstA : Ste rtW ρ w ρ wr := ((Ste.of_below (T := rtW) hbo hf).trans (s5.mono (fun r e => e.w))).trans (Ste.of_below hb s5.fresh)
          obtain ⟨o1, ho1⟩ : ∃ o1 : Int, o1 = ((aoff n k : Nat) : Int) := ⟨_, rfl⟩
          obtain ⟨o2, ho2⟩ : ∃ o2 : Int, o2 = ((noff n k : Nat) : Int) := ⟨_, rfl⟩
          have hlf : ∀ W', Calls Tryz.prog 100 #[.agg #[.int .i64 n], .int .i64 k, .int .i64 0] W' fun e w' => e = .returned (.int .i64 o1) ∧ Below W'.heap.size W' w' := fun W' => by
            have := leaf_ok (n : Int) k 0 W' hV (by omega) (by omega) (by omega) (by omega)
            rw [show (n : Int) * 32 + (k : Int) * ((n : Int) * 64) + 0 * 32 = o1 by rw [ho1]; unfold aoff; simp] at this
            exact this
          have hnf : ∀ W', Calls Tryz.prog 181 #[.agg #[.int .i64 n], .int .i64 k, .int .i64 0] W' fun e w' => e = .returned (.int .i64 o2) ∧ Below W'.heap.size W' w' := fun W' => by
            have := node_ok (n : Int) k 0 W' hV (by omega) (by omega) (by omega) (by omega)
            rw [show (n : Int) * 32 + (k : Int) * ((n : Int) * 64) + (n : Int) * 32 + 0 * 16 = o2 by rw [ho2]; unfold noff; simp] at this
            exact this
          have hkn := kn_le (n := n) hk
          have hL := hfit.size
          have hin1 : (⟨o1, allB ls n⟩ : Opn).in_ (aw1 W ls).ssd.lasts.length := by
            rw [ho1]
            refine in_gen (by rw [allB_len ls n (by omega)]; omega) ?_
            show aoff n k + _ ≤ W.ssd.lasts.length
            rw [hL, allB_len ls n (by omega), ← hn, ← hn']
            unfold aoff
            omega
          have hW1 := fun ρ' w' h1 h2 h3 => wswr_ok ρ' a (aw1 W ls) w' o1 u9 (allB ls n) h1 h2 h3 hin1 (Nat.le_trans hfit.ssd (by omega))
          have e2 : aw2 W k ls = (aw1 W ls).swr o1 (allB ls n) := by unfold aw2; rw [← hn', ho1]
          rw [← e2] at hW1
          have hin2 : (⟨o2, sumB f (2 * n)⟩ : Opn).in_ (aw2 W k ls).ssd.lasts.length := by
            have hl2 : (aw2 W k ls).ssd.lasts.length = W.ssd.lasts.length := by
              rw [e2]
              unfold Wld.swr push
              simp only
              split <;> rfl
            rw [ho2, hl2]
            refine in_gen (by rw [sumB_len]; omega) ?_
            rw [hL, sumB_len, ← hn, ← hn']
            unfold noff
            omega
          have hc2 : (aw2 W k ls).ssd.cnt ≤ 1000000 := by
            have h0 := hfit.ssd
            rw [e2]
            unfold Wld.swr push
            simp only
            split
            · show W.ssd.cnt + 2 ≤ _; omega
            · show W.ssd.cnt ≤ _; omega
          have hW2 := fun ρ' w' h1 h2 h3 => wswr_ok ρ' a (aw2 W k ls) w' o2 u10 (sumB f (2 * n)) h1 h2 h3 hin2 hc2
          have e3 : aw3 W k ls = (aw2 W k ls).swr o2 (sumB f (2 * n)) := by unfold aw3; rw [← hn', ho2, hfd]
          rw [← e3] at hW2
          have c0' : wr.cell? ⟨a.wl, 0, none⟩ = some (.int .i64 n) := by rw [hn', hn]; exact hw1.1.cell_ 0 rfl
          have hb0 := hw1.1
          have hsn : n = W.slots := by rw [hn', hn]
          have hz0 : ρ w.heap.size = 0 := hfr _ (Nat.le_refl _)
          have hzg : ρ gn = 0 := hfr _ (Nat.le_trans hbo.size hgn)
          have hTop : bldN W.lk (ls.map leafB) 1 = f 1 := by rw [hfd]
          obtain ⟨b1, hb1⟩ : ∃ b1, b1 = (spend W.pow).2 := ⟨_, rfl⟩
          obtain ⟨b2, hb2⟩ : ∃ b2, b2 = (spend (aw2 W k ls).pow).2 := ⟨_, rfl⟩
          rw [show (spend (aw1 W ls).pow).2 = b1 from hb1.symm] at hW1
          rw [← hb2] at hW2
          have HF := Lib.hid (And.intro hb1 (And.intro hb2 (And.intro hTop hstA)))
          have HR := Lib.hid (And.intro hR0 hN0)
          have HSN := Lib.hid hsn
          clear h hfit hn hn' hV hI hbo hBr hwo hbn5 hgn hlk5 s5 hfd hfu2 hO hb hfo ho1 ho2 hkn hL hin1 e2 hin2 hc2 e3 hb1 hb2 hTop hstA c0' hR0 hN0 hsn
          have hw1d := hw1.drew
          have hf1d : Fresh ρ wr.drew := hf1
          cases b1
          · refine wp_region_noPanic ?_
            refine wp_region_held_drew (S := fun w' => w'.cell? ⟨a.wl, 0, none⟩ = some (.int .i64 n) ∧ w'.cell? ⟨a.wl, 2, none⟩ = some (.pointer (some ⟨a.s, 0, none⟩))) (by kernel_rfl) ?_ (fun hHeld => ?_)
            · exact s2of (by exact HSN.out) hb0.drew
            refine wpAnyH_take (i := 0) (oi := { dst := some 78, op := Op.move (Operand.tmp 0), type := 51, pos := "area.go:39", after := #[], guard := none }) (v := ?_) rfl (by kernel_rfl) (by kernel_rfl) (by kernel_rfl) (fun _ _ _ h => h) (Or.inl ⟨by rfl, ?_⟩) (by assumption) ?_
            rotate_left 1
            · intro w hSw
              try dsimp only at hSw
              go_simp
              try rfl
            simp only [Act.put, List.setIfInBounds_toArray, List.set_cons_zero, List.set_cons_succ]
            refine wpAnyH_take (i := 1) (oi := { dst := some 79, op := Op.nilCheck (Operand.tmp 78), type := 0, pos := "area.go:39", after := #[{ on := 0, ground := Ground.data }], guard := none }) (v := ?_) rfl (by kernel_rfl) (by kernel_rfl) (by kernel_rfl) (fun _ _ _ h => h) (Or.inl ⟨by rfl, ?_⟩) (by assumption) ?_
            rotate_left 1
            · intro w hSw
              try dsimp only at hSw
              go_simp
              try rfl
            simp only [Act.put, List.setIfInBounds_toArray, List.set_cons_zero, List.set_cons_succ]
            refine wpAnyH_take (i := 2) (oi := { dst := some 80, op := Op.fieldAddr 70 (Operand.tmp 79) 2, type := 0, pos := "area.go:39", after := #[{ on := 1, ground := Ground.data }], guard := none }) (v := ?_) rfl (by kernel_rfl) (by kernel_rfl) (by kernel_rfl) (fun _ _ _ h => h) (Or.inl ⟨by rfl, ?_⟩) (by assumption) ?_
            rotate_left 1
            · intro w hSw
              try dsimp only at hSw
              go_simp
              try rfl
            simp only [Act.put, List.setIfInBounds_toArray, List.set_cons_zero, List.set_cons_succ]
            refine wpAnyH_take (i := 3) (oi := { dst := some 81, op := Op.load 64 (Operand.tmp 80), type := 64, pos := "area.go:39", after := #[{ on := 2, ground := Ground.data }], guard := none }) (v := ?_) rfl (by kernel_rfl) (by kernel_rfl) (by kernel_rfl) (fun _ _ _ h => h) (Or.inl ⟨by rfl, ?_⟩) (by assumption) ?_
            rotate_left 1
            · intro w hSw
              try dsimp only at hSw
              go_simp
              try rfl
            simp only [Act.put, List.setIfInBounds_toArray, List.set_cons_zero, List.set_cons_succ]
            refine wpAnyH_take (i := 4) (oi := { dst := some 82, op := Op.move (Operand.tmp 0), type := 51, pos := "area.go:39", after := #[], guard := none }) (v := ?_) rfl (by kernel_rfl) (by kernel_rfl) (by kernel_rfl) (fun _ _ _ h => h) (Or.inl ⟨by rfl, ?_⟩) (by assumption) ?_
            rotate_left 1
            · intro w hSw
              try dsimp only at hSw
              go_simp
              try rfl
            simp only [Act.put, List.setIfInBounds_toArray, List.set_cons_zero, List.set_cons_succ]
            refine wpAnyH_take (i := 5) (oi := { dst := some 83, op := Op.nilCheck (Operand.tmp 82), type := 0, pos := "area.go:39", after := #[{ on := 4, ground := Ground.data }], guard := none }) (v := ?_) rfl (by kernel_rfl) (by kernel_rfl) (by kernel_rfl) (fun _ _ _ h => h) (Or.inl ⟨by rfl, ?_⟩) (by assumption) ?_
            rotate_left 1
            · intro w hSw
              try dsimp only at hSw
              go_simp
              try rfl
            simp only [Act.put, List.setIfInBounds_toArray, List.set_cons_zero, List.set_cons_succ]
            refine wpAnyH_take (i := 6) (oi := { dst := some 84, op := Op.fieldAddr 70 (Operand.tmp 83) 0, type := 0, pos := "area.go:39", after := #[{ on := 5, ground := Ground.data }], guard := none }) (v := ?_) rfl (by kernel_rfl) (by kernel_rfl) (by kernel_rfl) (fun _ _ _ h => h) (Or.inl ⟨by rfl, ?_⟩) (by assumption) ?_
            rotate_left 1
            · intro w hSw
              try dsimp only at hSw
              go_simp
              try rfl
            simp only [Act.put, List.setIfInBounds_toArray, List.set_cons_zero, List.set_cons_succ]
            refine wpAnyH_take (i := 7) (oi := { dst := some 85, op := Op.load 62 (Operand.tmp 84), type := 62, pos := "area.go:39", after := #[{ on := 6, ground := Ground.data }], guard := none }) (v := ?_) rfl (by kernel_rfl) (by kernel_rfl) (by kernel_rfl) (fun _ _ _ h => h) (Or.inl ⟨by rfl, ?_⟩) (by assumption) ?_
            rotate_left 1
            · intro w hSw
              try dsimp only at hSw
              go_simp
              try rfl
            simp only [Act.put, List.setIfInBounds_toArray, List.set_cons_zero, List.set_cons_succ]
            refine wpAnyH_take (i := 8) (oi := { dst := some 86, op := Op.move (Operand.tmp 1), type := 3, pos := "area.go:39", after := #[], guard := none }) (v := ?_) rfl (by kernel_rfl) (by kernel_rfl) (by kernel_rfl) (fun _ _ _ h => h) (Or.inl ⟨by rfl, ?_⟩) (by assumption) ?_
            rotate_left 1
            · intro w hSw
              try dsimp only at hSw
              go_simp
              try rfl
            simp only [Act.put, List.setIfInBounds_toArray, List.set_cons_zero, List.set_cons_succ]
            refine wpAnyH_take (i := 10) (oi := { dst := some 88, op := Op.move (Operand.tmp 9), type := 32, pos := "area.go:39", after := #[], guard := none }) (v := ?_) rfl (by kernel_rfl) (by kernel_rfl) (by kernel_rfl) (fun _ _ _ h => h) (Or.inl ⟨by rfl, ?_⟩) (by assumption) ?_
            rotate_left 1
            · intro w hSw
              try dsimp only at hSw
              go_simp
              try rfl
            simp only [Act.put, List.setIfInBounds_toArray, List.set_cons_zero, List.set_cons_succ]
            refine wpAnyH_ready (rs := [9]) (by kernel_rfl) (by simp) ?_
            refine AllReadyH.cons (o := { dst := some 87, op := Op.call { callee := Callee.value (Operand.func 100), args := #[Operand.tmp 85, Operand.tmp 86, Operand.const (Value.int IntKind.i64 0)], argTypes := #[62, 3, 3] }, type := 3, pos := "area.go:39", after := #[{ on := 7, ground := Ground.data }, { on := 8, ground := Ground.data }], guard := none }) rfl (fun K hK => ?_) AllReadyH.nil
            go_simp
            go_at_call 100
            with_reducible refine (hlf wr.drew).mono ?_
            rintro e w8 ⟨rfl, q8⟩
            have hw8 := hw1d.below_ q8
            have hv98 := hv9.drew.below_ q8
            have hf8 : Fresh ρ w8 := (fun i hi => hf1d i (Nat.le_trans q8.size hi))
            replace hb0 := hb0.drew.below_ q8
            go_wp2_with fail
            refine hK.out _ _ ?_ (fun hHeld => ?_)
            · exact s2of (by exact HSN.out) hb0
            clear hK K
            refine wpAnyH_ready (rs := [11]) (by kernel_rfl) (by simp) ?_
            refine AllReadyH.cons (o := { dst := some 89, op := Op.call { callee := Callee.value (Operand.func 157), args := #[Operand.tmp 81, Operand.tmp 87, Operand.tmp 88], argTypes := #[64, 3, 32] }, type := 4, pos := "area.go:39", after := #[{ on := 3, ground := Ground.data }, { on := 9, ground := Ground.data }, { on := 10, ground := Ground.data }, { on := 9, ground := Ground.chain }], guard := none }) rfl (fun K hK => ?_) AllReadyH.nil
            go_simp
            go_at_call 157
            with_reducible refine (hW1 ρ w8 hf8 hw8 (hv98.weak (fun b e => nrw0 e))).mono ?_
            rintro e w9 ⟨rfl, ρ9, hw9, s9⟩
            replace hb0 := hw9.1
            go_wp2_with fail
            refine hK.out _ _ ?_ (fun hHeld => ?_)
            · exact s2of (by exact HSN.out) hb0
            clear hK K
            refine wpAnyH_take (i := 12) (oi := { dst := some 90, op := Op.unOp UnOp.not 4 (Operand.tmp 89), type := 4, pos := "area.go:39", after := #[{ on := 11, ground := Ground.data }], guard := none }) (v := ?_) rfl (by kernel_rfl) (by kernel_rfl) (by kernel_rfl) (fun _ _ _ h => h) (Or.inl ⟨by rfl, ?_⟩) (by assumption) ?_
            rotate_left 1
            · intro w hSw
              try dsimp only at hSw
              go_simp
              try rfl
            simp only [Act.put, List.setIfInBounds_toArray, List.set_cons_zero, List.set_cons_succ]
            refine wpAnyH_take (i := 13) (oi := { dst := some 91, op := Op.move (Operand.tmp 90), type := 4, pos := "area.go:39", after := #[{ on := 12, ground := Ground.data }, { on := 11, ground := Ground.chain }], guard := none }) (v := ?_) rfl (by kernel_rfl) (by kernel_rfl) (by kernel_rfl) (fun _ _ _ h => h) (Or.inl ⟨by rfl, ?_⟩) (by assumption) ?_
            rotate_left 1
            · intro w hSw
              try dsimp only at hSw
              go_simp
              try rfl
            simp only [Act.put, List.setIfInBounds_toArray, List.set_cons_zero, List.set_cons_succ]
            refine wpAnyH_take (i := 14) (oi := { dst := some 92, op := Op.move (Operand.tmp 0), type := 51, pos := "area.go:39", after := #[{ on := 13, ground := Ground.guard }], guard := some (13, false) }) (v := undef) rfl (by kernel_rfl) (by kernel_rfl) (by kernel_rfl) (fun _ _ _ h => h) (Or.inr ⟨by rfl, rfl⟩) (by assumption) ?_
            simp only [Act.put, List.setIfInBounds_toArray, List.set_cons_zero, List.set_cons_succ]
            refine wpAnyH_take (i := 15) (oi := { dst := some 93, op := Op.nilCheck (Operand.tmp 92), type := 0, pos := "area.go:39", after := #[{ on := 14, ground := Ground.data }, { on := 13, ground := Ground.guard }], guard := some (13, false) }) (v := undef) rfl (by kernel_rfl) (by kernel_rfl) (by kernel_rfl) (fun _ _ _ h => h) (Or.inr ⟨by rfl, rfl⟩) (by assumption) ?_
            simp only [Act.put, List.setIfInBounds_toArray, List.set_cons_zero, List.set_cons_succ]
            refine wpAnyH_take (i := 16) (oi := { dst := some 94, op := Op.fieldAddr 70 (Operand.tmp 93) 2, type := 0, pos := "area.go:39", after := #[{ on := 15, ground := Ground.data }, { on := 13, ground := Ground.guard }], guard := some (13, false) }) (v := undef) rfl (by kernel_rfl) (by kernel_rfl) (by kernel_rfl) (fun _ _ _ h => h) (Or.inr ⟨by rfl, rfl⟩) (by assumption) ?_
            simp only [Act.put, List.setIfInBounds_toArray, List.set_cons_zero, List.set_cons_succ]
            refine wpAnyH_take (i := 17) (oi := { dst := some 95, op := Op.load 64 (Operand.tmp 94), type := 64, pos := "area.go:39", after := #[{ on := 16, ground := Ground.data }, { on := 13, ground := Ground.guard }], guard := some (13, false) }) (v := undef) rfl (by kernel_rfl) (by kernel_rfl) (by kernel_rfl) (fun _ _ _ h => h) (Or.inr ⟨by rfl, rfl⟩) (by assumption) ?_
            simp only [Act.put, List.setIfInBounds_toArray, List.set_cons_zero, List.set_cons_succ]
            refine wpAnyH_take (i := 18) (oi := { dst := some 96, op := Op.move (Operand.tmp 0), type := 51, pos := "area.go:39", after := #[{ on := 13, ground := Ground.guard }], guard := some (13, false) }) (v := undef) rfl (by kernel_rfl) (by kernel_rfl) (by kernel_rfl) (fun _ _ _ h => h) (Or.inr ⟨by rfl, rfl⟩) (by assumption) ?_
            simp only [Act.put, List.setIfInBounds_toArray, List.set_cons_zero, List.set_cons_succ]
            refine wpAnyH_take (i := 19) (oi := { dst := some 97, op := Op.nilCheck (Operand.tmp 96), type := 0, pos := "area.go:39", after := #[{ on := 18, ground := Ground.data }, { on := 13, ground := Ground.guard }], guard := some (13, false) }) (v := undef) rfl (by kernel_rfl) (by kernel_rfl) (by kernel_rfl) (fun _ _ _ h => h) (Or.inr ⟨by rfl, rfl⟩) (by assumption) ?_
            simp only [Act.put, List.setIfInBounds_toArray, List.set_cons_zero, List.set_cons_succ]
            refine wpAnyH_take (i := 20) (oi := { dst := some 98, op := Op.fieldAddr 70 (Operand.tmp 97) 0, type := 0, pos := "area.go:39", after := #[{ on := 19, ground := Ground.data }, { on := 13, ground := Ground.guard }], guard := some (13, false) }) (v := undef) rfl (by kernel_rfl) (by kernel_rfl) (by kernel_rfl) (fun _ _ _ h => h) (Or.inr ⟨by rfl, rfl⟩) (by assumption) ?_
            simp only [Act.put, List.setIfInBounds_toArray, List.set_cons_zero, List.set_cons_succ]
            refine wpAnyH_take (i := 21) (oi := { dst := some 99, op := Op.load 62 (Operand.tmp 98), type := 62, pos := "area.go:39", after := #[{ on := 20, ground := Ground.data }, { on := 13, ground := Ground.guard }], guard := some (13, false) }) (v := undef) rfl (by kernel_rfl) (by kernel_rfl) (by kernel_rfl) (fun _ _ _ h => h) (Or.inr ⟨by rfl, rfl⟩) (by assumption) ?_
            simp only [Act.put, List.setIfInBounds_toArray, List.set_cons_zero, List.set_cons_succ]
            refine wpAnyH_take (i := 22) (oi := { dst := some 100, op := Op.move (Operand.tmp 1), type := 3, pos := "area.go:39", after := #[{ on := 13, ground := Ground.guard }], guard := some (13, false) }) (v := undef) rfl (by kernel_rfl) (by kernel_rfl) (by kernel_rfl) (fun _ _ _ h => h) (Or.inr ⟨by rfl, rfl⟩) (by assumption) ?_
            simp only [Act.put, List.setIfInBounds_toArray, List.set_cons_zero, List.set_cons_succ]
            refine wpAnyH_take (i := 23) (oi := { dst := some 101, op := Op.call { callee := Callee.value (Operand.func 181), args := #[Operand.tmp 99, Operand.tmp 100, Operand.const (Value.int IntKind.i64 0)], argTypes := #[62, 3, 3] }, type := 3, pos := "area.go:39", after := #[{ on := 21, ground := Ground.data }, { on := 22, ground := Ground.data }, { on := 13, ground := Ground.chain }, { on := 13, ground := Ground.guard }], guard := some (13, false) }) (v := undef) rfl (by kernel_rfl) (by kernel_rfl) (by kernel_rfl) (fun _ _ _ h => h) (Or.inr ⟨by rfl, rfl⟩) (by assumption) ?_
            simp only [Act.put, List.setIfInBounds_toArray, List.set_cons_zero, List.set_cons_succ]
            refine wpAnyH_take (i := 24) (oi := { dst := some 102, op := Op.move (Operand.tmp 10), type := 32, pos := "area.go:39", after := #[{ on := 13, ground := Ground.guard }], guard := some (13, false) }) (v := undef) rfl (by kernel_rfl) (by kernel_rfl) (by kernel_rfl) (fun _ _ _ h => h) (Or.inr ⟨by rfl, rfl⟩) (by assumption) ?_
            simp only [Act.put, List.setIfInBounds_toArray, List.set_cons_zero, List.set_cons_succ]
            refine wpAnyH_take (i := 25) (oi := { dst := some 103, op := Op.call { callee := Callee.value (Operand.func 157), args := #[Operand.tmp 95, Operand.tmp 101, Operand.tmp 102], argTypes := #[64, 3, 32] }, type := 4, pos := "area.go:39", after := #[{ on := 17, ground := Ground.data }, { on := 23, ground := Ground.data }, { on := 24, ground := Ground.data }, { on := 23, ground := Ground.chain }, { on := 13, ground := Ground.guard }], guard := some (13, false) }) (v := undef) rfl (by kernel_rfl) (by kernel_rfl) (by kernel_rfl) (fun _ _ _ h => h) (Or.inr ⟨by rfl, rfl⟩) (by assumption) ?_
            simp only [Act.put, List.setIfInBounds_toArray, List.set_cons_zero, List.set_cons_succ]
            refine wpAnyH_take (i := 26) (oi := { dst := some 104, op := Op.unOp UnOp.not 4 (Operand.tmp 103), type := 4, pos := "area.go:39", after := #[{ on := 25, ground := Ground.data }, { on := 13, ground := Ground.guard }], guard := some (13, false) }) (v := undef) rfl (by kernel_rfl) (by kernel_rfl) (by kernel_rfl) (fun _ _ _ h => h) (Or.inr ⟨by rfl, rfl⟩) (by assumption) ?_
            simp only [Act.put, List.setIfInBounds_toArray, List.set_cons_zero, List.set_cons_succ]
            refine wpAnyH_take (i := 27) (oi := { dst := some 105, op := Op.pick (Operand.tmp 91) (Operand.const (Value.bool true)) (Operand.tmp 104), type := 4, pos := "area.go:39", after := #[{ on := 13, ground := Ground.data }, { on := 26, ground := Ground.data }], guard := none }) (v := ?_) rfl (by kernel_rfl) (by kernel_rfl) (by kernel_rfl) (fun _ _ _ h => h) (Or.inl ⟨by rfl, ?_⟩) (by assumption) ?_
            rotate_left 1
            · intro w hSw
              try dsimp only at hSw
              go_simp
              try rfl
            simp only [Act.put, List.setIfInBounds_toArray, List.set_cons_zero, List.set_cons_succ]
            refine wpAnyH_done (by kernel_rfl) ?_ _
            refine NoPanic.normal ?_
            have hR9 := ((HR.out.1).below_ (((Below.refl _ _).drew).trans q8)).ste s9 (nrw0 hz0)
            have hl8 : w.heap.size < w8.heap.size := ((HR.out.1).below_ (((Below.refl _ _).drew).trans q8)).lt
            have hst : Ste rtW ρ w ρ9 w9 := ((HF.out.2.2.2.trans (Ste.of_below (Below.refl _ _).drew hf1)).trans (Ste.of_below q8 hf1d)).trans s9
            have hzR : ρ9 w.heap.size = 0 := (s9.old _ hl8).trans hz0
            have HE := Lib.hid (And.intro hw9 (And.intro hst (And.intro hR9 hzR)))
            have r0 := hR9.cell_ 0 rfl
            have r1 := hR9.cell_ 1 rfl
            have y0 := hR9.frozen 0
            have y1 := hR9.frozen 1
            have yl := hR9.lt
            clear hw9 hst hR9 s9 q8 hw8 hv98 hb0 hW1 hW2 hlf hnf hw1 hw1d hv9 hv10 hf8 hzR
            go_wp2_with fail
            obtain ⟨hw9, hst, hR9, hzR⟩ := HE.out
            have hA : awr W k ls = ((0, 0), 7, aw2 W k ls) := by unfold awr; rw [← HF.out.1]; rfl
            have g2 := only_set2 w9 w.heap.size 0 1 (.int .u64 0) (.int .u64 0)
            have bR := (hR9.set_to 0 (.int .u64 0) (cs' := #[.int .u64 0, .int .u64 0]) rfl).set_to 1 (.int .u64 0) (cs' := [.int .u64 0, .int .u64 0].toArray) rfl
            rw [hA]
            refine ret_cell_tmp 6 101 7 (by rfl) w.heap.size 0 (by rfl) (.int .i64 7) (by rfl) [.int .u64 0, .int .u64 0] _ bR.range Tryz.underlying101 rfl sz101 rfl ⟨rfl, ρ9, ?_, ?_⟩
            · exact hw9.keep g2.size (fun b hb e => ⟨g2.block b hb (fun c => by injection c with c; rw [c, hzR] at e; unfold rsW at e; omega), rfl⟩)
            · have hch : Ch (fun i => rtW (ρ i)) w _ := hst.ch.then_only g2 (Nat.le_refl _)
              exact ⟨hch, hst.old, fun i hi => hst.fresh i (Nat.le_trans g2.size hi)⟩
          · cases b2
            all_goals
              go_region_held3 (fun w' => w'.cell? ⟨a.wl, 0, none⟩ = some (.int .i64 n) ∧ w'.cell? ⟨a.wl, 2, none⟩ = some (.pointer (some ⟨a.s, 0, none⟩)))
                (first | exact s2of (by exact HSN.out) hb0 | exact s2of (by exact HSN.out) hb0.drew)
                (first
                  | (go_at_call 100; (with_reducible refine (hlf wr.drew).mono ?_); rintro e w8 ⟨rfl, q8⟩; have hw8 := hw1d.below_ q8; have hv98 := hv9.drew.below_ q8; have hv108 := hv10.drew.below_ q8; have hf8 : Fresh ρ w8 := (fun i hi => hf1d i (Nat.le_trans q8.size hi)); replace hb0 := hb0.drew.below_ q8)
                  | (go_at_call 157; (with_reducible refine (hW1 ρ w8 hf8 hw8 (hv98.weak (fun b e => nrw0 e))).mono ?_); rintro e w9 ⟨rfl, ρ9, hw9, s9⟩; replace hb0 := hw9.1; have hf9 : Fresh ρ9 w9 := s9.fresh; have hv109 := hv108.ste s9 rtW0)
                  | (go_at_call 181; (with_reducible refine (hnf w9).mono ?_); rintro e w10 ⟨rfl, q10⟩; have hw10 := hw9.below_ q10; have hv1010 := hv109.below_ q10; have hf10 : Fresh ρ9 w10 := (fun i hi => hf9 i (Nat.le_trans q10.size hi)); replace hb0 := hb0.below_ q10)
                  | (go_at_call 157; (with_reducible refine (hW2 ρ9 w10 hf10 hw10 (hv1010.weak (fun b e => nrw0 e))).mono ?_); rintro e w11 ⟨rfl, ρ11, hw11, s11⟩; replace hb0 := hw11.1))
              obtain ⟨g2, gB⟩ := HR.out
              have hR9 := (g2.below_ (((Below.refl _ _).drew).trans q8)).ste s9 (nrw0 hz0)
              have hN9 := (gB.below_ (((Below.refl _ _).drew).trans q8)).ste s9 (nrw0 hzg)
              have hl8 : w.heap.size < w8.heap.size := (g2.below_ (((Below.refl _ _).drew).trans q8)).lt
              have hg8 : gn < w8.heap.size := (gB.below_ (((Below.refl _ _).drew).trans q8)).lt
              have hR11 := (hR9.below_ q10).ste s11 (nrw0 ((s9.old _ hl8).trans hz0))
              have hN11 := (hN9.below_ q10).ste s11 (nrw0 ((s9.old _ hg8).trans hzg))
              have hst : Ste rtW ρ w ρ11 w11 := (((HF.out.2.2.2.trans (Ste.of_below (Below.refl _ _).drew hf1)).trans (Ste.of_below q8 hf1d)).trans s9).trans ((Ste.of_below q10 hf9).trans s11)
              have hzR : ρ11 w.heap.size = 0 := (s11.old _ (by have := s9.size; have := q10.size; omega)).trans ((s9.old _ hl8).trans hz0)
              have HE := Lib.hid (And.intro hw11 (And.intro hst (And.intro hR11 (And.intro hN11 hzR))))
              have r0 := hR11.cell_ 0 rfl
              have r1 := hR11.cell_ 1 rfl
              have y0 := hR11.frozen 0
              have y1 := hR11.frozen 1
              have yl := hR11.lt
              have hp := pcells_at (n := 2 * n) f (k := 1) (by omega)
              have p0 : w11.cell? ⟨gn, 2, none⟩ = some (.int .u64 (f 1).1) := hN11.cell_ 2 (by rw [List.getElem?_toArray]; exact hp.1)
              have p1 : w11.cell? ⟨gn, 3, none⟩ = some (.int .u64 (f 1).2) := hN11.cell_ 3 (by rw [List.getElem?_toArray]; exact hp.2)
              have pl := hN11.lt
              have m1 : (1 : Int) < 2 * (n : Int) := by omega
              clear hw11 hst hR11 hN11 hR9 hN9 g2 gB s9 s11 q8 q10 hw8 hw9 hw10 hv98 hv108 hv109 hv1010 hb0 hW1 hW2 hlf hnf hw1 hw1d hv9 hv10 hp hf8 hf9 hf10 hzR
              go_wp2_with fail
            · obtain ⟨hw11, hst, hR11, hN11, hzR⟩ := HE.out
              have hA : awr W k ls = ((0, 0), 7, aw3 W k ls) := by unfold awr; rw [← HF.out.1, ← HF.out.2.1]; rfl
              have g2 := only_set2 w11 w.heap.size 0 1 (.int .u64 0) (.int .u64 0)
              have bR := (hR11.set_to 0 (.int .u64 0) (cs' := #[.int .u64 0, .int .u64 0]) rfl).set_to 1 (.int .u64 0) (cs' := [.int .u64 0, .int .u64 0].toArray) rfl
              rw [hA]
              refine ret_cell_tmp 6 101 7 (by rfl) w.heap.size 0 (by rfl) (.int .i64 7) (by rfl) [.int .u64 0, .int .u64 0] _ bR.range Tryz.underlying101 rfl sz101 rfl ⟨rfl, ρ11, ?_, ?_⟩
              · exact hw11.keep g2.size (fun b hb e => ⟨g2.block b hb (fun c => by injection c with c; rw [c, hzR] at e; unfold rsW at e; omega), rfl⟩)
              · have hch : Ch (fun i => rtW (ρ i)) w _ := hst.ch.then_only g2 (Nat.le_refl _)
                exact ⟨hch, hst.old, fun i hi => hst.fresh i (Nat.le_trans g2.size hi)⟩
            · obtain ⟨hw11, hst, hR11, hN11, hzR⟩ := HE.out
              have hA : awr W k ls = (f 1, 0, aw3 W k ls) := by unfold awr; rw [← HF.out.1, ← HF.out.2.1, HF.out.2.2.1]; rfl
              have g2 := only_set2 w11 w.heap.size 0 1 (.int .u64 (f 1).1) (.int .u64 (f 1).2)
              have bR := (hR11.set_to 0 (.int .u64 (f 1).1) (cs' := #[.int .u64 (f 1).1, .int .u64 0]) rfl).set_to 1 (.int .u64 (f 1).2) (cs' := [.int .u64 (f 1).1, .int .u64 (f 1).2].toArray) rfl
              rw [hA]
              refine ret_cell_tmp 6 101 7 (by rfl) w.heap.size 0 (by rfl) (.int .i64 0) (by rfl) [.int .u64 (f 1).1, .int .u64 (f 1).2] _ bR.range Tryz.underlying101 rfl sz101 rfl ⟨rfl, ρ11, ?_, ?_⟩
              · exact hw11.keep g2.size (fun b hb e => ⟨g2.block b hb (fun c => by injection c with c; rw [c, hzR] at e; unfold rsW at e; omega), rfl⟩)
              · have hch : Ch (fun i => rtW (ρ i)) w _ := hst.ch.then_only g2 (Nat.le_refl _)
                exact ⟨hch, hst.old, fun i hi => hst.fresh i (Nat.le_trans g2.size hi)⟩
end Go.Proofs.YtggmdjdflaglpaaGreat
namespace Go.Proofs.YtggmdjdflaglpaaGreat
open Go.RowKit Go.Proofs.YtggmdjdflaglpaaGreat.geo
set_option linter.unusedVariables false
theorem Wld.fit.mono {W : Wld} {k j : Nat} (h : W.fit k) (hj : k ≤ j) : W.fit j :=
  ⟨h.geo, h.size, Nat.le_trans h.ssd hj, Nat.le_trans h.dsk hj, Lk.lim_mono h.lk hj, ⟨Nat.le_trans h.cnt.1 hj, Nat.le_trans h.cnt.2 hj⟩, Nat.le_trans h.kys hj, h.wts⟩
theorem Wld.fit.lck {W : Wld} {k : Nat} (h : W.fit k) {L : Lk} (hL : L.lim k) : (W.lck L).fit k := ⟨h.geo, h.size, h.ssd, h.dsk, hL, h.cnt, h.kys, h.wts⟩
theorem Wld.fit.swr {W : Wld} {k : Nat} (h : W.fit k) {off : Int} {b : By} (hin : (⟨off, b⟩ : Opn).in_ W.ssd.lasts.length) : (W.swr off b).fit (k + 2) := by
  have h' := h.mono (j := k + 2) (by omega)
  cases hs : (spend W.pow).2 with
  | false =>
    have e : W.swr off b = { W with pow := (spend W.pow).1 } := by unfold Wld.swr; rw [hs]; rfl
    rw [e]
    exact ⟨h'.geo, h'.size, h'.ssd, h'.dsk, h'.lk, h'.cnt, h'.kys, h'.wts⟩
  | true =>
    have e : W.swr off b = { W with pow := (spend W.pow).1, ssd := push W.ssd off b } := by unfold Wld.swr; rw [hs]; rfl
    rw [e]
    refine ⟨h'.geo, h'.size, by have := h.ssd; show W.ssd.cnt + 2 ≤ k + 2; omega, h'.dsk, h'.lk, h'.cnt, h'.kys, fun o ho => ?_⟩
    rcases List.mem_append.1 ho with ho | ho
    · exact h.wts o ho
    · rw [List.mem_singleton.1 ho]; exact hin
theorem snap_len (S : Ssd) (h : ∀ o ∈ S.waits, o.in_ S.lasts.length) : (snap S).length = S.lasts.length := by
  rw [← snapTo_all]
  exact snapTo_len S h _
theorem Wld.fit.sbar {W : Wld} {k : Nat} (h : W.fit k) : W.sbar.fit (k + 1) := by
  have h' := h.mono (j := k + 1) (by omega)
  cases hs : (spend W.pow).2 with
  | false =>
    have e : W.sbar = { W with pow := (spend W.pow).1 } := by unfold Wld.sbar; rw [hs]; rfl
    rw [e]
    exact ⟨h'.geo, h'.size, h'.ssd, h'.dsk, h'.lk, h'.cnt, h'.kys, h'.wts⟩
  | true =>
    have e : W.sbar = { W with pow := (spend W.pow).1, ssd := settled W.ssd } := by unfold Wld.sbar; rw [hs]; rfl
    rw [e]
    exact ⟨h'.geo, (snap_len _ h.wts).trans h.size, by have := h.ssd; show W.ssd.cnt + 1 ≤ k + 1; omega, h'.dsk, h'.lk, h'.cnt, h'.kys, fun o ho => by simp [settled] at ho⟩
theorem Wld.fit.bmp {W : Wld} {k : Nat} (h : W.fit k) : W.bmp.fit (k + 1) := by
  have h' := h.mono (j := k + 1) (by omega)
  refine ⟨h'.geo, h'.size, h'.ssd, h'.dsk, h'.lk, ?_, h'.kys, h'.wts⟩
  have := h.cnt
  unfold Wld.bmp
  simp only
  split
  · exact ⟨by show W.cnt.value + 1 ≤ k + 1; omega, by show W.cnt.boots ≤ k + 1; omega⟩
  · exact h'.cnt
theorem Wld.fit.dwr {W : Wld} {k : Nat} (h : W.fit k) (i : Int) (b : By) : (W.dwr i b).fit (k + 2) := by
  have h' := h.mono (j := k + 2) (by omega)
  unfold Wld.dwr
  split
  · exact h'
  · refine ⟨h'.geo, h'.size, h'.ssd, ?_, h'.lk, h'.cnt, h'.kys, h'.wts⟩
    have := h.dsk
    simp only
    split
    · show W.dsk.cnt + 2 ≤ k + 2; omega
    · exact h'.dsk
theorem Wld.fit.dbar {W : Wld} {k : Nat} (h : W.fit k) : W.dbar.fit (k + 1) := by
  have h' := h.mono (j := k + 1) (by omega)
  refine ⟨h'.geo, h'.size, h'.ssd, ?_, h'.lk, h'.cnt, h'.kys, h'.wts⟩
  have := h.dsk
  unfold Wld.dbar
  simp only
  split
  · show W.dsk.cnt + 1 ≤ k + 1; omega
  · exact h'.dsk
theorem Wld.fit.kadd {W : Wld} {k : Nat} (h : W.fit k) : W.kadd.fit k := by
  refine ⟨h.geo, h.size, h.ssd, h.dsk, h.lk, h.cnt, ?_, h.wts⟩
  have := h.kys
  unfold Wld.kadd
  simp only
  split
  · exact this
  · exact this
theorem Wld.fit.kdel {W : Wld} {k : Nat} (h : W.fit k) : W.kdel.fit (k + 1) := by
  have h' := h.mono (j := k + 1) (by omega)
  refine ⟨h'.geo, h'.size, h'.ssd, h'.dsk, h'.lk, h'.cnt, ?_, h'.wts⟩
  have := h.kys
  unfold Wld.kdel
  simp only
  split
  · show W.kys.a + 1 ≤ k + 1; omega
  · exact h'.kys
end Go.Proofs.YtggmdjdflaglpaaGreat
namespace Go.Proofs.YtggmdjdflaglpaaGreat
open Go.RowKit Go.Proofs.YtggmdjdflaglpaaGreat.geo
set_option linter.unusedVariables false
theorem bldL_lim {L : Lk} {k : Nat} (h : L.lim k) (R : List By) (hR : R.length ≤ 16) : (bldL L R).lim (k + 32) := Lk.lim_mono (nd2_lim h _) (by omega)
theorem awr_fit {W : Wld} {j k : Nat} {ls : List Lf} (h : W.fit j) (hk : k < 2) (hn : ls.length = W.slots) : (awr W k ls).2.2.fit (j + 40) := by
  have hV := h.geo
  have hn16 : 4 ≤ ls.length ∧ ls.length ≤ 16 := by unfold V at hV; omega
  have f1 : (aw1 W ls).fit (j + 32) := (h.mono (by omega)).lck (bldL_lim h.lk _ (by rw [List.length_map]; omega))
  have hkn := kn_le (n := ls.length) hk
  have f2 : (aw2 W k ls).fit (j + 34) := by
    refine f1.swr (in_gen (by rw [allB_len ls _ (Nat.le_refl _)]; omega) ?_)
    show aoff ls.length k + _ ≤ W.ssd.lasts.length
    rw [h.size, allB_len ls _ (Nat.le_refl _), ← hn]
    unfold aoff
    omega
  have f3 : (aw3 W k ls).fit (j + 36) := by
    refine f2.swr (in_gen (by rw [sumB_len]; omega) ?_)
    have hs := f2.size
    have hsl : (aw2 W k ls).slots = W.slots := rfl
    rw [hsl] at hs
    rw [hs, sumB_len, ← hn]
    unfold noff
    omega
  unfold awr
  split
  · split
    · exact f3.mono (by omega)
    · exact f3.mono (by omega)
  · exact f2.mono (by omega)
theorem awr_slots (W : Wld) (k : Nat) (ls : List Lf) : (awr W k ls).2.2.slots = W.slots ∧ (awr W k ls).2.2.cnt = W.cnt ∧ (awr W k ls).2.2.kys = W.kys ∧ (awr W k ls).2.2.dsk = W.dsk := by
  unfold awr
  split
  · split <;> exact ⟨rfl, rfl, rfl, rfl⟩
  · exact ⟨rfl, rfl, rfl, rfl⟩
theorem lgput_fit {W : Wld} {M : Mk} {c j : Nat} {t : Two} (h : W.fit j) (hj : j ≤ 1000000) : (lgput W M c t).2.1.fit (j + 4) := by
  unfold lgput
  split
  · exact h.mono (by omega)
  · have f1 : (rlck W M c t).fit (j + 1) := (h.mono (by omega)).lck (Lk.lim_shutd h.lk _ _ _ _)
    have hl : (rrec W M c t).length = 60 := recB_len _ _ _ _ (Lk.shut_len _ _ _ _ _ (rootB_len _ _ _ _))
    have hm : c % 2 ≤ 1 := by omega
    have f2 := f1.swr (off := ((roff W c : Nat) : Int)) (b := rrec W M c t) (in_gen (by rw [hl]; omega) (by
      show roff W c + _ ≤ W.ssd.lasts.length
      rw [h.size, hl]
      unfold roff
      omega))
    exact f2.mono (by omega)
/-- commit.Do: the error, the world, the maker -/
def cmt (W : Wld) (M : Mk) (ls : List Lf) : Int × Wld × Mk :=
  if (awr W ((W.cnt.value + 1) % 2) ls).2.1 ≠ 0 then ((awr W ((W.cnt.value + 1) % 2) ls).2.1, (awr W ((W.cnt.value + 1) % 2) ls).2.2, M)
  else if (spend (awr W ((W.cnt.value + 1) % 2) ls).2.2.pow).2 = false then (7, (awr W ((W.cnt.value + 1) % 2) ls).2.2.sbar, M)
  else if (lgput (awr W ((W.cnt.value + 1) % 2) ls).2.2.sbar M (W.cnt.value + 1) (awr W ((W.cnt.value + 1) % 2) ls).1).1 ≠ 0 then lgput (awr W ((W.cnt.value + 1) % 2) ls).2.2.sbar M (W.cnt.value + 1) (awr W ((W.cnt.value + 1) % 2) ls).1
  else if (spend (lgput (awr W ((W.cnt.value + 1) % 2) ls).2.2.sbar M (W.cnt.value + 1) (awr W ((W.cnt.value + 1) % 2) ls).1).2.1.pow).2 = false then (7, (lgput (awr W ((W.cnt.value + 1) % 2) ls).2.2.sbar M (W.cnt.value + 1) (awr W ((W.cnt.value + 1) % 2) ls).1).2.1.sbar, (lgput (awr W ((W.cnt.value + 1) % 2) ls).2.2.sbar M (W.cnt.value + 1) (awr W ((W.cnt.value + 1) % 2) ls).1).2.2)
  else ((if (spend (lgput (awr W ((W.cnt.value + 1) % 2) ls).2.2.sbar M (W.cnt.value + 1) (awr W ((W.cnt.value + 1) % 2) ls).1).2.1.sbar.pow).2 then 0 else 7), (lgput (awr W ((W.cnt.value + 1) % 2) ls).2.2.sbar M (W.cnt.value + 1) (awr W ((W.cnt.value + 1) % 2) ls).1).2.1.sbar.bmp, (lgput (awr W ((W.cnt.value + 1) % 2) ls).2.2.sbar M (W.cnt.value + 1) (awr W ((W.cnt.value + 1) % 2) ls).1).2.2)
end Go.Proofs.YtggmdjdflaglpaaGreat
namespace Go.Proofs.YtggmdjdflaglpaaGreat
open Go.RowKit Go.Proofs.YtggmdjdflaglpaaGreat.geo
set_option linter.unusedVariables false
theorem Blk.far5 {w : World} {g t : Nat} {cs : Array Value} (h : Blk w g t cs) {x : Nat} (hx : g ≠ x) (u v y z s : Value) : Blk (((((w.setCell ⟨x, 0, none⟩ u).setCell ⟨x, 1, none⟩ v).setCell ⟨x, 2, none⟩ y).setCell ⟨x, 3, none⟩ z).setCell ⟨x, 4, none⟩ s) g t cs :=
  ((h.far3 hx u v y).far (p := ⟨x, 3, none⟩) hx z).far (p := ⟨x, 4, none⟩) hx s
theorem awr_u {W : Wld} {k j : Nat} {ls : List Lf} (h : W.fit j) (hj : j ≤ 800000) (hn : ls.length ≤ 16) : U2 (awr W k ls).1 := by
  have hz : U2 ((0, 0) : Two) := by unfold U2 U64; decide
  unfold awr
  split
  · split
    · unfold bldN
      exact nd2_u h.lk (by rw [List.length_map]; exact hn) (by omega) _ _ (by rw [List.length_map]; omega)
    · exact hz
  · exact hz
theorem only_set5 (w : World) (g : Nat) (u v y z s : Value) : w.grownBy (((((w.setCell ⟨g, 0, none⟩ u).setCell ⟨g, 1, none⟩ v).setCell ⟨g, 2, none⟩ y).setCell ⟨g, 3, none⟩ z).setCell ⟨g, 4, none⟩ s) (some g) := by
  have g3 := only_set3 w g u v y
  have g4 := only_setCell g3 (p := ⟨g, 3, none⟩) (.inl rfl) z
  exact only_setCell g4 (p := ⟨g, 4, none⟩) (.inl rfl) s
theorem Blk.set5 {w : World} {g t : Nat} {a b c d e : Value} (h : Blk w g t #[a, b, c, d, e]) (u v y z s : Value) : Blk (((((w.setCell ⟨g, 0, none⟩ u).setCell ⟨g, 1, none⟩ v).setCell ⟨g, 2, none⟩ y).setCell ⟨g, 3, none⟩ z).setCell ⟨g, 4, none⟩ s) g t #[u, v, y, z, s] := by
  have h1 := h.set_to 0 u (cs' := #[u, b, c, d, e]) rfl
  have h2 := h1.set_to 1 v (cs' := #[u, v, c, d, e]) rfl
  have h3 := h2.set_to 2 y (cs' := #[u, v, y, d, e]) rfl
  have h4 := h3.set_to 3 z (cs' := #[u, v, y, z, e]) rfl
  exact h4.set_to 4 s rfl
theorem s4of {w : World} {wl ka n m g : Nat} {x1 x2 x3 x4 x6 : Value} {ta tb : Int} (hn : n = m) (b : Blk w wl 70 #[.int .i64 m, x1, x2, x3, x4, .pointer (some ⟨ka, 0, none⟩), x6]) (b2 : Blk w g 101 #[.int .u64 ta, .int .u64 tb]) :
    w.cell? ⟨wl, 0, none⟩ = some (.int .i64 n) ∧ w.cell? ⟨wl, 5, none⟩ = some (.pointer (some ⟨ka, 0, none⟩)) ∧ w.cell? ⟨g, 0, none⟩ = some (.int .u64 ta) ∧ w.cell? ⟨g, 1, none⟩ = some (.int .u64 tb) := ⟨by rw [hn]; exact b.cell_ 0 rfl, b.cell_ 5 rfl, b2.cell_ 0 rfl, b2.cell_ 1 rfl⟩
set_option maxHeartbeats 8000000 in
set_option maxRecDepth 100000 in
theorem cmt_ok (HS : SumOk) (HT : ShutOk) (ρ : Rl) (a : Ads) (W : Wld) (m : Nat) (M : Mk) (v : Value) (ls : List Lf) (w : World) (hf : Fresh ρ w) (h : WldR ρ w a W) (hm : MkR ρ w m M) (hfit : W.fit 600000)
    (hv : LvsP (fun b => ¬ rtW (ρ b)) w v ls) (hn : ls.length = W.slots) (hok : ∀ (i : Nat) (l : Lf), ls[i]? = some l → l.ok i) :
    Calls Tryz.prog 145 #[.pointer (some ⟨a.wl, 0, none⟩), .pointer (some ⟨m, 0, none⟩), v] w fun e w' =>
      e = .returned (.int .i64 (cmt W M ls).1) ∧ ∃ ρ', WldR ρ' w' a (cmt W M ls).2.1 ∧ MkR ρ' w' m (cmt W M ls).2.2 ∧ Ste rtLog ρ w ρ' w' := by
  obtain ⟨c, hc⟩ : ∃ c, c = W.cnt.value + 1 := ⟨_, rfl⟩
  have hcb : c ≤ 600001 := by rw [hc]; have := hfit.cnt.1; omega
  have haw := awr_ok HS ρ a W (c % 2) v ls w hf h (hfit.mono (by omega)) (by omega) hv hn hok
  have hvl := value_ok a.p a.c W.cnt w h.2.2.2.2.2.2.1
  have haf := awr_fit hfit (k := c % 2) (by omega) hn
  have has := awr_slots W (c % 2) ls
  have hcm : cmt W M ls = if (awr W (c % 2) ls).2.1 ≠ 0 then ((awr W (c % 2) ls).2.1, (awr W (c % 2) ls).2.2, M)
      else if (spend (awr W (c % 2) ls).2.2.pow).2 = false then (7, (awr W (c % 2) ls).2.2.sbar, M)
      else if (lgput (awr W (c % 2) ls).2.2.sbar M c (awr W (c % 2) ls).1).1 ≠ 0 then lgput (awr W (c % 2) ls).2.2.sbar M c (awr W (c % 2) ls).1
      else if (spend (lgput (awr W (c % 2) ls).2.2.sbar M c (awr W (c % 2) ls).1).2.1.pow).2 = false then (7, (lgput (awr W (c % 2) ls).2.2.sbar M c (awr W (c % 2) ls).1).2.1.sbar, (lgput (awr W (c % 2) ls).2.2.sbar M c (awr W (c % 2) ls).1).2.2)
      else ((if (spend (lgput (awr W (c % 2) ls).2.2.sbar M c (awr W (c % 2) ls).1).2.1.sbar.pow).2 then 0 else 7), (lgput (awr W (c % 2) ls).2.2.sbar M c (awr W (c % 2) ls).1).2.1.sbar.bmp, (lgput (awr W (c % 2) ls).2.2.sbar M c (awr W (c % 2) ls).1).2.2) := by rw [hc]; rfl
  have hV : ((W.cnt.value : Int) + 1) = (c : Int) := by rw [hc]; simp
  obtain ⟨A, hA⟩ : ∃ A, A = awr W (c % 2) ls := ⟨_, rfl⟩
  rw [← hA] at haw haf has hcm
  obtain ⟨top, err, W1⟩ := A
  simp only at haw haf has hcm
  obtain ⟨R, hR⟩ : ∃ R, R = cmt W M ls := ⟨_, rfl⟩
  rw [← hR] at hcm ⊢
  have c4 := h.1.cell_ 4 rfl
  have lw := h.1.lt
  obtain ⟨vc, hvc⟩ : ∃ vc, vc = W.cnt.value := ⟨_, rfl⟩
  rw [← hvc] at hvl hV
  have vb : (vc : Int) ≤ 600000 := by rw [hvc]; have := hfit.cnt.1; omega
  have v0 : (0 : Int) ≤ (vc : Int) := by omega
  have hmod : (((c : Int) % 2) = ((c % 2 : Nat) : Int)) := by omega
  rw [← hmod] at haw
  have HH := Lib.hid (And.intro h (And.intro hm (And.intro hfit (And.intro haf (And.intro has (And.intro hcm (And.intro hc (And.intro hvc (And.intro hn hA)))))))))
  have HV := Lib.hid hV
  rw [← hV] at haw
  clear h hm hfit haf has hcm hc hvc hn hA hR hV hv hok hmod
  go_enter Tryz.func145, Tryz.ntmps145
  go_wp2_with fail
  refine hvl.mono ?_
  rintro e w1 ⟨rfl, rfl⟩
  go_wp2_with fail
  refine haw.mono ?_
  rintro e w2 ⟨rfl, ρ2, h2, s2⟩
  clear haw hvl c4 lw
  have hmk2 := HH.out.2.1.ste s2 rtWm
  unfold pv
  obtain ⟨ta, tb⟩ := top
  by_cases he : err = 0
  · subst he
    have hfit2 := HH.out.2.2.2.1
    have hz2 : ρ2 w2.heap.size = 0 := s2.fresh _ (Nat.le_refl _)
    have q2 : Below w2.heap.size w2 (w2.alloc (.cells #[.int .u64 ta, .int .u64 tb] 101)) := (Below.refl _ _).alloc (Nat.le_refl _) _
    have hT : Blk (w2.alloc (.cells #[.int .u64 ta, .int .u64 tb] 101)) w2.heap.size 101 #[.int .u64 ta, .int .u64 tb] := Blk.new w2 101 _
    have hf2 : Fresh ρ2 (w2.alloc (.cells #[.int .u64 ta, .int .u64 tb] 101)) := fun i hi => s2.fresh i (Nat.le_trans q2.size hi)
    have hne2 : W1.ssd.lasts ≠ [] := fun e => by have hsz := hfit2.size; rw [e] at hsz; simp at hsz
    have hsb := wsbar_ok ρ2 a W1 _ hf2 (h2.below_ q2) (Nat.le_trans hfit2.ssd (by omega)) hne2
    have c2 := h2.1.cell_ 2 rfl
    have l2 := h2.1.lt
    obtain ⟨g2, hg2⟩ : ∃ g2, g2 = w2.heap.size := ⟨_, rfl⟩
    have hst2 : Ste rtLog ρ w ρ2 (w2.alloc (.cells #[.int .u64 ta, .int .u64 tb] 101)) := (s2.mono (fun r e => .inl e)).trans (Ste.of_below q2 s2.fresh)
    have HS2 := Lib.hid (And.intro (hmk2.below_ q2) (And.intro hst2 (And.intro hT hz2)))
    obtain ⟨b1, hb1⟩ : ∃ b1, b1 = (spend W1.pow).2 := ⟨_, rfl⟩
    rw [← hb1] at hsb
    have HB1 := Lib.hid hb1
    clear h2 s2 hmk2 hfit2 hz2 q2 hT hf2 hne2 hst2 hb1 hg2
    cases b1
    · go_wp2_with fail
      refine hsb.mono ?_
      rintro e w3 ⟨rfl, ρ3, h3, s3⟩
      have HE := Lib.hid (And.intro h3 s3)
      clear hsb h3 s3
      go_wp2_with fail
      go_ret
      obtain ⟨h3, s3⟩ := HE.out
      obtain ⟨_, _, _, _, _, hcm, _⟩ := HH.out
      rw [if_neg (by simp), if_pos HB1.out.symm] at hcm
      rw [hcm]
      exact ⟨rfl, ρ3, h3, HS2.out.1.ste s3 rtWm, HS2.out.2.1.trans (s3.mono (fun r e => .inl e))⟩
    · go_wp2_with fail
      refine hsb.mono ?_
      rintro e w3 ⟨rfl, ρ3, h3, s3⟩
      clear hsb
      have hT3 := HS2.out.2.2.1.ste s3 (nrw0 HS2.out.2.2.2)
      have hsl : W.slots = W1.sbar.slots := HH.out.2.2.2.2.1.1.symm
      obtain ⟨n, hn⟩ : ∃ n, n = W.slots := ⟨_, rfl⟩
      have HN := Lib.hid (And.intro hn (hn.trans hsl))
      have hcu := fun W' hh => current_ok ρ3 a.p a.k W1.sbar.kys W' hh
      have hb0 := h3.1
      have hk3d := h3.drew.2.2.2.2.2.2.2.2.1
      have hk3a := (h3.alloc (.cells #[.int .u64 0, .int .u32 0, .int .i64 0, .int .u64 0, .int .u64 0] 139)).drew.2.2.2.2.2.2.2.2.1
      have hnn : n = W1.sbar.slots := HN.out.2
      have HNN := Lib.hid hnn
      have hf3 : Fresh ρ3 w3 := s3.fresh
      have H3 := Lib.hid (And.intro h3 s3)
      have hwl := h3.1.lt
      clear h3 s3 hsl hn hnn
      go_wp2_with fail
      go_region_held3 (fun w' => w'.cell? ⟨a.wl, 0, none⟩ = some (.int .i64 n) ∧ w'.cell? ⟨a.wl, 5, none⟩ = some (.pointer (some ⟨a.k, 0, none⟩)) ∧ w'.cell? ⟨w2.heap.size, 0, none⟩ = some (.int .u64 ta) ∧ w'.cell? ⟨w2.heap.size, 1, none⟩ = some (.int .u64 tb))
        (first | (with_reducible exact s4of HNN.out hb0 hT3) | (with_reducible exact s4of HNN.out hb0.drew hT3.drew) | (with_reducible exact s4of HNN.out (hb0.alloc _) (hT3.alloc _)) | (with_reducible exact s4of HNN.out (hb0.alloc _).drew (hT3.alloc _).drew) | (with_reducible exact s4of HNN.out (hb0.far5 hx0 _ _ _ _ _) (hT3.far5 hx1 _ _ _ _ _)))
        (first
          | (go_at_call 111; (with_reducible refine (hcu w3.drew hk3d).mono ?_); rintro e w4 ⟨rfl, q4⟩; replace hb0 := hb0.drew.below_ q4; replace hT3 := hT3.drew.below_ q4; have r4 : Below w3.heap.size w3 w4 := (Below.refl _ _).drew.trans q4)
          | (go_at_call 111; (with_reducible refine (hcu (w3.alloc (.cells #[.int .u64 0, .int .u32 0, .int .i64 0, .int .u64 0, .int .u64 0] 139)).drew hk3a).mono ?_); rintro e w4 ⟨rfl, q4⟩; have hx0 : a.wl ≠ w3.heap.size := Nat.ne_of_lt hb0.lt; have hx1 : w2.heap.size ≠ w3.heap.size := Nat.ne_of_lt hT3.lt; replace hb0 := (hb0.alloc _).drew.below_ q4; replace hT3 := (hT3.alloc _).drew.below_ q4; have r4 : Below w3.heap.size w3 w4 := ((Below.refl _ _).alloc (Nat.le_refl _) (.cells #[.int .u64 0, .int .u32 0, .int .i64 0, .int .u64 0, .int .u64 0] 139)).drew.trans (q4.mono (by simp)); have bX := (Blk.new w3 139 #[.int .u64 0, .int .u32 0, .int .i64 0, .int .u64 0, .int .u64 0]).drew.below_ q4; have x0 := bX.cell_ 0 rfl; have x1 := bX.cell_ 1 rfl; have x2 := bX.cell_ 2 rfl; have x3 := bX.cell_ 3 rfl; have x4 := bX.cell_ 4 rfl; have y0 := bX.frozen 0; have y1 := bX.frozen 1; have y2 := bX.frozen 2; have y3 := bX.frozen 3; have y4 := bX.frozen 4; have yl := bX.lt))
      refine gen_world (F := fun W4 => Below w3.heap.size w3 W4 ∧ Blk W4 w4.heap.size 139 #[.int .u64 ((vc : Int) + 1), .int .u32 W1.sbar.kys.cur, .int .i64 n, .int .u64 ta, .int .u64 tb]) (by exact ⟨r4.alloc r4.size _, Blk.new w4 139 _⟩) ?_
      rotate_left 1
      refine gen_world (F := fun W4 => Below w3.heap.size w3 W4 ∧ Blk W4 w3.heap.size 139 #[.int .u64 ((vc : Int) + 1), .int .u32 W1.sbar.kys.cur, .int .i64 n, .int .u64 ta, .int .u64 tb]) (by exact ⟨below_only r4 (only_set5 w4 w3.heap.size _ _ _ _ _) r4.size (Nat.le_refl _), bX.set5 _ _ _ _ _⟩) ?_
      rotate_left 1
      all_goals
        clear hb0 hT3 hcu r4
        intro W4 hP
        have HP := Lib.hid hP
        obtain ⟨q5, bX5⟩ := hP
        obtain ⟨h3, s3⟩ := H3.out
        have hfit3 := HH.out.2.2.2.1.sbar
        have htu : U2 (ta, tb) := by
          obtain ⟨_, _, hfit, _, _, _, _, _, hn, hA⟩ := HH.out
          have := awr_u (k := c % 2) (ls := ls) hfit (by omega) (by have hV := hfit.geo; rw [hn]; unfold V at hV; omega)
          rw [← hA] at this
          exact this
        have hlg := lg_ok HT ρ3 a W1.sbar m M c (ta, tb) W4 (fun i hi => hf3 i (Nat.le_trans q5.size hi)) (h3.below_ q5) ((HS2.out.1.ste s3 rtWm).below_ q5) (hfit3.mono (by omega)) (by omega) htu
        rw [← HV.out, ← HNN.out] at hlg
        have hst5 : Ste rtLog ρ w ρ3 W4 := (HS2.out.2.1.trans (s3.mono (fun r e => .inl e))).trans (Ste.of_below q5 s3.fresh)
        have x0' := bX5.cell_ 0 rfl
        have x1' := bX5.cell_ 1 rfl
        have x2' := bX5.cell_ 2 rfl
        have x3' := bX5.cell_ 3 rfl
        have x4' := bX5.cell_ 4 rfl
        have xl' := bX5.lt
        have HG := Lib.hid (And.intro hst5 (lgput_fit (M := M) (c := c) (t := (ta, tb)) hfit3 (by omega)))
        obtain ⟨G, hG⟩ : ∃ G, G = lgput W1.sbar M c (ta, tb) := ⟨_, rfl⟩
        rw [← hG] at hlg
        have HGG := Lib.hid hG
        clear hG hfit3 htu hst5 q5 bX5 h3 s3
        obtain ⟨ge, gw, gm⟩ := G
        simp only at hlg
        go_wp2_with fail
        refine hlg.mono ?_
        rintro e w6 ⟨rfl, ρ6, h6, m6, s6⟩
        clear hlg x0' x1' x2' x3' x4' xl'
        have hm6 := m6
        obtain ⟨_, _, _, _, _, hcm, _⟩ := HH.out
        rw [if_neg (by simp), if_neg (by rw [← HB1.out]; simp)] at hcm
        have HCM := Lib.hid hcm
        clear hcm
        have hst6 := HG.out.1.trans s6
        have hgf := HG.out.2
        rw [← HGG.out] at hgf
        simp only at hgf
        by_cases hge : ge = 0
        · subst hge
          have hcm := HCM.out
          rw [← HGG.out] at hcm
          rw [if_neg (by simp)] at hcm
          simp only at hcm
          have hneG : gw.ssd.lasts ≠ [] := fun e => by have hsz := hgf.size; rw [e] at hsz; simp at hsz
          have hsb := wsbar_ok ρ6 a gw w6 s6.fresh h6 (Nat.le_trans hgf.ssd (by omega)) hneG
          have c2 := h6.1.cell_ 2 rfl
          have l2 := h6.1.lt
          obtain ⟨b2, hb2⟩ : ∃ b2, b2 = (spend gw.pow).2 := ⟨_, rfl⟩
          rw [← hb2] at hsb hcm
          have HC2 := Lib.hid (And.intro hcm (And.intro hst6 (And.intro hm6 (And.intro hgf hb2))))
          clear hcm hst6 hm6 hgf hb2 hneG h6 m6 s6
          cases b2
          · go_wp2_with fail
            refine hsb.mono ?_
            rintro e w7 ⟨rfl, ρ7, h7, s7⟩
            have HE := Lib.hid (And.intro h7 s7)
            clear hsb h7 s7
            go_wp2_with fail
            go_ret
            obtain ⟨h7, s7⟩ := HE.out
            obtain ⟨hcm, hst6, hm6, hgf, hb2⟩ := HC2.out
            rw [if_pos (by simp)] at hcm
            rw [hcm]
            exact ⟨rfl, ρ7, h7, hm6.ste s7 rtWm, hst6.trans (s7.mono (fun r e => .inl e))⟩
          · go_wp2_with fail
            refine hsb.mono ?_
            rintro e w7 ⟨rfl, ρ7, h7, s7⟩
            clear hsb c2 l2
            have hbp := wbump_ok ρ7 a gw.sbar w7 s7.fresh h7 (by have := HC2.out.2.2.2.1.cnt.1; show gw.cnt.value < _; omega)
            have c4' := h7.1.cell_ 4 rfl
            have l4' := h7.1.lt
            have H7 := Lib.hid (And.intro h7 s7)
            obtain ⟨b3, hb3⟩ : ∃ b3, b3 = (spend gw.sbar.pow).2 := ⟨_, rfl⟩
            rw [← hb3] at hbp
            have HB3 := Lib.hid hb3
            clear h7 s7 hb3
            cases b3
            all_goals
              go_wp2_with fail
              refine hbp.mono ?_
              rintro e w8 ⟨rfl, ρ8, h8, s8⟩
              have HE := Lib.hid (And.intro h8 s8)
              clear hbp h8 s8 c4' l4'
              go_wp2_with fail
              go_ret
              obtain ⟨h8, s8⟩ := HE.out
              obtain ⟨h7, s7⟩ := H7.out
              obtain ⟨hcm, hst6, hm6, hgf, hb2⟩ := HC2.out
              rw [if_neg (by simp), ← HB3.out] at hcm
              rw [hcm]
              exact ⟨rfl, ρ8, h8, (hm6.ste s7 rtWm).ste s8 rtWm, (hst6.trans (s7.mono (fun r e => .inl e))).trans (s8.mono (fun r e => .inl e))⟩
        · have t1 : (ge == 0) = false := by simpa using hge
          have t2 : (ge != 0) = true := by simpa using hge
          have hcm := HCM.out
          rw [← HGG.out] at hcm
          rw [if_pos hge] at hcm
          have HC2 := Lib.hid (And.intro hcm (And.intro h6 (And.intro hm6 hst6)))
          clear hge hcm h6 m6 s6 hm6 hst6 hgf
          go_wp2_with fail
          go_ret
          obtain ⟨hcm, h6, hm6, hst6⟩ := HC2.out
          rw [hcm]
          exact ⟨rfl, ρ6, h6, hm6, hst6⟩
  · have t1 : (err == 0) = false := by simpa using he
    have t2 : (err != 0) = true := by simpa using he
    have HE := Lib.hid he
    clear he
    go_wp2_with fail
    go_ret
    obtain ⟨_, _, _, _, _, hcm, _⟩ := HH.out
    rw [if_pos HE.out] at hcm
    rw [hcm]
    have q := (Below.refl _ w2).alloc (Nat.le_refl _) (.cells #[.int .u64 ta, .int .u64 tb] 101)
    exact ⟨rfl, ρ2, h2.below_ q, hmk2.below_ q, (s2.mono (fun r e => .inl e)).trans (Ste.of_below q s2.fresh)⟩
end Go.Proofs.YtggmdjdflaglpaaGreat
