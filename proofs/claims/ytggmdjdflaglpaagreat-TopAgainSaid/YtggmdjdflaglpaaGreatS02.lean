/- lockboxtop.TopAgain: the walk. -/
import Derived.Test.YtggmdjdflaglpaaGreatS01
import Derived.Test.YtggmdjdflaglpaaGreatR40
import Derived.Test.YtggmdjdflaglpaaGreatR41
namespace Go.Proofs.YtggmdjdflaglpaaGreat
open Go.RowKit Go.Proofs.YtggmdjdflaglpaaGreat.geo
open Go.Proofs.YtggmdjdflaglpaaGreat.r27 (Str str upd)
set_option linter.unusedVariables false
/-- one box, between two acts -/
structure Rag (w : World) (bx : Nat) (a : Ads) (wr : World) (ρ : Rl) (S : Bst) : Prop where
  box : BstR ρ wr bx a S
  old : ∀ b, b < w.heap.size → ρ b = 0
  fresh : Fresh ρ wr
  bel : Below w.heap.size w wr
section
variable {w : World} {bx : Nat} {a : Ads} {wr w' : World} {ρ ρ' : Rl} {S S' : Bst}
theorem Rag.below_ (h : Rag w bx a wr ρ S) (q : Below wr.heap.size wr w') : Rag w bx a w' ρ S :=
  ⟨h.box.below_ q, h.old, fun i hi => h.fresh i (Nat.le_trans q.size hi), h.bel.trans (q.mono h.bel.size)⟩
theorem Rag.act (h : Rag w bx a wr ρ S) (hb : BstR ρ' w' bx a S') (hs : Ste rtX ρ wr ρ' w') : Rag w bx a w' ρ' S' :=
  ⟨hb, fun b hb2 => (hs.old b (Nat.lt_of_lt_of_le hb2 h.bel.size)).trans (h.old b hb2), hs.fresh, h.bel.trans (hs.below h.bel.size (fun b hb2 => by rw [h.old b hb2]; exact rtX0))⟩
/-- a block that is none of the box's is kept -/
def Kp (ρ : Rl) (w : World) (ρ' : Rl) (w' : World) : Prop := w.heap.size ≤ w'.heap.size ∧ ∀ g, g < w.heap.size → ρ g = 0 → w'.heap[g]? = w.heap[g]? ∧ ρ' g = 0
theorem Kp.of (h : Ste rtX ρ w ρ' w') : Kp ρ w ρ' w' := ⟨h.size, fun g hg e => ⟨h.ch.keep g hg (by rw [e]; exact rtX0), (h.old g hg).trans e⟩⟩
theorem HasP.dataW {v : Value} {l : By} (hv : HasD (fun _ => True) w v l) (h : Rag w bx a wr ρ S) : HasD (fun b => ¬ rtX (ρ b)) wr v l :=
  (hv.weakB (q := fun b => ¬ rtX (ρ b)) (fun b hb _ => by rw [h.old b hb]; exact rtX0)).below_ h.bel
theorem HasK.keepW {v : Value} {l : List Bool} (hv : HasK (fun _ => True) w v l) (h : Rag w bx a wr ρ S) : HasK (fun b => ¬ rtX (ρ b)) wr v l :=
  (hv.weakB (q := fun b => ¬ rtX (ρ b)) (fun b hb _ => by rw [h.old b hb]; exact rtX0)).below_ h.bel
/-- any act -/
theorem Rag.call (HO : OpenOk) (HS : SumOk) (HT : ShutOk) (h : Rag w bx a wr ρ S) {k t : Nat} (kind kd l N F : Int) (data : By) (V D K : Option Addr) (vn dn kn vc dc kc : Nat) (ks : List Bool) (hm : S.may k t) (hk : k ≤ 200000) (ht : t ≤ 900) (h4 : kind ≠ 4) (h6 : kind ≠ 6) (hN : N ≤ 9223372036854775807)
    (hv : HasD (fun _ => True) w (.slice V vn vc) data) (hkv : HasK (fun _ => True) w (.slice K kn kc) ks) (hkl : ks.length = kn) (hk1 : kn ≤ 1000) :
    Calls Tryz.prog 9 #[.pointer (some ⟨bx, 0, none⟩), .agg #[.int .i64 kind, .int .i64 kd, .int .i64 l, .slice V vn vc, .int .i64 N, .int .i64 F, .slice D dn dc, .slice K kn kc]] wr fun e w' => ∃ A c, e = .returned (.agg #[.int .i64 (bact S kind kd l N data ks).1, .slice A (bact S kind kd l N data ks).2.1.length c]) ∧ ∃ ρ', HasP (ρ' · = 0) w' (.slice A (bact S kind kd l N data ks).2.1.length c) (bact S kind kd l N data ks).2.1 ∧ Rag w bx a w' ρ' (bact S kind kd l N data ks).2.2 ∧ Kp ρ wr ρ' w' := by
  refine (bs_act HO HS HT ρ bx a S k t kind kd l N F data V D K vn dn kn vc dc kc ks wr h.fresh h.box hm.1 hm.2.1 hm.2.2.1 hm.2.2.2.1 hm.2.2.2.2 hk ht h4 h6 hN (HasP.dataW hv h) (hkv.keepW h) hkl hk1).mono ?_
  rintro e w' ⟨v, rfl, ρ', hv, hb, hs⟩
  obtain ⟨A, c, rfl⟩ := hv.slice
  exact ⟨A, c, rfl, ρ', hv, h.act hb hs, Kp.of hs⟩
theorem hasd_nil (w : World) : HasD (fun _ => True) w (.slice none 0 0) [] := HasD.of (.inl ⟨rfl, rfl⟩)
theorem hask_nil (w : World) : HasK (fun _ => True) w (.slice none 0 0) [] := ⟨none, 0, rfl, .inl rfl⟩
/-- a crash: what is told -/
def CrP (w : World) (bx : Nat) (a : Ads) (ρ : Rl) (wr : World) (Q : Bst → Prop) (e : Ending) (w' : World) : Prop :=
  e = .returned (.agg #[.int .i64 0, .slice none 0 0]) ∧ ∃ ρ' S', Rag w bx a w' ρ' S' ∧ Q S' ∧ Kp ρ wr ρ' w'
theorem Rag.crash (HO : OpenOk) (HS : SumOk) (HT : ShutOk) (h : Rag w bx a wr ρ S) {k t : Nat} (K : Option Addr) (kn kc : Nat) (ks : List Bool) (Q : Bst → Prop) (hm : S.may k t) (hk : k ≤ 200000) (ht : t ≤ 900) (hkv : HasK (fun _ => True) w (.slice K kn kc) ks) (hkl : ks.length = kn) (hk1 : kn ≤ 1000)
    (hQ : (bact S 3 0 0 0 [] ks).1 = 0 ∧ (bact S 3 0 0 0 [] ks).2.1 = [] ∧ Q (bact S 3 0 0 0 [] ks).2.2) :
    Calls Tryz.prog 9 #[.pointer (some ⟨bx, 0, none⟩), .agg #[.int .i64 3, .int .i64 0, .int .i64 0, .slice none 0 0, .int .i64 0, .int .i64 0, .slice none 0 0, .slice K kn kc]] wr (fun e w' => ∃ A c, e = .returned (.agg #[.int .i64 0, .slice A 0 c]) ∧ ∃ ρ' S', Rag w bx a w' ρ' S' ∧ Q S' ∧ Kp ρ wr ρ' w') := by
  refine (h.call HO HS HT 3 0 0 0 0 [] none none K 0 0 kn 0 0 kc ks hm hk ht (by decide) (by decide) (by decide) (hasd_nil w) hkv hkl hk1).mono ?_
  rw [hQ.1, hQ.2.1]
  rintro e w' ⟨A, c, rfl, ρ', hv, hr, hp⟩
  exact ⟨A, c, rfl, ρ', _, hr, hQ.2.2, hp⟩
theorem Rag.read (HO : OpenOk) (HS : SumOk) (HT : ShutOk) (h : Rag w bx a wr ρ S) {k t : Nat} {B : Nat → By} {x : Nat} (hq : S.q B k t) (hx : x < 32) (hk : k ≤ 200000) (ht : t ≤ 900) :
    Calls Tryz.prog 9 #[.pointer (some ⟨bx, 0, none⟩), .agg #[.int .i64 1, .int .i64 1, .int .i64 x, .slice none 0 0, .int .i64 0, .int .i64 0, .slice none 0 0, .slice none 0 0]] wr (fun e w' => ∃ A c, e = .returned (.agg #[.int .i64 0, .slice A 32 c]) ∧ ∃ ρ' S', HasP (ρ' · = 0) w' (.slice A 32 c) (B x) ∧ Rag w bx a w' ρ' S' ∧ S'.q B (k + 3) (t + 1) ∧ Kp ρ wr ρ' w') := by
  have hQ := again_read hq (by omega) hx 0 []
  refine (h.call HO HS HT 1 1 x 0 0 [] none none none 0 0 0 0 0 0 [] hq.may hk ht (by decide) (by decide) (by decide) (hasd_nil w) (hask_nil w) rfl (by decide)).mono ?_
  rw [hQ.1, hQ.2.1, hq.len hx]
  rintro e w' ⟨A, c, rfl, ρ', hv, hr, hp⟩
  exact ⟨A, c, rfl, ρ', _, hv, hr, hQ.2.2, hp⟩
end
/-- a string of 32 bytes, as bytes -/
def bcap (W : World) (l : By) : Nat := grownCap W (str l).size 0 5
def brow (W : World) (l : By) : Obj := .cells (bytesRow (str l) (bcap W l)) 5 ((bytesRow (str l) (bcap W l)).size, (bytesRow (str l) (bcap W l)).size + 1)
theorem conv_b (l : By) (hl : l.length = 32) (W : World) : (convert 9 32 (Value.string (str l))).run Tryz.prog W = .ok (.slice (some ⟨W.heap.size, 0, none⟩) 32 (bcap W l)) (W.alloc (brow W l)).drew := by
  have h := run_bytes_of_string (P := Tryz.prog) W 9 32 5 (str l) Tryz.underlying9 Tryz.underlying32 Tryz.underlying5
  have hs : (str l).size = 32 := by simp [str, ByteArray.size, hl]
  have h2 : (convert 9 32 (Value.string (str l))).run Tryz.prog W = .ok (.slice (some ⟨W.heap.size, 0, none⟩) (str l).size (bcap W l)) (W.alloc (brow W l)).drew := h
  rw [hs] at h2
  exact h2
theorem has_b (l : By) (hl : l.length = 32) (W : World) : r27.Has (W.alloc (brow W l)) (.slice (some ⟨W.heap.size, 0, none⟩) 32 (bcap W l)) l := by
  refine ⟨hl, .inr ⟨_, _, _, _, rfl, heap_alloc_new W _, fun j u hu => ?_⟩⟩
  have hj' : j < l.length := (List.getElem?_eq_some_iff.1 hu).1
  have hj : j < (str l).data.size := by simpa [str] using hj'
  rw [bytesRow_at _ _ j hj]
  obtain ⟨_, e⟩ := List.getElem?_eq_some_iff.1 hu
  subst e
  simp [str]
/-- what was read: a block of 32 strings -/
def WasR (w : World) (g : Nat) (N : Nat → By) : Prop := Blk w g 40 ((List.range 32).map (fun i => Str (N i))).toArray
theorem WasR.at_ {w : World} {g k : Nat} {N : Nat → By} (h : WasR w g N) (hk : k < 32) : w.cell? ⟨g, k, none⟩ = some (.string (str (N k))) :=
  Blk.cell_ h k (by rw [List.getElem?_toArray]; simp [hk, Str])
theorem WasR.store {w : World} {g k : Nat} {N : Nat → By} (h : WasR w g N) (hk : k < 32) (l : By) : WasR (w.setCell ⟨g, k, none⟩ (.string (str l))) g (upd N k l) :=
  Blk.set_to h k _ (by
    have := r27.row_set N k l hk
    unfold Str at this
    rw [List.setIfInBounds_toArray]
    unfold Str
    rw [this])
theorem WasR.drew {w : World} {g : Nat} {N : Nat → By} (h : WasR w g N) : WasR w.drew g N := Blk.drew h
theorem WasR.below_ {w w' : World} {g : Nat} {N : Nat → By} (h : WasR w g N) (q : Below w.heap.size w w') : WasR w' g N := Blk.below_ h q
theorem WasR.alloc {w : World} {g : Nat} {N : Nat → By} (h : WasR w g N) (o : Obj) : WasR (w.alloc o) g N := Blk.alloc h o
theorem WasR.kp {w w' : World} {g : Nat} {N : Nat → By} {ρ ρ' : Rl} (h : WasR w g N) (hk : Kp ρ w ρ' w') (h0 : ρ g = 0) : WasR w' g N ∧ ρ' g = 0 :=
  ⟨(hk.2 g (Blk.lt h) h0).1.trans h, (hk.2 g (Blk.lt h) h0).2⟩
theorem WasR.cell0 {w : World} {g i : Nat} {N : Nat → By} {l : By} (h : WasR w g N) (hi : i < 32 ∧ N i = l) : w.cell? ⟨g, i, none⟩ = some (.string (str l)) := by
  rw [← hi.2]; exact h.at_ hi.1
theorem has_kp {w w' : World} {ρ ρ' : Rl} {b c : Nat} {l : By} (h : r27.Has w (.slice (some ⟨b, 0, none⟩) 32 c) l) (hk : Kp ρ w ρ' w') (h0 : ρ b = 0) : r27.Has w' (.slice (some ⟨b, 0, none⟩) 32 c) l := by
  obtain ⟨h1, h2⟩ := h
  rcases h2 with ⟨h2, _⟩ | ⟨b', c', cs, fr, e, hb, hc⟩
  · cases h2
  · injection e with e1 e2 e3
    injection e1 with e1
    injection e1 with e4
    subst e4
    exact ⟨h1, .inr ⟨b, c, cs, fr, rfl, ((hk.2 b (r27.heap_lt hb) h0).1).trans hb, hc⟩⟩
theorem Rag.set {w : World} {bx : Nat} {a : Ads} {wr : World} {ρ : Rl} {S : Bst} (h : Rag w bx a wr ρ S) {g : Nat} (hg : ρ g = 0) (hge : w.heap.size ≤ g) (i : Nat) (v : Value) : Rag w bx a (wr.setCell ⟨g, i, none⟩ v) ρ S :=
  ⟨h.box.keep (by simp [World.setCell]) (fun b hb e => ⟨Below.heap_setCell _ _ _ _ (fun c => e (by rw [c]; exact hg)), rfl⟩), h.old, fun i hi => h.fresh i (by simpa [World.setCell] using hi), h.bel.setCell hge v⟩
theorem conv_hp {p : Nat → Prop} {w : World} {v : Value} {l : By} (h : HasP p w v l) : (convert 32 9 v).run Tryz.prog w = .ok (.string (str l)) w := by
  rcases h with ⟨rfl, rfl⟩ | ⟨b, q, cap, rfl, _, _, _, _, h6⟩
  · exact run_convert_bytes_nil (P := Tryz.prog) _ 32 5 Tryz.underlying32 Tryz.underlying5 0 0 9 Tryz.underlying9
  · exact run_convert_bytes_back (P := Tryz.prog) _ 32 9 5 ⟨b, q, none⟩ cap l Tryz.underlying32 Tryz.underlying5 Tryz.underlying9 (fun j hj => by rw [add_plain]; exact h6 j _ (List.getElem?_eq_getElem hj))
theorem s8 {w : World} {b o : Nat} {k kd l N F : Int} {data : By} {V D K : Option Addr} {vn vc dn dc kn kc : Nat} (h : ActAt w b o ⟨k, kd, l, N, F, data, V, vn, vc, D, dn, dc, K, kn, kc⟩) :
    w.cell? ⟨b, o, none⟩ = some (.int .i64 k) ∧ w.cell? ⟨b, o + 1, none⟩ = some (.int .i64 kd) ∧ w.cell? ⟨b, o + 2, none⟩ = some (.int .i64 l) ∧ w.cell? ⟨b, o + 3, none⟩ = some (.slice V vn vc) ∧ w.cell? ⟨b, o + 4, none⟩ = some (.int .i64 N) ∧ w.cell? ⟨b, o + 5, none⟩ = some (.int .i64 F) ∧ w.cell? ⟨b, o + 6, none⟩ = some (.slice D dn dc) ∧ w.cell? ⟨b, o + 7, none⟩ = some (.slice K kn kc) :=
  ⟨h.cell 0 _ rfl, h.cell 1 _ rfl, h.cell 2 _ rfl, h.cell 3 _ rfl, h.cell 4 _ rfl, h.cell 5 _ rfl, h.cell 6 _ rfl, h.cell 7 _ rfl⟩
theorem Rs.may {S : Bst} {k t : Nat} (h : Rs S S k t) (ht : t ≤ 900) : S.may k t := by
  obtain ⟨D, r⟩ := h.rel
  have := h.cnt.2
  exact ⟨⟨D, r.pa⟩, r.ca, h.tw, r.dok, by omega⟩
/-- between two acts of the script -/
structure Rga (w : World) (bx : Nat) (a : Ads) (i : Nat) (wr : World) (ρ : Rl) (S : Bst) : Prop where
  r : Rag w bx a wr ρ S
  rs : Rs S S (1 + 140 * i) (16 + i)
  rf : S.C.rf = false
theorem Rga.next {w : World} {bx : Nat} {a : Ads} {i : Nat} {wr w' : World} {ρ : Rl} {S : Bst} (h : Rga w bx a i wr ρ S) (q : Below wr.heap.size wr w') : Rga w bx a (i + 1) w' ρ S := ⟨h.r.below_ q, h.rs.mono (by omega) (by omega), h.rf⟩
theorem Rga.act (HO : OpenOk) (HS : SumOk) (HT : ShutOk) {w : World} {bx : Nat} {a : Ads} {i : Nat} {wr : World} {ρ : Rl} {S : Bst} (h : Rga w bx a i wr ρ S) {b o : Nat} {k kd l N F : Int} {data : By} {V D K : Option Addr} {vn dn kn vc dc kc : Nat} {ks : List Bool}
    (hx : ActX w b o ⟨k, kd, l, N, F, data, V, vn, vc, D, dn, dc, K, kn, kc⟩ ks) (hi : i ≤ 200) (h4 : k ≠ 4) (h6 : k ≠ 6) (h7 : k ≠ 7) (hk1 : kn ≤ 100) :
    Calls Tryz.prog 9 #[.pointer (some ⟨bx, 0, none⟩), .agg #[.int .i64 k, .int .i64 kd, .int .i64 l, .slice V vn vc, .int .i64 N, .int .i64 F, .slice D dn dc, .slice K kn kc]] wr fun e w' => ∃ er A n c, e = .returned (.agg #[.int .i64 er, .slice A n c]) ∧ ∃ ρ' S', Rga w bx a (i + 1) w' ρ' S' := by
  refine (h.r.call HO HS HT k kd l N F data V D K vn dn kn vc dc kc ks (h.rs.may (by omega)) (by omega) (by omega) h4 h6 hx.nmax hx.at_.data hx.keep hx.klen (by omega)).mono ?_
  rintro e w' ⟨A, c, rfl, ρ', hv, hr, hp⟩
  exact ⟨_, A, _, c, rfl, ρ', _, hr, (h.rs.act (by omega) (by omega) k kd l N data ks).2.2.mono (by omega) (by omega), (rf_act S h7 kd l N data ks).trans h.rf⟩
/-- a new box -/
def NewP (w1 : World) (e : Ending) (w' : World) : Prop := ∃ bx, e = .returned (.tuple #[.pointer (some ⟨bx, 0, none⟩), .int .i64 0]) ∧ ∃ ρ a S, BstR ρ w' bx a S ∧ Ste rtC (fun _ => 0) w1 ρ w' ∧ Rs S S 1 16 ∧ S.C.rf = false
theorem new_p (HO : OpenOk) (HS : SumOk) (HT : ShutOk) (n : Nat) (hV : V n) (W : World) : Calls Tryz.prog 7 #[.int .i64 n, .int .u64 1, .bool true] W (NewP W) := by
  refine (pnew_box HO HS HT n 1 true W (fun _ => 0) (fun _ _ => rfl) hV (by omega)).mono ?_
  rintro e w' ⟨bx, rfl, ρ', a, cc, m, ag, h, hs⟩
  exact ⟨bx, rfl, ρ', a, ⟨newC n 1 true, false, 0⟩, ⟨_, _, h.1, h.2.1, h.2.2.wld, ⟨[], ⟨by simp, .inl ⟨rfl, rfl⟩⟩, fun b hb => by simp [Value.ownBlock] at hb⟩, .inr ⟨rfl, cc, m, ag, rfl, h.2.2⟩⟩, hs, new_rs n 1 true true hV, new_rf n 1 true⟩
end Go.Proofs.YtggmdjdflaglpaaGreat
