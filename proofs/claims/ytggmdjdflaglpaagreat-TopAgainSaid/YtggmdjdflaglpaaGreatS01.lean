/- TopAgain: the plain law. What a cache shows, and shows behind crashes; no call turns whether the disk refuses (no walk). -/
import Derived.Test.YtggmdjdflaglpaaGreatR38
namespace Go.Proofs.YtggmdjdflaglpaaGreat
open Go.RowKit Go.Proofs.YtggmdjdflaglpaaGreat.geo
open Go.Proofs.YtggmdjdflaglpaaGreat.r27 (okc upd)
set_option linter.unusedVariables false
def shown (C : Cch) (D : Nat → By) (s : Nat) : By := if (C.lf s).kind = 2 then nought else D s
structure Shows (C : Cch) (D B : Nat → By) : Prop where
  leaf : ∀ s, (C.lf s).kind ≠ 0 → shown C D s = B (C.lf s).lba
  disk : ∀ x, x < 32 → (∀ s, (C.lf s).kind ≠ 0 → (C.lf s).lba ≠ x) → dread C.W.dsk x = B x
section
variable {C : Cch} {D B : Nat → By} {k t : Nat}
/-- every cache shows something -/
theorem Per.shows (h : Per C D) : ∃ B, Shows C D B := by
  refine ⟨fun x => if 0 ≤ slotOf C.now x then shown C D (slotOf C.now x).toNat else dread C.W.dsk x, fun s hs => ?_, fun x hx hn => ?_⟩
  · rcases slotOf_bd C.now (C.lf s).lba with e | ⟨y, e, hy, h1, h2⟩
    · exact absurd rfl (slotOf_no (ls := C.now) (k := (C.lf s).lba) (by rw [e]; decide) (lf_in hs) hs)
    · have : y = s := h.none_ y s h1 hs h2
      simp only [e]
      rw [if_pos (by omega), Int.toNat_natCast, this]
  · rcases slotOf_bd C.now x with e | ⟨y, e, hy, h1, h2⟩
    · simp only [e]
      rw [if_neg (by decide)]
    · exact absurd h2 (hn y h1)
theorem Shows.read (h : Shows C D B) (hP : Per C D) (hC : Cok C k t) (hd : C.W.dsk.ok) (hon : C.W.pow.on) {x : Nat} (hx : x < 32) :
    (cread C x).1 = 0 ∧ (cread C x).2.1 = B x ∧ ∃ D', Per (cread C x).2.2 D' ∧ Shows (cread C x).2.2 D' B ∧ (∀ i, (C.wf i).kind ≠ 0 → D' i = D i) ∧ (cread C x).2.2.was = C.was ∧ (cread C x).2.2.W.dsk = C.W.dsk ∧ (cread C x).2.2.W.pow.on ∧ (cread C x).2.2.W.kys = C.W.kys ∧ (cread C x).2.2.pois = C.pois := by
  unfold cread
  rcases slotOf_bd C.now x with e | ⟨s, e, hs, h1, h2⟩
  · have hdr : dread C.W.dsk x = B x := h.disk x hx (fun s h1 h2 => slotOf_no (by omega) (lf_in h1) h1 h2)
    rw [if_neg (by rw [e]; decide), if_neg (by rw [hon.1]; simp)]
    split
    · exact ⟨rfl, hdr, D, hP, h, fun _ _ => rfl, rfl, rfl, hon, rfl, rfl⟩
    · rename_i hf
      obtain ⟨s, hq, hs, h0, hw0⟩ := free_wf (fun c => hf (.inl c))
      rw [hq, Int.toNat_natCast]
      have hl := hd.len hx
      have h16 := hC.n16
      have hcl : clay C s x (dread C.W.dsk x) false = (0, lleaf C s x (dread C.W.dsk x) false, lcch C s x (dread C.W.dsk x)) := by
        unfold clay
        rw [if_neg (fun c => hf (.inr c)), if_neg (by rw [hon.spend.1]; simp)]
      rw [hcl]
      simp only
      rw [if_neg (by simp)]
      have hP1 := hP.lcch hC x hl hs h0 hw0
      have hP2 := hP1.puts (l := lleaf C s x (dread C.W.dsk x) false) hs h0 (fun _ => by rw [upd_eq]; exact vopen_laid hC hl hs hon.spend.1 false)
      have hW := cputs_W (lcch C s x (dread C.W.dsk x)) s (lleaf C s x (dread C.W.dsk x) false)
      refine ⟨rfl, hdr, _, hP2, ⟨fun i hi => ?_, fun y hy hn => ?_⟩, fun i hi => upd_ne _ _ (fun c => hi (by rw [c]; exact hw0)), cputs_was _ _ _, by rw [hW.1]; rfl, by rw [hW.1]; exact hon.spend.2, by rw [hW.1]; rfl, by unfold cputs; split <;> rfl⟩
      · unfold shown
        rcases puts_sub hP1.none_ (s := s) hs h0 (l := lleaf C s x (dread C.W.dsk x) false) i hi with ⟨e1, rfl⟩ | ⟨e1, n1, k1, l1⟩
        · rw [e1, if_neg (by rw [lleaf_kind]; decide), upd_eq]; exact hdr
        · rw [e1, upd_ne _ _ n1]
          exact h.leaf i k1
      · rw [hW.1]
        show dread C.W.dsk y = B y
        refine h.disk y hy (fun i hi hy2 => ?_)
        have his : i ≠ s := fun c => hi (by rw [c]; exact h0)
        rcases lf_puts (C := lcch C s x (dread C.W.dsk x)) hs h0 (l := lleaf C s x (dread C.W.dsk x) false) i with c | c | c
        · exact his c.2
        · have hsl : slotOf C.now x = (i : Int) := c.2.2.2
          rw [e] at hsl; omega
        · have := hn i (by rw [c.1]; exact hi)
          rw [c.1] at this
          exact this hy2
  · rw [e, if_pos (by omega), Int.toNat_natCast]
    have h2' : (C.lf s).lba = x := h2
    have hv : cval C s = (0, shown C D s, C) := by
      rw [hP.cval hC h1]
      unfold shown
      split
      · rfl
      · rw [if_neg (by rw [hon.1]; simp)]
    rw [hv]
    simp only
    rw [if_neg (by simp)]
    exact ⟨rfl, by rw [h.leaf s h1, h2'], D, hP.touch s, ⟨h.leaf, h.disk⟩, fun _ _ => rfl, rfl, rfl, hon, rfl, rfl⟩
end
end Go.Proofs.YtggmdjdflaglpaaGreat
namespace Go.Proofs.YtggmdjdflaglpaaGreat
open Go.RowKit Go.Proofs.YtggmdjdflaglpaaGreat.geo
set_option linter.unusedVariables false
def Cch.rf (C : Cch) : Bool := C.W.dsk.refuses
theorem rf_dwr (W : Wld) (i : Int) (b : By) : (W.dwr i b).dsk.refuses = W.dsk.refuses := by
  unfold Wld.dwr
  split
  · rfl
  · simp only
    split <;> rfl
theorem rf_dbar (W : Wld) : W.dbar.dsk.refuses = W.dsk.refuses := by
  unfold Wld.dbar
  simp only
  split <;> rfl
section
variable (C : Cch)
theorem rf_commit : (ccommit C).2.rf = C.rf := by
  show (cmt C.W C.M C.now).2.1.dsk.refuses = _
  rw [(cmt_same C.W C.M C.now).2.2.1]; rfl
theorem rf_val (s : Nat) : (cval C s).2.2.rf = C.rf := by
  rcases cval_cch C s with e | e <;> rw [e] <;> rfl
theorem rf_spill (s : Nat) : (cspill C s).2.rf = C.rf := by
  unfold cspill
  split
  · exact rf_val C s
  · exact rf_dwr _ _ _
theorem rf_drops (s : Nat) : (cdrops C s).rf = C.rf := rfl
theorem rf_evict (s : Nat) : (cevict C s).2.rf = C.rf := by
  unfold cevict
  split
  · split
    · exact rf_spill C s
    · split
      · exact (rf_dbar _).trans (rf_spill C s)
      · exact (rf_commit _).trans ((rf_dbar _).trans (rf_spill C s))
  · exact rf_commit _
theorem rf_room : (croom C).2.rf = C.rf := by
  unfold croom
  split
  · rfl
  · split
    · exact rf_commit C
    · split
      · exact rf_commit C
      · exact (rf_evict _ _).trans (rf_commit C)
theorem rf_spills : ∀ i, (cspills C i).2.1.rf = C.rf
  | 0 => rfl
  | i + 1 => by
    have ih := rf_spills i
    unfold cspills
    split
    · exact ih
    · split
      · exact (rf_spill _ _).trans ih
      · exact ih
theorem rf_empty : (cempty C).2.rf = C.rf := by
  have h := rf_spills C C.now.length
  unfold cempty
  split
  · exact h
  · split
    · split
      · exact (rf_dbar _).trans h
      · exact (rf_dbar _).trans h
    · exact h
theorem rf_puts (s : Nat) (l : Lf) : (cputs C s l).rf = C.rf := by unfold Cch.rf; rw [(cputs_W C s l).1]
theorem rf_lay (s x : Nat) (data : By) (d : Bool) : (clay C s x data d).2.2.rf = C.rf := by
  unfold clay
  split
  · rfl
  · split <;> rfl
theorem rf_forget : (cforget C).2.rf = C.rf := by
  unfold cforget
  split
  · exact rf_commit C
  · exact rf_commit C
theorem rf_finish : (cfinish C).2.rf = C.rf := by
  unfold cfinish
  split
  · rfl
  · split
    · exact rf_empty C
    · exact (rf_forget _).trans (rf_empty C)
theorem rf_read (x : Nat) : (cread C x).2.2.rf = C.rf := by
  unfold cread
  split
  · split
    · exact rf_val _ _
    · rfl
  · split
    · rfl
    · split
      · rfl
      · split
        · exact rf_lay _ _ _ _ _
        · exact (rf_puts _ _ _).trans (rf_lay _ _ _ _ _)
theorem rf_write (x : Nat) (data : By) : (cwrite C x data).2.rf = C.rf := by
  unfold cwrite
  split
  · exact rf_room C
  · split
    · exact (rf_lay _ _ _ _ _).trans (rf_room C)
    · exact (rf_puts _ _ _).trans ((rf_lay _ _ _ _ _).trans (rf_room C))
theorem rf_discard (x : Nat) : (cdiscard C x).2.rf = C.rf := by
  unfold cdiscard
  split
  · exact rf_room C
  · exact (rf_puts _ _ _).trans (rf_room C)
theorem rf_rotate : (crotate C).2.rf = C.rf := by
  unfold crotate
  split
  · exact rf_commit C
  · split
    · exact (rf_empty _).trans (rf_commit C)
    · split
      · exact (rf_empty _).trans (rf_commit C)
      · exact (rf_forget _).trans ((rf_empty _).trans (rf_commit C))
theorem rf_do (kd l : Int) (data : By) : (cdo C kd l data).2.2.rf = C.rf := by
  unfold cdo
  split
  · rfl
  · split
    · rfl
    · split
      · rfl
      · split
        · exact rf_read C _
        · split
          · exact rf_write C _ _
          · split
            · exact rf_commit C
            · split
              · exact rf_discard C _
              · exact rf_rotate C
end
end Go.Proofs.YtggmdjdflaglpaaGreat
namespace Go.Proofs.YtggmdjdflaglpaaGreat
open Go.RowKit Go.Proofs.YtggmdjdflaglpaaGreat.geo
set_option linter.unusedVariables false
section
variable {C : Cch} {D : Nat → By} {k t : Nat}
theorem on_spill (h : Per C D) (hC : Cok C k t) (hon : C.W.pow.on) (hr : C.rf = false) {s : Nat} (hs : (C.lf s).kind ≠ 0) : (cspill C s).1 = 0 ∧ (cspill C s).2.W.pow.on := by
  have hv : ∃ b, cval C s = (0, b, C) := by
    rw [h.cval hC hs]
    split
    · exact ⟨_, rfl⟩
    · rw [if_neg (by rw [hon.1]; simp)]; exact ⟨_, rfl⟩
  obtain ⟨b, hv⟩ := hv
  have hr' : C.W.dsk.refuses = false := hr
  unfold cspill
  rw [hv, if_neg (by simp)]
  have e2 : dwok C.W.pow C.W.dsk = true := by unfold dwok; rw [hr', hon.spend.1]; rfl
  rw [e2, if_pos rfl]
  refine ⟨rfl, ?_⟩
  show (C.W.dwr _ _).pow.on
  unfold Wld.dwr
  rw [if_neg (by rw [hr']; simp)]
  exact hon.spend.2
theorem on_spills (h : Rel C C D k t) (hon : C.W.pow.on) (hr : C.rf = false) : ∀ i, (cspills C i).1 = 0 ∧ (cspills C i).2.1.W.pow.on
  | 0 => ⟨rfl, hon⟩
  | i + 1 => by
    obtain ⟨e, o⟩ := on_spills h hon hr i
    have r := (h.spills i).2.2
    unfold cspills
    rw [if_neg (by rw [e]; simp)]
    split
    · rename_i hd
      have hlf : (cspills C i).2.1.lf i = C.lf i := by unfold Cch.lf; rw [(cspills_now C i).1]
      exact on_spill r.pa r.ca o ((rf_spills C i).trans hr) (by rw [hlf]; exact dirty_kind h.ca hd)
    · exact ⟨e, o⟩
theorem on_empty (h : Rel C C D k t) (hon : C.W.pow.on) (hr : C.rf = false) : (cempty C).1 = 0 ∧ (cempty C).2.W.pow.on := by
  obtain ⟨e, o⟩ := on_spills h hon hr C.now.length
  unfold cempty
  rw [if_neg (by rw [e]; simp)]
  split
  · rw [if_neg (by rw [o.spend.1]; simp)]
    exact ⟨rfl, o.spend.2⟩
  · exact ⟨rfl, o⟩
/-- Open's end: no error, one epoch -/
theorem on_finish (h : Rel C C D k t) (hon : C.W.pow.on) (hr : C.rf = false) (hn : C.M.n = 0) : (cfinish C).1 = 0 ∧ (cfinish C).2.W.pow.on ∧ (cfinish C).2.W.kys.two = false := by
  obtain ⟨e, o⟩ := on_empty h hon hr
  have hk := cempty_kys C
  unfold cfinish
  split
  · rename_i h2
    exact ⟨rfl, hon, h2⟩
  · rw [if_neg (by rw [e]; simp)]
    have hc := on_cmt (W := (cempty C).2.W) (M := (cempty C).2.M) (ls := (cempty C).2.now) o
    have hc0 : (cmt (cempty C).2.W (cempty C).2.M (cempty C).2.now).1 = 0 := by
      rcases hc.2 with c | c
      · exact c
      · rcases cmt_err (cempty C).2.W (cempty C).2.M (cempty C).2.now with q | q | q
        · exact q.1
        · have := q.2.2.1; rw [hk.2.1, hn] at this; cases this
        · rw [q.1] at c; cases c
    have hcc : ¬ (ccommit (cempty C).2).1 ≠ 0 := fun c => c hc0
    unfold cforget
    rw [if_neg hcc]
    have ho : (ccommit (cempty C).2).2.W.pow.on := hc.1
    rw [if_pos ho.spend.1]
    refine ⟨rfl, ho.spend.2, ?_⟩
    show (if (spend (ccommit (cempty C).2).2.W.pow).2 then (⟨_, _, false⟩ : Kys) else _).two = false
    rw [if_pos ho.spend.1]
end
end Go.Proofs.YtggmdjdflaglpaaGreat
namespace Go.Proofs.YtggmdjdflaglpaaGreat
open Go.RowKit Go.Proofs.YtggmdjdflaglpaaGreat.geo
open Go.Proofs.YtggmdjdflaglpaaGreat.r27 (okc upd)
set_option linter.unusedVariables false
/-- what holds behind Open where there is one epoch; B is what it shows, and will show behind a crash -/
structure Qui (C : Cch) (D B : Nat → By) (k t : Nat) : Prop where
  per : Per C D
  sh : Shows C D B
  cok : Cok C k t
  dok : C.W.dsk.ok
  on : C.W.pow.on
  two : C.W.kys.two = false
  pois : C.pois = false
  ws : ∀ s, (C.wf s).kind ≠ 0 → (if (C.wf s).kind = 2 then nought else D s) = B (C.wf s).lba
  wd : ∀ x, x < 32 → (∀ s, (C.wf s).kind ≠ 0 → (C.wf s).lba ≠ x) → C.W.dsk.lasts x = B x
  wt : C.W.dsk.waits = []
section
variable {C : Cch} {D B : Nat → By} {k t : Nat}
theorem rel_refl (h : Per C D) (hC : Cok C k t) (hd : C.W.dsk.ok) : Rel C C D k t := ⟨Eqv.refl C, h, h, hC, hC, hd⟩
theorem start_dsk (C : Cch) (ks : List Bool) : (cstart (wld2 C ks) C.was).W.dsk = dcrashed C.W.dsk ks := by
  rw [(cstart_same _ _).2.2.1, (wld2_same C ks).2.2.2.2.2.1]
theorem start_on (C : Cch) (ks : List Bool) : (cstart (wld2 C ks) C.was).W.pow.on := by
  rw [(cstart_same _ _).2.2.1]; exact (wld2_same C ks).2.2.2.2.2.2.1
/-- a crash where the disk does not refuse: no error, one epoch -/
theorem open_on (h : Per C D) (hC : Cok C k t) (hd : C.W.dsk.ok) (hr : C.rf = false) (hk : k ≤ 600000) (ks : List Bool) :
    (bopen C ks).1 = 0 ∧ (bopen C ks).2.W.kys.two = false ∧ Per (bopen C ks).2 D ∧ Cok (bopen C ks).2 (k + 134) 16 ∧ (bopen C ks).2.W.dsk.ok := by
  have r := (rel_refl h hC hd).start (by omega) ks
  have q := on_finish r (start_on C ks) (by show (cstart (wld2 C ks) C.was).W.dsk.refuses = false; rw [start_dsk]; exact hr) (by rw [(cstart_same _ _).2.2.2.1])
  have f := (r.finish (by omega)).2.1
  exact ⟨q.1, q.2.2, f.pa, f.ca.mono (by omega) (Nat.le_refl _), f.dok⟩
theorem bopen_one (h2 : C.W.kys.two = false) (ks : List Bool) : bopen C ks = (0, cstart (wld2 C ks) C.was) := by
  show cfinish (cstart (wld2 C ks) C.was) = _
  unfold cfinish
  rw [if_pos (by rw [(cstart_same _ _).2.2.1, (wld2_same C ks).2.1]; exact h2)]
theorem qui_of (h : Per C D) (hC : Cok C k t) (hd : C.W.dsk.ok) (h2 : C.W.kys.two = false) (hk : k ≤ 600000) (ks : List Bool) (hs : Shows (cstart (wld2 C ks) C.was) D B) : (bopen C ks).1 = 0 ∧ Qui (bopen C ks).2 D B (k + 34) 16 := by
  rw [bopen_one h2]
  obtain ⟨c1, c2, c3, c4, c5⟩ := cstart_same (wld2 C ks) C.was
  have r := (rel_refl h hC hd).start (by omega) ks
  have hwt : (cstart (wld2 C ks) C.was).W.dsk.waits = [] := by rw [start_dsk]; rfl
  have hwf : ∀ s, (cstart (wld2 C ks) C.was).wf s = (cstart (wld2 C ks) C.was).lf s := fun s => by unfold Cch.lf Cch.wf; rw [c1, c2]
  refine ⟨rfl, r.pa, hs, r.ca, r.dok, start_on C ks, by rw [c3, (wld2_same C ks).2.1]; exact h2, c5, fun s h0 => ?_, fun x hx hn => ?_, hwt⟩
  · rw [hwf] at h0 ⊢
    exact hs.leaf s h0
  · have := hs.disk x hx (fun s h0 => by rw [← hwf] at h0 ⊢; exact hn s h0)
    unfold dread at this
    rw [hwt] at this
    exact this
theorem open_qui (h : Per C D) (hC : Cok C k t) (hd : C.W.dsk.ok) (h2 : C.W.kys.two = false) (hk : k ≤ 600000) (ks : List Bool) : (bopen C ks).1 = 0 ∧ ∃ B, Qui (bopen C ks).2 D B (k + 34) 16 := by
  obtain ⟨B, hB⟩ := (h.start hC ks).shows
  have := qui_of h hC hd h2 hk ks hB
  exact ⟨this.1, B, this.2⟩
theorem Qui.again (h : Qui C D B k t) (hk : k ≤ 600000) (ks : List Bool) : (bopen C ks).1 = 0 ∧ Qui (bopen C ks).2 D B (k + 34) 16 := by
  obtain ⟨c1, c2, c3, c4, c5⟩ := cstart_same (wld2 C ks) C.was
  have hlf : ∀ s, (cstart (wld2 C ks) C.was).lf s = C.wf s := fun s => by unfold Cch.lf Cch.wf; rw [c1]
  refine qui_of h.per h.cok h.dok h.two hk ks ⟨fun s h0 => ?_, fun x hx hn => ?_⟩
  · unfold shown
    rw [hlf] at h0 ⊢
    exact h.ws s h0
  · rw [start_dsk]
    show (kept C.W.dsk.waits ks).foldl (dstep x) (C.W.dsk.lasts x) = B x
    rw [h.wt]
    exact h.wd x hx (fun s h0 => by rw [← hlf] at h0 ⊢; exact hn s h0)
theorem Qui.read (h : Qui C D B k t) (hk : k ≤ 600000) {x : Nat} (hx : x < 32) : (cread C x).1 = 0 ∧ (cread C x).2.1 = B x ∧ ∃ D', Qui (cread C x).2.2 D' B (k + 3) (t + 1) := by
  obtain ⟨e1, e2, D', p, s, eD, ew, ed, eo, ek, ep⟩ := h.sh.read h.per h.cok h.dok h.on hx
  obtain ⟨_, _, _, _, r⟩ := (rel_refl h.per h.cok h.dok).read (by omega) hx
  have hwf : ∀ i, (cread C x).2.2.wf i = C.wf i := fun i => by unfold Cch.wf; rw [ew]
  refine ⟨e1, e2, D', p, s, r.ca, r.dok, eo, by rw [ek]; exact h.two, by rw [ep]; exact h.pois, fun i h0 => ?_, fun y hy hn => ?_, by rw [ed]; exact h.wt⟩
  · rw [hwf] at h0 ⊢
    rw [eD i h0]
    exact h.ws i h0
  · rw [ed]
    exact h.wd y hy (fun i h0 => by rw [← hwf] at h0 ⊢; exact hn i h0)
end
/-- what any act asks of a box -/
def Bst.may (S : Bst) (k t : Nat) : Prop := (∃ E, Per S.C E) ∧ Cok S.C k t ∧ (S.dead = false → S.C.tw) ∧ S.C.W.dsk.ok ∧ S.n ≤ 1000
/-- a box that shows B, now and behind crashes -/
def Bst.q (S : Bst) (B : Nat → By) (k t : Nat) : Prop := S.dead = false ∧ (∃ D, Qui S.C D B k t) ∧ S.n ≤ 1000
/-- a box behind a crash -/
def Bst.mid (S : Bst) (k t : Nat) : Prop := S.dead = false ∧ (∃ D, Per S.C D) ∧ Cok S.C k t ∧ S.C.W.dsk.ok ∧ S.C.W.kys.two = false ∧ S.n ≤ 1000
theorem tw_one {C : Cch} (h : C.W.kys.two = false) : C.tw := fun c => by rw [h] at c; cases c
section
variable {S : Bst} {B : Nat → By} {k t : Nat}
theorem Bst.q.may (h : S.q B k t) : S.may k t := by
  obtain ⟨h1, ⟨D, h2⟩, h3⟩ := h
  exact ⟨⟨D, h2.per⟩, h2.cok, fun _ => tw_one h2.two, h2.dok, h3⟩
theorem Bst.mid.may (h : S.mid k t) : S.may k t := by
  obtain ⟨h1, h2, h3, h4, h5, h6⟩ := h
  exact ⟨h2, h3, fun _ => tw_one h5, h4, h6⟩
theorem Bst.q.mono_ {k' t' : Nat} (h : S.q B k t) (hk : k ≤ k') (ht : t ≤ t') : S.q B k' t' := by
  obtain ⟨h1, ⟨D, h2⟩, h3⟩ := h
  exact ⟨h1, ⟨D, ⟨h2.per, h2.sh, h2.cok.mono hk ht, h2.dok, h2.on, h2.two, h2.pois, h2.ws, h2.wd, h2.wt⟩⟩, h3⟩
theorem bact3 (S : Bst) (kd l N : Int) (data : By) (ks : List Bool) : bact S 3 kd l N data ks = ((bcrash S ks).1, [], (bcrash S ks).2) := by
  unfold bact
  rw [if_neg (by decide), if_neg (by decide), if_pos rfl]
theorem bcrash_n (S : Bst) (ks : List Bool) : (bcrash S ks).2.n = S.n := rfl
theorem again_first (h : Rs S S k t) (hr : S.C.rf = false) (hk : k ≤ 600000) (ht : t ≤ 1000) (kd l N : Int) (data : By) (ks : List Bool) : (bact S 3 kd l N data ks).1 = 0 ∧ (bact S 3 kd l N data ks).2.1 = [] ∧ (bact S 3 kd l N data ks).2.2.mid (k + 134) 16 := by
  rw [bact3]
  obtain ⟨D, r⟩ := h.rel
  have hn := h.cnt.2
  obtain ⟨e, e2, p, c, d⟩ := open_on r.pa r.ca r.dok hr hk ks
  exact ⟨e, rfl, by show decide ((bopen S.C ks).1 ≠ 0) = false; rw [e]; rfl, ⟨D, p⟩, c, d, e2, by show S.n ≤ 1000; omega⟩
theorem again_second (h : S.mid k t) (hk : k ≤ 600000) (kd l N : Int) (data : By) (ks : List Bool) : (bact S 3 kd l N data ks).1 = 0 ∧ (bact S 3 kd l N data ks).2.1 = [] ∧ ∃ B, (bact S 3 kd l N data ks).2.2.q B (k + 34) 16 := by
  rw [bact3]
  obtain ⟨h1, ⟨D, h2⟩, h3, h4, h5, h6⟩ := h
  obtain ⟨e, B, q⟩ := open_qui h2 h3 h4 h5 hk ks
  exact ⟨e, rfl, B, by show decide ((bopen S.C ks).1 ≠ 0) = false; rw [e]; rfl, ⟨D, q⟩, h6⟩
theorem again_third (h : S.q B k t) (hk : k ≤ 600000) (kd l N : Int) (data : By) (ks : List Bool) : (bact S 3 kd l N data ks).1 = 0 ∧ (bact S 3 kd l N data ks).2.1 = [] ∧ (bact S 3 kd l N data ks).2.2.q B (k + 34) 16 := by
  rw [bact3]
  obtain ⟨h1, ⟨D, h2⟩, h3⟩ := h
  obtain ⟨e, q⟩ := h2.again hk ks
  exact ⟨e, rfl, by show decide ((bopen S.C ks).1 ≠ 0) = false; rw [e]; rfl, ⟨D, q⟩, h3⟩
theorem again_read (h : S.q B k t) (hk : k ≤ 600000) {x : Nat} (hx : x < 32) (N : Int) (ks : List Bool) : (bact S 1 1 x N [] ks).1 = 0 ∧ (bact S 1 1 x N [] ks).2.1 = B x ∧ (bact S 1 1 x N [] ks).2.2.q B (k + 3) (t + 1) := by
  obtain ⟨h1, ⟨D, h2⟩, h3⟩ := h
  have e : cdo S.C 1 x [] = cread S.C x := by
    unfold cdo
    rw [if_neg (by rw [h2.on.1]; simp), if_neg (by rw [h2.pois]; simp), if_neg (fun c => c (.inl ⟨.inl rfl, by omega, by omega⟩)), if_pos rfl, Int.toNat_natCast]
  have e2 : bact S 1 1 x N [] ks = ((cread S.C x).1, (cread S.C x).2.1, ⟨(cread S.C x).2.2, false, S.n⟩) := by
    unfold bact
    rw [if_pos rfl, h1, if_neg (by simp), e]
  rw [e2]
  obtain ⟨r1, r2, D', r3⟩ := h2.read hk hx
  exact ⟨r1, r2, rfl, ⟨D', r3⟩, h3⟩
theorem Bst.q.len (h : S.q B k t) {x : Nat} (hx : x < 32) : (B x).length = 32 := by
  obtain ⟨h1, ⟨D, h2⟩, h3⟩ := h
  rcases slotOf_bd S.C.now x with e | ⟨s, e, hs, a1, a2⟩
  · have hdr : dread S.C.W.dsk x = B x := h2.sh.disk x hx (fun s h1 h2 => slotOf_no (by omega) (lf_in h1) h1 h2)
    rw [← hdr]
    exact h2.dok.len hx
  · have a3 : (S.C.lf s).lba = x := a2
    have := h2.sh.leaf s a1
    rw [a3] at this
    rw [← this]
    unfold shown
    split
    · exact List.length_replicate
    · exact h2.per.dlen s
/-- no act but Refuse turns whether the disk refuses -/
theorem rf_act (S : Bst) {kind : Int} (h7 : kind ≠ 7) (kd l N : Int) (data : By) (ks : List Bool) : (bact S kind kd l N data ks).2.2.C.rf = S.C.rf := by
  unfold bact
  split
  · split
    · rfl
    · exact rf_do _ _ _ _
  · split
    · rfl
    · split
      · show (cfinish (cstart (wld2 S.C ks) S.C.was)).2.rf = _
        rw [rf_finish]
        show (cstart (wld2 S.C ks) S.C.was).W.dsk.refuses = _
        rw [start_dsk]
        rfl
      · split
        · rfl
        · rfl
end
theorem new_rf (n seed : Nat) (i : Bool) : (newC n seed i).rf = false := by
  show (newC n seed i).W.dsk.refuses = false
  rw [(newC_same n seed i).2.1, newW_bot]
end Go.Proofs.YtggmdjdflaglpaaGreat
