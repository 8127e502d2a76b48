/- What is read of the device behind a write, a barrier; what a leaf opens to behind each step (no walk). What the cache says is what was written last (no crash; a disk that refuses; no walk). What the cache says is what was written last: the calls. The cache: finish. -/
import Derived.Test.YtggmdjdflaglpaaGreatM33
namespace Go.Proofs.YtggmdjdflaglpaaGreat
open Go.RowKit Go.Proofs.YtggmdjdflaglpaaGreat.geo
set_option linter.unusedVariables false
theorem over_at {l : By} {o : Opn} (h : o.in_ l.length) (j : Nat) :
    (over l o)[j]? = if o.off.toNat ≤ j ∧ j < o.off.toNat + o.bytes.length then o.bytes[j - o.off.toNat]? else l[j]? := by
  obtain ⟨h0, h1, _⟩ := h
  unfold over
  have hl : (l.take o.off.toNat).length = o.off.toNat := by rw [List.length_take]; omega
  rw [List.append_assoc]
  by_cases c1 : j < o.off.toNat
  · rw [if_neg (by omega), List.getElem?_append_left (by omega), List.getElem?_take, if_pos c1]
  · rw [List.getElem?_append_right (by omega), hl]
    by_cases c2 : j < o.off.toNat + o.bytes.length
    · rw [if_pos ⟨by omega, c2⟩, List.getElem?_append_left (by omega)]
    · rw [if_neg (by omega), List.getElem?_append_right (by omega), List.getElem?_drop]
      congr 1
      omega
theorem over_far {l : By} {o : Opn} (h : o.in_ l.length) {p n : Nat} (hd : (p + n : Int) ≤ o.off ∨ o.off + o.bytes.length ≤ p) : ((over l o).drop p).take n = (l.drop p).take n := by
  apply List.ext_getElem?
  intro j
  rw [List.getElem?_take, List.getElem?_take]
  split
  · rename_i hj
    rw [List.getElem?_drop, List.getElem?_drop, over_at h, if_neg]
    have := h.1
    omega
  · rfl
theorem over_on {l : By} {o : Opn} (h : o.in_ l.length) {p : Nat} (hp : (p : Int) = o.off) : ((over l o).drop p).take o.bytes.length = o.bytes := by
  apply List.ext_getElem?
  intro j
  rw [List.getElem?_take]
  split
  · rename_i hj
    rw [List.getElem?_drop, over_at h, if_pos (by omega)]
    congr 1
    omega
  · rename_i hj
    rw [List.getElem?_eq_none (by omega)]
theorem snap_push (S : Ssd) (off : Int) (b : By) : snap (push S off b) = over (snap S) ⟨off, b⟩ := by
  unfold snap push
  simp only [List.foldl_append, List.foldl_cons, List.foldl_nil]
theorem sbytes_swr_far {W : Wld} {k : Nat} (hf : W.fit k) {off : Int} {b : By} (hin : (⟨off, b⟩ : Opn).in_ W.ssd.lasts.length) {p n : Nat} (hd : (p + n : Int) ≤ off ∨ off + b.length ≤ p) : (W.swr off b).sbytes p n = W.sbytes p n := by
  unfold Wld.sbytes Wld.swr
  simp only
  split
  · rw [snap_push]
    exact over_far (by rw [snap_len _ hf.wts]; exact hin) hd
  · rfl
theorem sbytes_swr_on {W : Wld} {k : Nat} (hf : W.fit k) {off : Int} {b : By} (hin : (⟨off, b⟩ : Opn).in_ W.ssd.lasts.length) {p : Nat} (hp : (p : Int) = off) (hs : (spend W.pow).2 = true) : (W.swr off b).sbytes p b.length = b := by
  unfold Wld.sbytes Wld.swr
  simp only
  rw [if_pos hs, snap_push]
  exact over_on (o := ⟨off, b⟩) (by rw [snap_len _ hf.wts]; exact hin) hp
theorem sbytes_sbar (W : Wld) (p n : Nat) : W.sbar.sbytes p n = W.sbytes p n := by
  unfold Wld.sbytes Wld.sbar
  simp only
  split <;> rfl
theorem sbytes_lck (W : Wld) (L : Lk) (p n : Nat) : (W.lck L).sbytes p n = W.sbytes p n := rfl
theorem sbytes_bmp (W : Wld) (p n : Nat) : W.bmp.sbytes p n = W.sbytes p n := rfl
/-- what opens goes on to open where the lock only grows, and the place and the keys are as they were -/
theorem vopen_le {W W' : Wld} {l : Lf} {s : Nat} {b : By} (h : W.vopen l s = some b) (hk : ∀ e, e ∈ W.kys.es → e ∈ W'.kys.es) (hs : W'.kys.seed = W.kys.seed) (hl : W.lk.le W'.lk) (hb : W'.sbytes (s * 32) 32 = W.sbytes (s * 32) 32) : W'.vopen l s = some b := by
  unfold Wld.vopen at h ⊢
  split at h
  · rename_i he
    rw [if_pos (hk _ he), hs, hb]
    exact Lk.opens_le hl h
  · cases h
section
variable {W : Wld} {M : Mk} {ls : List Lf} {k : Nat}
/-- a commit turns no slot's bytes -/
theorem sbytes_awr (hf : W.fit k) {j : Nat} (hj : j < 2) (hn : ls.length = W.slots) {s : Nat} (hs : s < W.slots) : (awr W j ls).2.2.sbytes (s * 32) 32 = W.sbytes (s * 32) 32 := by
  have hV := hf.geo
  have hn16 : 4 ≤ ls.length ∧ ls.length ≤ 16 := by unfold V at hV; omega
  have f1 : (aw1 W ls).fit (k + 32) := (hf.mono (by omega)).lck (bldL_lim hf.lk _ (by rw [List.length_map]; omega))
  have hkn := kn_le (n := ls.length) hj
  have i2 : (⟨((aoff ls.length j : Nat) : Int), allB ls ls.length⟩ : Opn).in_ (aw1 W ls).ssd.lasts.length := by
    refine in_gen (by rw [allB_len ls _ (Nat.le_refl _)]; omega) ?_
    show aoff ls.length j + _ ≤ W.ssd.lasts.length
    rw [hf.size, allB_len ls _ (Nat.le_refl _), ← hn]
    unfold aoff
    omega
  have f2 : (aw2 W j ls).fit (k + 34) := f1.swr i2
  have i3 : (⟨((noff ls.length j : Nat) : Int), sumB (bldN W.lk (ls.map leafB)) (2 * ls.length)⟩ : Opn).in_ (aw2 W j ls).ssd.lasts.length := by
    refine in_gen (by rw [sumB_len]; omega) ?_
    have hs := f2.size
    have hsl : (aw2 W j ls).slots = W.slots := rfl
    rw [hsl] at hs
    rw [hs, sumB_len, ← hn]
    unfold noff
    omega
  have e2 : (aw2 W j ls).sbytes (s * 32) 32 = W.sbytes (s * 32) 32 := by
    unfold aw2
    rw [sbytes_swr_far f1 i2 (.inl (by unfold aoff; omega))]
    rfl
  have e3 : (aw3 W j ls).sbytes (s * 32) 32 = W.sbytes (s * 32) 32 := by
    unfold aw3
    rw [sbytes_swr_far f2 i3 (.inl (by unfold noff; omega)), e2]
  unfold awr
  split
  · split
    · exact e3
    · exact e3
  · exact e2
theorem sbytes_lgput (hf : W.fit k) {c : Nat} {t : Two} {s : Nat} (hs : s < W.slots) : (lgput W M c t).2.1.sbytes (s * 32) 32 = W.sbytes (s * 32) 32 := by
  unfold lgput
  split
  · rfl
  · have f1 : (rlck W M c t).fit (k + 1) := (hf.mono (by omega)).lck (Lk.lim_shutd hf.lk _ _ _ _)
    have hl : (rrec W M c t).length = 60 := recB_len _ _ _ _ (Lk.shut_len _ _ _ _ _ (rootB_len _ _ _ _))
    have hm : c % 2 ≤ 1 := by omega
    have i1 : (⟨((roff W c : Nat) : Int), rrec W M c t⟩ : Opn).in_ (rlck W M c t).ssd.lasts.length := in_gen (by rw [hl]; omega) (by
      show roff W c + _ ≤ W.ssd.lasts.length
      rw [hf.size, hl]
      unfold roff
      omega)
    rw [sbytes_swr_far f1 i1 (.inl (by unfold roff; omega))]
    rfl
theorem sbytes_cmt (hf : W.fit k) (hk : k ≤ 900000) (hn : ls.length = W.slots) {s : Nat} (hs : s < W.slots) : (cmt W M ls).2.1.sbytes (s * 32) 32 = W.sbytes (s * 32) 32 := by
  have a1 : (cA W ls).2.2.sbytes (s * 32) 32 = W.sbytes (s * 32) 32 := sbytes_awr hf (mod2_lt _) hn hs
  have fa : (cA W ls).2.2.fit (k + 40) := awr_fit hf (mod2_lt _) hn
  have a2 : (cA W ls).2.2.sbar.sbytes (s * 32) 32 = W.sbytes (s * 32) 32 := (sbytes_sbar _ _ _).trans a1
  have g1 : (cG W M ls).2.1.sbytes (s * 32) 32 = W.sbytes (s * 32) 32 := (sbytes_lgput fa.sbar (by rw [show (cA W ls).2.2.sbar.slots = W.slots from (awr_slots W _ ls).1]; exact hs)).trans a2
  have g2 : (cG W M ls).2.1.sbar.sbytes (s * 32) 32 = W.sbytes (s * 32) 32 := (sbytes_sbar _ _ _).trans g1
  rw [cmt_eq]
  split
  · exact a1
  · split
    · exact a2
    · split
      · exact g1
      · split
        · exact g2
        · exact g2
end
theorem vopen_commit {C : Cch} {k t : Nat} (h : Cok C k t) (hk : k ≤ 900000) {s : Nat} (hs : s < C.now.length) {l : Lf} {b : By} (ho : C.W.vopen l s = some b) : (ccommit C).2.W.vopen l s = some b := by
  have hc := cmt_same C.W C.M C.now
  refine vopen_le ho (fun e he => ?_) ?_ hc.2.2.2.1 ?_
  · show e ∈ (cmt C.W C.M C.now).2.1.kys.es; rw [hc.2.1]; exact he
  · show (cmt C.W C.M C.now).2.1.kys.seed = _; rw [hc.2.1]
  · exact sbytes_cmt h.fit hk h.nl (by rw [← h.nl]; exact hs)
/-- a slot that is laid elsewhere -/
theorem vopen_lay {C : Cch} {k t : Nat} (h : Cok C k t) {s s' x : Nat} {data : By} (hd : data.length = 32) (hs' : s' < C.now.length) (hne : s ≠ s') {l : Lf} {b : By} (ho : C.W.vopen l s = some b) : (lwld C s' x data).vopen l s = some b := by
  have hlen : (lsh C s' x data).1.length = 32 := Lk.shut_len _ _ _ _ _ hd
  refine vopen_le ho (fun e he => he) rfl (Lk.le_shutd _ _ _ _ _) ?_
  unfold lwld
  have f1 : (C.W.lck (C.W.lk.shutd C.W.curKey (lnce C s') (headB x) data)).fit (k + 1) := (h.fit.mono (by omega)).lck (Lk.lim_shutd h.fit.lk _ _ _ _)
  rw [sbytes_swr_far f1 (lin_ok h hs' _ hlen) (by rw [hlen]; omega)]
  rfl
/-- the slot that was laid opens to what was laid -/
theorem vopen_laid {C : Cch} {k t : Nat} (h : Cok C k t) {s x : Nat} {data : By} (hd : data.length = 32) (hs : s < C.now.length) (hsp : (spend C.W.pow).2 = true) (d : Bool) : (lwld C s x data).vopen (lleaf C s x data d) s = some data := by
  have hlen : (lsh C s x data).1.length = 32 := Lk.shut_len _ _ _ _ _ hd
  have f1 : (C.W.lck (C.W.lk.shutd C.W.curKey (lnce C s) (headB x) data)).fit (k + 1) := (h.fit.mono (by omega)).lck (Lk.lim_shutd h.fit.lk _ _ _ _)
  have hb : (lwld C s x data).sbytes (s * 32) 32 = (lsh C s x data).1 := by
    have := sbytes_swr_on f1 (lin_ok h hs _ hlen) (p := s * 32) rfl hsp
    rw [hlen] at this
    exact this
  unfold Wld.vopen
  have he : (lleaf C s x data d).n.ep.toNat = C.W.kys.cur := by
    show ((lnce C s).ep).toNat = _
    simp [lnce, Mk.nonce]
  rw [he, if_pos, hb]
  · exact Lk.opens_shut h.good _ _ _ _ hd
  · show C.W.kys.cur ∈ C.W.kys.es
    unfold Kys.cur Kys.es
    split <;> simp
end Go.Proofs.YtggmdjdflaglpaaGreat
namespace Go.Proofs.YtggmdjdflaglpaaGreat
open Go.RowKit Go.Proofs.YtggmdjdflaglpaaGreat.geo
open Go.Proofs.YtggmdjdflaglpaaGreat.r27 (okc upd)
set_option linter.unusedVariables false
theorem slotOf_no {ls : List Lf} {k : Nat} (h : slotOf ls k < 0) {i : Nat} (hi : i < ls.length) (h0 : (ls.getD i Lf.no).kind ≠ 0) : (ls.getD i Lf.no).lba ≠ k := fun e => by
  have hm : i ∈ List.range' 0 (ls.length - 0) := by rw [List.mem_range'_1]; omega
  have hf : slotF ls k i = true := by unfold slotF Lf.hasL; rw [Bool.and_eq_true, decide_eq_true_eq, decide_eq_true_eq]; exact ⟨h0, e⟩
  unfold slotOf fstOf at h
  cases hq : (List.range' 0 (ls.length - 0)).find? (slotF ls k) with
  | none => exact absurd hf (by simpa using List.find?_eq_none.1 hq i hm)
  | some k => rw [hq] at h; simp at h; omega
theorem lf_drops {C : Cch} {s : Nat} (hs : s < C.now.length) (i : Nat) : (cdrops C s).lf i = if i = s then Lf.no else C.lf i := getD_set C.now s i Lf.no hs
theorem lf_put1 {C : Cch} {s : Nat} (hs : s < C.now.length) (l : Lf) (i : Nat) : (cput1 C s l).lf i = if i = s then l else C.lf i := getD_set C.now s i l hs
theorem lf_in {C : Cch} {i : Nat} (h : (C.lf i).kind ≠ 0) : i < C.now.length := by
  rcases Nat.lt_or_ge i C.now.length with c | c
  · exact c
  · rw [lf_out C c] at h
    exact absurd rfl h
/-- the leaves behind puts: the new one, and the old ones of other blocks -/
theorem lf_puts {C : Cch} {s : Nat} (hs : s < C.now.length) (h0 : (C.lf s).kind = 0) {l : Lf} (i : Nat) :
    (cputs C s l).lf i = l ∧ i = s ∨ (cputs C s l).lf i = Lf.no ∧ i ≠ s ∧ ((C.lf i).kind = 0 → C.lf i = Lf.no → True) ∧ slotOf C.now l.lba = i ∨ (cputs C s l).lf i = C.lf i ∧ i ≠ s ∧ slotOf C.now l.lba ≠ i := by
  unfold cputs
  rcases slotOf_bd C.now l.lba with e | ⟨x, e, hx, h1, h2⟩
  · rw [if_neg (by rw [e]; decide), lf_put1 hs, e]
    by_cases c : i = s
    · rw [if_pos c]; exact .inl ⟨rfl, c⟩
    · rw [if_neg c]; exact .inr (.inr ⟨rfl, c, by omega⟩)
  · have hxs : x ≠ s := fun c => by rw [c] at h1; exact h1 h0
    rw [if_pos (by rw [e]; omega), e, Int.toNat_natCast, lf_drops (by show x < (C.now.set s l).length; rw [List.length_set]; exact hx), lf_put1 hs]
    by_cases c : i = x
    · rw [if_pos c]; exact .inr (.inl ⟨rfl, by omega, fun _ _ => trivial, by rw [c]⟩)
    · rw [if_neg c]
      by_cases c2 : i = s
      · rw [if_pos c2]; exact .inl ⟨rfl, c2⟩
      · rw [if_neg c2]; exact .inr (.inr ⟨rfl, c2, by omega⟩)
/-- the power is on, with no fuse -/
def Pow.on (P : Pow) : Prop := P.gone = false ∧ P.fuse = false
theorem Pow.on.spend {P : Pow} (h : P.on) : (spend P).2 = true ∧ (spend P).1.on := by
  obtain ⟨h1, h2⟩ := h
  obtain ⟨g, f, l⟩ := P
  subst h1 h2
  exact ⟨rfl, rfl, rfl⟩
section
variable {W : Wld} {M : Mk} {ls : List Lf}
theorem on_awr (h : W.pow.on) (k : Nat) : (awr W k ls).2.2.pow.on := by
  have h1 : (aw2 W k ls).pow.on := h.spend.2
  have h2 : (aw3 W k ls).pow.on := h1.spend.2
  unfold awr
  rw [if_pos h.spend.1, if_pos h1.spend.1]
  exact h2
theorem on_lgput (h : W.pow.on) (c : Nat) (t : Two) : (lgput W M c t).2.1.pow.on := by
  unfold lgput
  split
  · exact h
  · exact Pow.on.spend (P := W.pow) h |>.2
theorem on_cmt (h : W.pow.on) : (cmt W M ls).2.1.pow.on ∧ ((cmt W M ls).1 = 0 ∨ (cmt W M ls).1 = 6) := by
  have a1 : (cA W ls).2.2.pow.on := on_awr h _
  have a2 : (cA W ls).2.2.sbar.pow.on := a1.spend.2
  have a3 : (cG W M ls).2.1.pow.on := on_lgput a2 _ _
  have a4 : (cG W M ls).2.1.sbar.pow.on := a3.spend.2
  have a5 : (cG W M ls).2.1.sbar.bmp.pow.on := a4.spend.2
  have hp : (cmt W M ls).2.1.pow.on := by
    rw [cmt_eq]
    split
    · exact a1
    · split
      · exact a2
      · split
        · exact a3
        · split
          · exact a4
          · exact a5
  refine ⟨hp, ?_⟩
  rcases cmt_err W M ls with c | c | c
  · exact .inl c.1
  · exact .inr c.1
  · have := c.2
    rw [hp.1] at this
    cases this
end
/-- what the cache, and the disk, hold is B -/
structure Inv (C : Cch) (B : Nat → By) : Prop where
  full : ∀ s, (C.lf s).kind = 1 → C.W.vopen (C.lf s) s = some (B (C.lf s).lba)
  zero : ∀ s, (C.lf s).kind = 2 → B (C.lf s).lba = nought
  one : ∀ s s', (C.lf s).kind ≠ 0 → (C.lf s').kind ≠ 0 → (C.lf s).lba = (C.lf s').lba → s = s'
  disk : ∀ x, x < 32 → (∀ s, (C.lf s).kind ≠ 0 → (C.lf s).lba = x → (C.lf s).dirty = false) → dread C.W.dsk x = B x
  len : ∀ x, x < 32 → (B x).length = 32
  on : C.W.pow.on
  pois : C.pois = false
section
variable {C : Cch} {B : Nat → By} {k t : Nat}
theorem kind_of (hC : Cok C k t) (s : Nat) : (C.lf s).kind = 0 ∨ (C.lf s).kind = 1 ∨ (C.lf s).kind = 2 := by have := (hC.ok s).bd.1; omega
theorem dirty_kind (hC : Cok C k t) {s : Nat} (h : (C.lf s).dirty = true) : (C.lf s).kind ≠ 0 := by
  rcases hC.ok s with e | ⟨x, _, e⟩ | ⟨e, _⟩
  · rw [e] at h; cases h
  · rw [e]; show (2 : Nat) ≠ 0; decide
  · rw [e]; decide
theorem Inv.val (h : Inv C B) (hC : Cok C k t) {s : Nat} (hs : (C.lf s).kind ≠ 0) : cval C s = (0, B (C.lf s).lba, C) := by
  unfold cval
  rcases kind_of hC s with e | e | e
  · exact absurd e hs
  · rw [if_neg (by omega), if_neg (by rw [h.on.1]; simp)]
    have := h.full s e
    unfold Cch.vopen
    rw [this]
  · rw [if_pos e, h.zero s e]
/-- the world turned, what opens opens, the disk reads as it read -/
theorem Inv.world (h : Inv C B) {C' : Cch} (hl : ∀ i, C'.lf i = C.lf i) (hp : C'.pois = C.pois) (hon : C'.W.pow.on) (hd : ∀ x, x < 32 → dread C'.W.dsk x = dread C.W.dsk x) (ho : ∀ s b, (C.lf s).kind = 1 → C.W.vopen (C.lf s) s = some b → C'.W.vopen (C.lf s) s = some b) : Inv C' B := by
  refine ⟨fun s hs => ?_, fun s hs => ?_, fun s s' h1 h2 => ?_, fun x hx hdr => ?_, h.len, hon, hp.trans h.pois⟩
  · rw [hl] at hs ⊢; exact ho s _ hs (h.full s hs)
  · rw [hl] at hs ⊢; exact h.zero s hs
  · rw [hl] at h1 h2 ⊢; rw [hl]; exact h.one s s' h1 h2
  · rw [hd x hx]; exact h.disk x hx (fun s h1 h2 => by have := hdr s; rw [hl] at this; exact this h1 h2)
theorem Inv.commit (h : Inv C B) (hC : Cok C k t) (hk : k ≤ 900000) : Inv (ccommit C).2 B ∧ ((ccommit C).1 = 0 ∨ (ccommit C).1 = 6) := by
  have hc := on_cmt (M := C.M) (ls := C.now) h.on
  refine ⟨h.world (C' := (ccommit C).2) (fun i => rfl) rfl hc.1 (fun x hx => ?_) (fun s b h1 h2 => vopen_commit hC hk (lf_in (by omega)) h2), hc.2⟩
  show dread (cmt C.W C.M C.now).2.1.dsk x = _
  rw [(cmt_same C.W C.M C.now).2.2.1]
theorem Inv.touch (h : Inv C B) (s : Nat) : Inv (ctouch C s) B := h.world (fun i => rfl) rfl h.on (fun x hx => rfl) (fun s b h1 h2 => h2)
theorem Inv.refuse (h : Inv C B) (b : Bool) : Inv (C.wld { C.W with dsk := { C.W.dsk with refuses := b } }) B := h.world (fun i => rfl) rfl h.on (fun x hx => rfl) (fun s b h1 h2 => h2)
theorem Inv.drops (h : Inv C B) {s : Nat} (hs : s < C.now.length) (h0 : (C.lf s).kind ≠ 0) (hd : (C.lf s).dirty = false ∨ dread C.W.dsk (C.lf s).lba = B (C.lf s).lba) : Inv (cdrops C s) B := by
  have hl := lf_drops (C := C) hs
  have hsub : ∀ i, ((cdrops C s).lf i).kind ≠ 0 → i ≠ s ∧ (cdrops C s).lf i = C.lf i := fun i hi => by
    rw [hl] at hi ⊢
    by_cases c : i = s
    · rw [if_pos c] at hi; exact absurd rfl hi
    · rw [if_neg c]; exact ⟨c, rfl⟩
  refine ⟨fun i hi => ?_, fun i hi => ?_, fun i j h1 h2 h3 => ?_, fun x hx hdr => ?_, h.len, h.on, h.pois⟩
  · obtain ⟨_, e⟩ := hsub i (by omega)
    rw [e] at hi ⊢; exact h.full i hi
  · obtain ⟨_, e⟩ := hsub i (by omega)
    rw [e] at hi ⊢; exact h.zero i hi
  · obtain ⟨_, e1⟩ := hsub i h1
    obtain ⟨_, e2⟩ := hsub j h2
    rw [e1] at h1 h3; rw [e2] at h2 h3
    exact h.one i j h1 h2 h3
  · show dread C.W.dsk x = B x
    by_cases c : (C.lf s).lba = x
    · rcases hd with hd | hd
      · refine h.disk x hx (fun i h1 h2 => ?_)
        have : i = s := h.one i s h1 h0 (h2.trans c.symm)
        rw [this]; exact hd
      · rw [← c]; exact hd
    · refine h.disk x hx (fun i h1 h2 => ?_)
      have hi : i ≠ s := fun e => c (by rw [← e]; exact h2)
      have := hdr i
      rw [hl, if_neg hi] at this
      exact this h1 h2
theorem dread_push (D : Dsk) (i : Int) (b : By) (x : Nat) : dread (dpush D i b) x = if i = (x : Int) then b else dread D x := by
  unfold dread dpush
  simp only [List.foldl_append, List.foldl_cons, List.foldl_nil]
  rfl
theorem dread_settled (D : Dsk) (x : Nat) : dread (dsettled D) x = dread D x := rfl
/-- spill: the disk refuses, or holds what the leaf held -/
theorem Inv.spill (h : Inv C B) (hC : Cok C k t) {s : Nat} (h0 : (C.lf s).kind ≠ 0) :
    Inv (cspill C s).2 B ∧ ((cspill C s).1 = 0 ∧ dread (cspill C s).2.W.dsk (C.lf s).lba = B (C.lf s).lba ∨ (cspill C s).1 = 5) ∧ (∀ x, dread C.W.dsk x = B x → dread (cspill C s).2.W.dsk x = B x) := by
  unfold cspill
  rw [h.val hC h0, if_neg (by simp)]
  simp only
  cases hr : C.W.dsk.refuses with
  | true =>
    have e : C.W.dwr (C.lf s).lba (B (C.lf s).lba) = C.W := by unfold Wld.dwr; rw [if_pos hr]
    have e2 : dwok C.W.pow C.W.dsk = false := by unfold dwok; rw [hr]; rfl
    rw [e, e2, if_neg (by simp), if_neg (by rw [h.on.1]; simp)]
    exact ⟨h, .inr rfl, fun x hx => hx⟩
  | false =>
    have e2 : dwok C.W.pow C.W.dsk = true := by unfold dwok; rw [hr, h.on.spend.1]; rfl
    have e : (C.W.dwr (C.lf s).lba (B (C.lf s).lba)).dsk = dpush C.W.dsk (C.lf s).lba (B (C.lf s).lba) := by unfold Wld.dwr; rw [if_neg (by rw [hr]; simp)]; simp only; rw [if_pos h.on.spend.1]
    have e3 : (C.W.dwr (C.lf s).lba (B (C.lf s).lba)).pow.on := by unfold Wld.dwr; rw [if_neg (by rw [hr]; simp)]; exact h.on.spend.2
    have hx : ∀ x, dread C.W.dsk x = B x → dread (C.W.dwr (C.lf s).lba (B (C.lf s).lba)).dsk x = B x := fun x hx => by
      rw [e, dread_push]
      split
      · rename_i c
        rw [show x = (C.lf s).lba by omega]
      · exact hx
    rw [e2, if_pos rfl]
    refine ⟨?_, .inl ⟨rfl, ?_⟩, hx⟩
    · have hv : ∀ l i, (C.W.dwr (C.lf s).lba (B (C.lf s).lba)).vopen l i = C.W.vopen l i := fun l i => by unfold Wld.dwr; split <;> rfl
      exact ⟨fun i hi => (hv _ _).trans (h.full i hi), h.zero, h.one, fun x hx1 hd => hx x (h.disk x hx1 hd), h.len, e3, h.pois⟩
    · show dread (C.W.dwr (C.lf s).lba (B (C.lf s).lba)).dsk (C.lf s).lba = _
      rw [e, dread_push, if_pos rfl]
theorem Inv.dbar (h : Inv C B) : Inv (C.wld C.W.dbar) B := by
  have e : ∀ x, dread C.W.dbar.dsk x = dread C.W.dsk x := fun x => by unfold Wld.dbar; simp only; split <;> rfl
  exact h.world (fun i => rfl) rfl h.on.spend.2 (fun x _ => e x) (fun s b h1 h2 => h2)
/-- what a step may end with where it is not done -/
def off56 (e : Int) : Prop := e = 5 ∨ e = 6
theorem Inv.evict (h : Inv C B) (hC : Cok C k t) (hk : k ≤ 800000) {s : Nat} (h0 : (C.lf s).kind ≠ 0) : Inv (cevict C s).2 B ∧ ((cevict C s).1 = 0 ∨ off56 (cevict C s).1) := by
  have hs := lf_in h0
  have h1 := h.spill hC h0
  have hn := cspill_now C s
  unfold cevict
  cases hd : (C.lf s).dirty with
  | false =>
    rw [if_neg (by simp)]
    have h2 := (h.drops hs h0 (.inl hd)).commit (hC.drops hs) (by omega)
    exact ⟨h2.1, h2.2.imp id .inr⟩
  | true =>
    rw [if_pos rfl]
    rcases h1.2.1 with ⟨e, hdr⟩ | e
    · rw [if_neg (by rw [e]; simp), if_neg (by rw [h1.1.on.spend.1]; simp)]
      have hlf : (cspill C s).2.lf s = C.lf s := by unfold Cch.lf; rw [hn.1]
      have hC2 := (hC.spill s).dbar
      have h3 := h1.1.dbar
      have hl3 : ((cspill C s).2.wld (cspill C s).2.W.dbar).lf s = C.lf s := hlf
      have hd3 : dread ((cspill C s).2.wld (cspill C s).2.W.dbar).W.dsk (C.lf s).lba = B (C.lf s).lba := by
        have : dread (cspill C s).2.W.dbar.dsk (C.lf s).lba = dread (cspill C s).2.W.dsk (C.lf s).lba := by unfold Wld.dbar; simp only; split <;> rfl
        exact this.trans hdr
      have hs3 : s < ((cspill C s).2.wld (cspill C s).2.W.dbar).now.length := by show s < (cspill C s).2.now.length; rw [hn.1]; exact hs
      have h4 := (h3.drops hs3 (by rw [hl3]; exact h0) (.inr (by rw [hl3]; exact hd3))).commit (hC2.drops hs3) (by omega)
      exact ⟨h4.1, h4.2.imp id .inr⟩
    · rw [if_pos (by rw [e]; simp)]
      exact ⟨h1.1, .inr (.inl e)⟩
theorem Inv.room (h : Inv C B) (hC : Cok C k t) (hk : k ≤ 700000) : Inv (croom C).2 B ∧ ((croom C).1 = 0 ∨ off56 (croom C).1) := by
  unfold croom
  split
  · exact ⟨h, .inl rfl⟩
  · have h1 := h.commit hC (by omega)
    split
    · rename_i h2
      exact ⟨h1.1, h1.2.imp id .inr⟩
    · rename_i h2
      split
      · exact ⟨h1.1, .inl rfl⟩
      · rename_i h3
        have hCc := hC.commit (by omega)
        have ho := oldest_lt hCc (by omega) (commit_was h2)
        have hk0 : ((ccommit C).2.lf (oldest (ccommit C).2)).kind ≠ 0 := by
          refine (hCc.age _).1 ?_
          rw [ho.2.2]
          unfold om
          rw [if_neg ho.2.1]
          exact el_mem (List.length_pos_iff.2 ho.2.1)
        exact h1.1.evict hCc (by omega) hk0
/-- a leaf is put at a free slot -/
theorem Inv.puts (h : Inv C B) {s x : Nat} {d : By} {W' : Wld} {M' : Mk} (hs : s < C.now.length) (h0 : (C.lf s).kind = 0) (hx : x < 32) {l : Lf} (hlx : l.lba = x) (hk0 : l.kind ≠ 0) (hd : d.length = 32)
    (h1 : l.kind = 1 → W'.vopen l s = some d) (h2 : l.kind = 2 → d = nought) (hcl : l.dirty = false → dread C.W.dsk x = d) (hds : W'.dsk = C.W.dsk) (hon : W'.pow.on)
    (ho : ∀ i b, i ≠ s → (C.lf i).kind = 1 → C.W.vopen (C.lf i) i = some b → W'.vopen (C.lf i) i = some b) (hkn : l.kind = 1 ∨ l.kind = 2) :
    Inv (cputs ⟨W', M', C.now, C.was, C.age, C.T, C.pois⟩ s l) (upd B x d) := by
  obtain ⟨C1, hC1⟩ : ∃ C1 : Cch, C1 = ⟨W', M', C.now, C.was, C.age, C.T, C.pois⟩ := ⟨_, rfl⟩
  have hnow : C1.now = C.now := by rw [hC1]
  have hlf1 : ∀ i, C1.lf i = C.lf i := fun i => by unfold Cch.lf; rw [hnow]
  have hW1 : (cputs C1 s l).W = W' := by rw [(cputs_W C1 s l).1, hC1]
  have hp1 : (cputs C1 s l).pois = C.pois := by
    rw [hC1]; unfold cputs; split <;> rfl
  rw [← hC1]
  have hall := fun i => lf_puts (C := C1) (s := s) (by rw [hnow]; exact hs) (by rw [hlf1]; exact h0) (l := l) i
  -- a leaf behind puts: the new one, or an old one of another block
  have hsub : ∀ i, ((cputs C1 s l).lf i).kind ≠ 0 → ((cputs C1 s l).lf i = l ∧ i = s) ∨ ((cputs C1 s l).lf i = C.lf i ∧ i ≠ s ∧ (C.lf i).kind ≠ 0 ∧ (C.lf i).lba ≠ x) := fun i hi => by
    rcases hall i with c | c | c
    · exact .inl c
    · rw [c.1] at hi; exact absurd rfl hi
    · rw [hlf1] at c
      refine .inr ⟨c.1, c.2.1, by rw [← c.1]; exact hi, fun e => ?_⟩
      have hk : (C.lf i).kind ≠ 0 := by rw [← c.1]; exact hi
      have hc2 := c.2.2
      rw [hnow, hlx] at hc2
      rcases slotOf_bd C.now x with q | ⟨y, q, hy, h3, h4⟩
      · exact slotOf_no (by omega) (lf_in hk) hk e
      · have : i = y := h.one i y hk h3 (e.trans h4.symm)
        exact hc2 (by rw [q, this])
  refine ⟨fun i hi => ?_, fun i hi => ?_, fun i j h3 h4 h5 => ?_, fun y hy hdr => ?_, fun y hy => ?_, by rw [hW1]; exact hon, hp1.trans h.pois⟩
  · rw [hW1]
    rcases hsub i (by omega) with ⟨e, rfl⟩ | ⟨e, hne, hk, hl⟩
    · rw [e] at hi ⊢
      rw [h1 hi]; unfold upd; rw [if_pos hlx]
    · rw [e] at hi ⊢
      rw [ho i _ hne hi (h.full i hi)]; unfold upd; rw [if_neg hl]
  · rcases hsub i (by omega) with ⟨e, rfl⟩ | ⟨e, hne, hk, hl⟩
    · rw [e] at hi ⊢
      unfold upd; rw [if_pos hlx]; exact h2 hi
    · rw [e] at hi ⊢
      unfold upd; rw [if_neg hl]; exact h.zero i hi
  · rcases hsub i h3 with ⟨e1, rfl⟩ | ⟨e1, hne1, hk1, hl1⟩
    · rcases hsub j h4 with ⟨e2, rfl⟩ | ⟨e2, hne2, hk2, hl2⟩
      · rfl
      · rw [e1, e2] at h5; exact absurd (h5.symm.trans hlx) hl2
    · rcases hsub j h4 with ⟨e2, rfl⟩ | ⟨e2, hne2, hk2, hl2⟩
      · rw [e1, e2] at h5; exact absurd (h5.trans hlx) hl1
      · rw [e1, e2] at h5; exact h.one i j hk1 hk2 h5
  · rw [hW1, hds]
    have hnew : (cputs C1 s l).lf s = l := by
      rcases hall s with c | c | c
      · exact c.1
      · exact absurd rfl c.2.1
      · exact absurd rfl c.2.1
    unfold upd
    by_cases c : y = x
    · rw [if_pos c, c]
      have := hdr s
      rw [hnew] at this
      exact hcl (this hk0 (hlx.trans c.symm))
    · rw [if_neg c]
      refine h.disk y hy (fun i h6 h7 => ?_)
      rcases hall i with q | q | q
      · have hi : i = s := q.2
        rw [hi] at h6; exact absurd h0 h6
      · have hq := q.2.2.2
        rw [hnow, hlx] at hq
        rcases slotOf_bd C.now x with q2 | ⟨z, q2, hz, h8, h9⟩
        · omega
        · have : i = z := by omega
          rw [← this] at h9
          exact absurd (h7.symm.trans h9) c
      · rw [hlf1] at q
        have := hdr i
        rw [q.1] at this
        exact this h6 h7
  · unfold upd
    split
    · exact hd
    · exact h.len y hy
end
end Go.Proofs.YtggmdjdflaglpaaGreat
namespace Go.Proofs.YtggmdjdflaglpaaGreat
open Go.RowKit Go.Proofs.YtggmdjdflaglpaaGreat.geo
open Go.Proofs.YtggmdjdflaglpaaGreat.r27 (okc upd)
set_option linter.unusedVariables false
section
variable {C : Cch} {B : Nat → By} {k t : Nat}
/-- the dirty ones of the first i slots lie on the disk, or it refuses -/
theorem Inv.spills (h : Inv C B) (hC : Cok C k t) : ∀ i, Inv (cspills C i).2.1 B ∧ (∀ x, dread C.W.dsk x = B x → dread (cspills C i).2.1.W.dsk x = B x) ∧
    (((cspills C i).1 = 0 ∧ ∀ j, j < i → (C.lf j).dirty = true → dread (cspills C i).2.1.W.dsk (C.lf j).lba = B (C.lf j).lba) ∨ (cspills C i).1 = 5)
  | 0 => ⟨h, fun x hx => hx, .inl ⟨rfl, fun j hj => absurd hj (Nat.not_lt_zero j)⟩⟩
  | i + 1 => by
    obtain ⟨ih1, ih2, ih3⟩ := h.spills hC i
    unfold cspills
    rcases ih3 with ⟨e, hj⟩ | e
    · rw [if_neg (by rw [e]; simp)]
      cases hd : (C.lf i).dirty with
      | false =>
        rw [if_neg (by simp)]
        refine ⟨ih1, ih2, .inl ⟨e, fun j hji hdj => ?_⟩⟩
        by_cases c : j = i
        · rw [c, hd] at hdj; cases hdj
        · exact hj j (by omega) hdj
      | true =>
        rw [if_pos rfl]
        have hlf : (cspills C i).2.1.lf i = C.lf i := by unfold Cch.lf; rw [(cspills_now C i).1]
        have hs := ih1.spill (hC.spills i) (s := i) (by rw [hlf]; exact dirty_kind hC hd)
        rw [hlf] at hs
        refine ⟨hs.1, fun x hx => hs.2.2 x (ih2 x hx), ?_⟩
        rcases hs.2.1 with ⟨e1, e2⟩ | e1
        · refine .inl ⟨e1, fun j hji hdj => ?_⟩
          by_cases c : j = i
          · rw [c]; exact e2
          · exact hs.2.2 _ (hj j (by omega) hdj)
        · exact .inr e1
    · rw [if_pos (by rw [e]; simp)]
      exact ⟨ih1, ih2, .inr e⟩
theorem lf_clear (C : Cch) (i : Nat) : (cclear C).lf i = Lf.no := by
  show (List.replicate C.now.length Lf.no).getD i Lf.no = _
  rw [List.getD_eq_getElem?_getD, List.getElem?_replicate]
  split <;> rfl
/-- nothing in memory, all on the disk -/
theorem Inv.clear (h : Inv C B) (hC : Cok C k t) (hd : ∀ j, (C.lf j).dirty = true → dread C.W.dsk (C.lf j).lba = B (C.lf j).lba) : Inv (cclear C) B := by
  have hl := lf_clear C
  refine ⟨fun i hi => ?_, fun i hi => ?_, fun i j h1 => ?_, fun x hx _ => ?_, h.len, h.on, h.pois⟩
  · rw [hl] at hi; exact absurd hi (by decide)
  · rw [hl] at hi; exact absurd hi (by decide)
  · rw [hl] at h1; exact absurd rfl h1
  · show dread C.W.dsk x = B x
    by_cases c : ∃ j, (C.lf j).dirty = true ∧ (C.lf j).lba = x
    · obtain ⟨j, h1, h2⟩ := c
      rw [← h2]; exact hd j h1
    · refine h.disk x hx (fun s h1 h2 => ?_)
      cases hq : (C.lf s).dirty with
      | false => rfl
      | true => exact absurd ⟨s, hq, h2⟩ c
theorem Inv.empty (h : Inv C B) (hC : Cok C k t) : Inv (cempty C).2 B ∧ (((cempty C).1 = 0 ∧ ∀ i, ((cempty C).2.lf i) = Lf.no) ∨ off56 (cempty C).1) := by
  obtain ⟨h1, h2, h3⟩ := h.spills hC C.now.length
  have hn := cspills_now C C.now.length
  have hlf : ∀ j, (cspills C C.now.length).2.1.lf j = C.lf j := fun j => by unfold Cch.lf; rw [hn.1]
  have hin : ∀ j, (C.lf j).dirty = true → j < C.now.length := fun j hj => lf_in (dirty_kind hC hj)
  unfold cempty
  rcases h3 with ⟨e, hj⟩ | e
  · rw [if_neg (by rw [e]; simp)]
    have hCs := hC.spills C.now.length
    split
    · rw [if_neg (by rw [h1.on.spend.1]; simp)]
      refine ⟨h1.dbar.clear hCs.dbar (fun j hd => ?_), .inl ⟨rfl, fun i => lf_clear _ i⟩⟩
      have hlj : ((cspills C C.now.length).2.1.wld (cspills C C.now.length).2.1.W.dbar).lf j = C.lf j := hlf j
      rw [hlj] at hd ⊢
      have : dread (cspills C C.now.length).2.1.W.dbar.dsk (C.lf j).lba = dread (cspills C C.now.length).2.1.W.dsk (C.lf j).lba := by unfold Wld.dbar; simp only; split <;> rfl
      exact this.trans (hj j (hin j hd) hd)
    · refine ⟨h1.clear hCs (fun j hd => ?_), .inl ⟨rfl, fun i => lf_clear _ i⟩⟩
      rw [hlf] at hd ⊢
      exact hj j (hin j hd) hd
  · rw [if_pos (by rw [e]; simp)]
    exact ⟨h1, .inr (.inl e)⟩
/-- keys turn where nothing is in memory -/
theorem Inv.keys (h : Inv C B) {W' : Wld} (hl : ∀ i, C.lf i = Lf.no) (hon : W'.pow.on) (hd : W'.dsk = C.W.dsk) : Inv (C.wld W') B :=
  h.world (fun i => rfl) rfl hon (fun x hx => by show dread W'.dsk x = _; rw [hd]) (fun s b h1 h2 => by rw [hl] at h1; exact absurd h1 (by decide))
theorem Inv.forget (h : Inv C B) (hC : Cok C k t) (hk : k ≤ 900000) (hl : ∀ i, C.lf i = Lf.no) : Inv (cforget C).2 B ∧ ((cforget C).1 = 0 ∨ off56 (cforget C).1) := by
  have h1 := h.commit hC hk
  unfold cforget
  split
  · exact ⟨h1.1, h1.2.imp id .inr⟩
  · rw [if_pos h1.1.on.spend.1]
    exact ⟨h1.1.keys hl h1.1.on.spend.2 rfl, .inl rfl⟩
theorem Inv.rotate (h : Inv C B) (hC : Cok C k t) (hk : k ≤ 700000) : Inv (crotate C).2 B ∧ ((crotate C).1 = 0 ∨ off56 (crotate C).1) := by
  have h1 := h.commit hC (by omega)
  have hC1 := hC.commit (by omega)
  unfold crotate
  split
  · exact ⟨h1.1, h1.2.imp id .inr⟩
  · have h2 := h1.1.empty hC1
    have hC2 := hC1.empty
    rcases h2.2 with ⟨e, hl⟩ | e
    · rw [if_neg (by rw [e]; simp), if_neg (by rw [h2.1.on.spend.1]; simp)]
      have h3 : Inv ((cempty (ccommit C).2).2.wld (cempty (ccommit C).2).2.W.kadd) B := h2.1.keys hl h2.1.on.spend.2 rfl
      have hC3 : Cok ((cempty (ccommit C).2).2.wld (cempty (ccommit C).2).2.W.kadd) (k + 83) t := hC2.wld hC2.fit.kadd hC2.good rfl (by show 1 ≤ (if (spend (cempty (ccommit C).2).2.W.pow).2 then (⟨_, _, true⟩ : Kys) else _).a; split <;> exact hC2.ka)
      exact h3.forget hC3 (by omega) hl
    · rw [if_pos (by rcases e with e | e <;> rw [e] <;> simp)]
      exact ⟨h2.1, .inr e⟩
theorem Inv.lay (h : Inv C B) (hC : Cok C k t) {s x : Nat} {data : By} {d : Bool} (hs : s < C.now.length) (h0 : (C.lf s).kind = 0) (hx : x < 32) (hd : data.length = 32) (hcl : d = false → dread C.W.dsk x = data) :
    (clay C s x data d).1 = 0 ∧ Inv (cputs (clay C s x data d).2.2 s (clay C s x data d).2.1) (upd B x data) ∨ (clay C s x data d).1 = 6 ∧ (clay C s x data d).2.2 = C ∧ C.M.n = 100 := by
  rcases clay_err C s x data d with ⟨e1, e2, e3⟩ | ⟨e1, e2, e3⟩ | ⟨e1, e2, e3, e4⟩
  · refine .inl ⟨e1, ?_⟩
    rw [e2]
    exact h.puts (W' := lwld C s x data) (M' := C.M.up) (l := lleaf C s x data d) hs h0 hx rfl Nat.one_ne_zero hd (fun _ => vopen_laid hC hd hs h.on.spend.1 d) (fun c => absurd c (by show (1 : Nat) ≠ 2; decide)) hcl rfl h.on.spend.2 (fun i b hi h1 h2 => vopen_lay hC hd hs hi h2) (.inl rfl)
  · exact .inr ⟨e1, by rw [e2], e3⟩
  · rw [h.on.spend.1] at e4; cases e4
theorem upd_same {x : Nat} {d : By} (hd : d = B x) : upd B x d = B := by
  funext i
  unfold upd
  split
  · rename_i e; rw [e]; exact hd
  · rfl
theorem Inv.read (h : Inv C B) (hC : Cok C k t) {x : Nat} (hx : x < 32) : (cread C x).1 = 0 ∧ (cread C x).2.1 = B x ∧ Inv (cread C x).2.2 B := by
  unfold cread
  rcases slotOf_bd C.now x with e | ⟨s, e, hs, h1, h2⟩
  · have hdr : dread C.W.dsk x = B x := h.disk x hx (fun s h1 h2 => absurd h2 (slotOf_no (by omega) (lf_in h1) h1))
    rw [if_neg (by rw [e]; decide), if_neg (by rw [h.on.1]; simp)]
    split
    · exact ⟨rfl, hdr, h⟩
    · rename_i hf
      rcases free_bd C with q | ⟨s, q, hs, h0, _⟩
      · exact absurd (.inl (by omega)) hf
      · rw [q, Int.toNat_natCast]
        rcases h.lay hC (d := false) hs h0 hx (by rw [hdr]; exact h.len x hx) (fun _ => rfl) with ⟨c1, c2⟩ | ⟨c1, c2, c3⟩
        · rw [if_neg (by rw [c1]; simp)]
          rw [upd_same hdr] at c2
          exact ⟨rfl, hdr, c2⟩
        · exact absurd (.inr c3) hf
  · rw [e, if_pos (by omega), Int.toNat_natCast]
    have hv := h.val hC (s := s) h1
    have h2' : (C.lf s).lba = x := h2
    rw [hv, h2']
    rw [if_neg (by simp)]
    exact ⟨rfl, rfl, h.touch s⟩
theorem Inv.write (h : Inv C B) (hC : Cok C k t) (hk : k ≤ 700000) {x : Nat} (hx : x < 32) {data : By} (hd : data.length = 32) : (cwrite C x data).1 = 0 ∧ Inv (cwrite C x data).2 (upd B x data) ∨ off56 (cwrite C x data).1 ∧ Inv (cwrite C x data).2 B := by
  have h1 := h.room hC hk
  have hC1 := hC.room hk
  have hfr := room_free hC hk
  unfold cwrite
  split
  · rename_i hne
    rcases h1.2 with e | e
    · exact absurd e hne
    · exact .inr ⟨e, h1.1⟩
  · rename_i he
    have hf := hfr (by omega)
    rcases free_bd (croom C).2 with q | ⟨s, q, hs, h0, _⟩
    · omega
    · rw [q, Int.toNat_natCast]
      rcases h1.1.lay hC1 (d := true) hs h0 hx hd (fun c => by cases c) with ⟨c1, c2⟩ | ⟨c1, c2, _⟩
      · rw [if_neg (by rw [c1]; simp)]
        exact .inl ⟨rfl, c2⟩
      · rw [if_pos (by rw [c1]; simp)]
        exact .inr ⟨.inr c1, by simp only; rw [c2]; exact h1.1⟩
theorem Inv.discard (h : Inv C B) (hC : Cok C k t) (hk : k ≤ 700000) {x : Nat} (hx : x < 32) : (cdiscard C x).1 = 0 ∧ Inv (cdiscard C x).2 (upd B x nought) ∨ off56 (cdiscard C x).1 ∧ Inv (cdiscard C x).2 B := by
  have h1 := h.room hC hk
  have hfr := room_free hC hk
  unfold cdiscard
  split
  · rename_i hne
    rcases h1.2 with e | e
    · exact absurd e hne
    · exact .inr ⟨e, h1.1⟩
  · rename_i he
    have hf := hfr (by omega)
    rcases free_bd (croom C).2 with q | ⟨s, q, hs, h0, _⟩
    · omega
    · rw [q, Int.toNat_natCast]
      refine .inl ⟨rfl, ?_⟩
      exact h1.1.puts (W' := (croom C).2.W) (M' := (croom C).2.M) (l := Lf.zero x) hs h0 hx rfl (by show (2 : Nat) ≠ 0; decide) (by simp [nought]) (fun c => absurd c (by show (2 : Nat) ≠ 1; decide)) (fun _ => rfl) (fun c => by cases c) rfl h1.1.on (fun i b hi h1 h2 => h2) (.inr rfl)
/-- what a call does to the blocks -/
def bnext (B : Nat → By) (kd l : Int) (data : By) : Nat → By := if kd = 2 then upd B l.toNat data else if kd = 4 then upd B l.toNat nought else B
/-- what a call that is well says -/
def btell (B : Nat → By) (kd l : Int) : By := if kd = 1 then B l.toNat else []
/-- a call that may be: it is done as the blocks say, or not at all -/
theorem Inv.do_ (h : Inv C B) (hC : Cok C k t) (hk : k ≤ 700000) {kd l : Int} {data : By} (hok : okc kd l data.length) :
    (cdo C kd l data).1 = 0 ∧ (cdo C kd l data).2.1 = btell B kd l ∧ Inv (cdo C kd l data).2.2 (bnext B kd l data) ∨ off56 (cdo C kd l data).1 ∧ Inv (cdo C kd l data).2.2 B := by
  unfold cdo
  rw [if_neg (by rw [h.on.1]; simp), if_neg (by rw [h.pois]; simp), if_neg (not_not_intro hok)]
  rcases hok with ⟨hk', l0, l1⟩ | ⟨rfl, ⟨l0, l1⟩, hn⟩ | hk'
  · have hx : l.toNat < 32 := by omega
    rcases hk' with rfl | rfl
    · rw [if_pos rfl]
      exact .inl (h.read hC hx)
    · rw [if_neg (by decide), if_neg (by decide), if_neg (by decide), if_pos rfl]
      rcases h.discard hC hk hx with ⟨e1, e2⟩ | ⟨e1, e2⟩
      · exact .inl ⟨e1, rfl, e2⟩
      · exact .inr ⟨e1, e2⟩
  · have hx : l.toNat < 32 := by omega
    rw [if_neg (by decide), if_pos rfl]
    rcases h.write hC hk hx hn with ⟨e1, e2⟩ | ⟨e1, e2⟩
    · exact .inl ⟨e1, rfl, e2⟩
    · exact .inr ⟨e1, e2⟩
  · rcases hk' with rfl | rfl
    · rw [if_neg (by decide), if_neg (by decide), if_pos rfl]
      have := h.commit hC (by omega)
      rcases this.2 with e | e
      · exact .inl ⟨e, rfl, this.1⟩
      · exact .inr ⟨.inr e, this.1⟩
    · rw [if_neg (by decide), if_neg (by decide), if_neg (by decide), if_neg (by decide)]
      have := h.rotate hC hk
      rcases this.2 with e | e
      · exact .inl ⟨e, rfl, this.1⟩
      · exact .inr ⟨e, this.1⟩
theorem Inv.do_not (h : Inv C B) {kd l : Int} {data : By} (hok : ¬ okc kd l data.length) : cdo C kd l data = (1, [], C) := by
  unfold cdo
  rw [if_neg (by rw [h.on.1]; simp), if_neg (by rw [h.pois]; simp), if_pos hok]
end
end Go.Proofs.YtggmdjdflaglpaaGreat
namespace Go.Proofs.YtggmdjdflaglpaaGreat
open Go.RowKit Go.Proofs.YtggmdjdflaglpaaGreat.geo
set_option linter.unusedVariables false
def cfinish (C : Cch) : Int × Cch :=
  if C.W.kys.two = false then (0, C) else if (cempty C).1 ≠ 0 then cempty C else cforget (cempty C).2
/-- the cache behind an error, or behind none; its age may be another block -/
def CcX (ρ : Rl) (a : Ads) (cc m : Nat) (R : Int × Cch) (w : World) (e : Ending) (w' : World) : Prop :=
  e = .returned (.int .i64 R.1) ∧ ∃ ρ' ag', CchR ρ' w' a cc m ag' R.2 ∧ Ste rtC ρ w ρ' w'
set_option maxHeartbeats 4000000 in
set_option maxRecDepth 100000 in
theorem finish_ok (HO : OpenOk) (HS : SumOk) (HT : ShutOk) (ρ : Rl) (a : Ads) (cc m ag : Nat) (C : Cch) (k t : Nat) (w : World) (hf : Fresh ρ w) (h : CchR ρ w a cc m ag C) (hC : Cok C k t) (hk6 : k ≤ 400000) :
    Calls Tryz.prog 43 #[.pointer (some ⟨cc, 0, none⟩)] w (CcX ρ a cc m (cfinish C) w) := by
  have hR : cfinish C = if C.W.kys.two = false then (0, C) else if (cempty C).1 ≠ 0 then cempty C else cforget (cempty C).2 := rfl
  obtain ⟨R, hRR⟩ : ∃ R, R = cfinish C := ⟨_, rfl⟩
  rw [← hRR] at hR
  rw [← hRR]
  have hep := epochs_ok ρ a.p a.k C.W.kys w h.wld.2.2.2.2.2.2.2.2.1
  have hes := C.W.kys.es_len
  have h' := h
  obtain ⟨vn, vw, hb, _, hw, _⟩ := h'
  have c0 := hb.cell_ 0 rfl
  have c5 := hw.1.cell_ 5 rfl
  have lc := hb.lt
  have lw := hw.1.lt
  cases htw : C.W.kys.two with
  | false =>
    rw [if_pos htw] at hR
    rw [htw, if_neg (by simp)] at hes
    rw [hes] at hep
    have H := Lib.hid (And.intro h hR)
    clear h hC hR hRR hb hw hes htw
    go_enter Tryz.func43, Tryz.ntmps43
    go_wp2_with fail
    refine hep.mono ?_
    rintro e w1 ⟨v, rfl, ho, q⟩
    clear hep
    obtain ⟨A, c, rfl⟩ := row_form ho
    have HQ := Lib.hid q
    clear ho q
    go_wp2_with fail
    go_ret
    obtain ⟨h, hR⟩ := H.out
    rw [hR]
    exact ⟨rfl, ρ, ag, h.below_ HQ.out, Ste.of_below HQ.out hf⟩
  | true =>
    rw [if_neg (by rw [htw]; simp)] at hR
    rw [htw, if_pos rfl] at hes
    rw [hes] at hep
    have hCe := hC.empty
    have hen := cempty_now C
    have hem := fun w' h1 h2 => empty_ok HO ρ a cc m ag C k t w' h1 h2 hC (by omega)
    obtain ⟨E, hE⟩ : ∃ E, E = cempty C := ⟨_, rfl⟩
    rw [← hE] at hR hCe hen hem
    obtain ⟨ee, eC⟩ := E
    simp only at hR hCe hen hem
    have H := Lib.hid (And.intro h (And.intro hR (And.intro hCe (And.intro hen htw))))
    clear h hC hR hRR hb hw hes htw hCe hen hE
    go_enter Tryz.func43, Tryz.ntmps43
    go_wp2_with fail
    refine hep.mono ?_
    rintro e w1 ⟨v, rfl, ho, q⟩
    clear hep
    obtain ⟨A, c, rfl⟩ := row_form ho
    have hf1 : Fresh ρ w1 := fun i hi => hf i (Nat.le_trans q.size hi)
    have hem1 := hem w1 hf1 (H.out.1.below_ q)
    have HQ := Lib.hid q
    clear ho q hem
    go_wp2_with fail
    refine hem1.mono ?_
    rintro e w2 ⟨rfl, ρ2, ag2, hC2, s2⟩
    clear hem1
    obtain ⟨h, hR, hCe, hen, htw⟩ := H.out
    have st2 : Ste rtC ρ w ρ2 w2 := (Ste.of_below HQ.out hf).trans s2
    by_cases he : ee = 0
    · subst he
      simp only [ne_eq, not_true_eq_false, if_false] at hR
      have hfo := forget_ok HS HT ρ2 a cc m ag2 eC (k + 33) t w2 s2.fresh hC2 hCe (by omega) (by rw [hen.2.2.1]; exact htw)
      rw [← hR] at hfo
      have HS2 := Lib.hid st2
      clear h hR hCe hen htw hC2 s2 st2
      go_wp2_with fail
      refine hfo.mono ?_
      rintro e w3 ⟨rfl, ρ3, hC3, s3⟩
      have HV := Lib.hid (And.intro hC3 s3)
      clear hfo hC3 s3
      go_wp2_with fail
      go_ret
      exact ⟨rfl, ρ3, ag2, HV.out.1, HS2.out.trans HV.out.2⟩
    · have t1 : (ee != 0) = true := by simpa using he
      rw [if_pos he] at hR
      have HV := Lib.hid (And.intro hC2 (And.intro st2 hR))
      clear h hR hCe hen htw hC2 s2 st2 he
      go_wp2_with fail
      go_ret
      obtain ⟨hC2, st2, hR⟩ := HV.out
      rw [hR]
      exact ⟨rfl, ρ2, ag2, hC2, st2⟩
end Go.Proofs.YtggmdjdflaglpaaGreat
