/- The world: all pieces together; each piece's calls, said of the world. World.Key; log.place. The tree's sums: two nodes'. tree.Build. -/
import Derived.Test.YtggmdjdflaglpaaGreatM19
import Derived.Test.YtggmdjdflaglpaaGreatM20
import Derived.Test.YtggmdjdflaglpaaGreatM10
import Derived.Test.YtggmdjdflaglpaaGreatM01
import Derived.ChangeAlike
import Derived.BigRegion
namespace Go.Proofs.YtggmdjdflaglpaaGreat
open Go.RowKit Go.Proofs.YtggmdjdflaglpaaGreat.geo
set_option linter.unusedVariables false
structure Wld where
  slots : Nat
  pow : Pow
  ssd : Ssd
  dsk : Dsk
  cnt : Cnt
  kys : Kys
  lk : Lk
structure Ads where
  wl : Nat
  p : Nat
  s : Nat
  d : Nat
  c : Nat
  k : Nat
  l : Nat
def WldR (ρ : Rl) (w : World) (a : Ads) (W : Wld) : Prop :=
  Blk w a.wl 70 #[.int .i64 W.slots, .pointer (some ⟨a.p, 0, none⟩), .pointer (some ⟨a.s, 0, none⟩), .pointer (some ⟨a.d, 0, none⟩), .pointer (some ⟨a.c, 0, none⟩), .pointer (some ⟨a.k, 0, none⟩), .pointer (some ⟨a.l, 0, none⟩)] ∧ ρ a.wl = rWld ∧
    PowR w a.p W.pow ∧ ρ a.p = rPow ∧ SsdR ρ w a.p a.s W.ssd ∧ DskR ρ w a.p a.d W.dsk ∧ CntR w a.p a.c W.cnt ∧ ρ a.c = rCnt ∧ KysR ρ w a.p a.k W.kys ∧ LkR ρ w a.l W.lk
/-- what the world's pieces are made of -/
def rsW (r : Nat) : Prop := 1 ≤ r ∧ r ≤ 17
/-- what may turn in the world -/
def rtW (r : Nat) : Prop := 2 ≤ r ∧ r ≤ 16
section
variable {r : Nat}
theorem rsSsd_n : rsSsd r ↔ (r = 1 ∨ r = 3 ∨ r = 4 ∨ r = 5 ∨ r = 6) := Iff.rfl
theorem rsDsk_n : rsDsk r ↔ (r = 1 ∨ r = 7 ∨ r = 8 ∨ r = 9) := Iff.rfl
theorem rsKys_n : rsKys r ↔ (r = 11 ∨ r = 12) := Iff.rfl
theorem rsLck_n : rsLck r ↔ (r = 13 ∨ r = 1 ∨ r = 14 ∨ r = 15 ∨ r = 16) := Iff.rfl
theorem rtDev_n : rtDev r ↔ (r = 2 ∨ r = 3 ∨ r = 5 ∨ r = 6) := Iff.rfl
theorem rtSsd_n : rtSsd r ↔ ((r = 2 ∨ r = 3 ∨ r = 5 ∨ r = 6) ∨ r = 4) := Iff.rfl
theorem rtDsk_n : rtDsk r ↔ (r = 2 ∨ r = 7 ∨ r = 8 ∨ r = 9) := Iff.rfl
theorem rtKys_n : rtKys r ↔ (r = 2 ∨ r = 11 ∨ r = 12) := Iff.rfl
theorem rtOrc_n : rtOrc r ↔ (r = 14 ∨ r = 15 ∨ r = 16) := Iff.rfl
theorem rsSsd.w (h : rsSsd r) : rsW r := by rw [rsSsd_n] at h; unfold rsW; omega
theorem rsDsk.w (h : rsDsk r) : rsW r := by rw [rsDsk_n] at h; unfold rsW; omega
theorem rsKys.w (h : rsKys r) : rsW r := by rw [rsKys_n] at h; unfold rsW; omega
theorem rsLck.w (h : rsLck r) : rsW r := by rw [rsLck_n] at h; unfold rsW; omega
theorem rtDev.w (h : rtDev r) : rtW r := by rw [rtDev_n] at h; unfold rtW; omega
theorem rtSsd.w (h : rtSsd r) : rtW r := by rw [rtSsd_n] at h; unfold rtW; omega
theorem rtDsk.w (h : rtDsk r) : rtW r := by rw [rtDsk_n] at h; unfold rtW; omega
theorem rtKys.w (h : rtKys r) : rtW r := by rw [rtKys_n] at h; unfold rtW; omega
theorem rtOrc.w (h : rtOrc r) : rtW r := by rw [rtOrc_n] at h; unfold rtW; omega
end
theorem CntR.keep {w w' : World} {p c : Nat} {C : Cnt} (h : CntR w p c C) (hk : w'.heap[c]? = w.heap[c]?) : CntR w' p c C := hk.trans h
theorem WldR.keep {ρ ρ' : Rl} {w w' : World} {a : Ads} {W : Wld} (h : WldR ρ w a W) (hs : w.heap.size ≤ w'.heap.size) (hk : ∀ b, b < w.heap.size → rsW (ρ b) → w'.heap[b]? = w.heap[b]? ∧ ρ' b = ρ b) : WldR ρ' w' a W := by
  obtain ⟨h1, h2, h3, h4, h5, h6, h7, h8, h9, h10⟩ := h
  have k1 := hk _ h1.lt (by rw [h2]; unfold rsW; decide)
  have k2 := hk _ h3.lt (by rw [h4]; unfold rsW; decide)
  have k3 := hk _ (Blk.lt h7) (by rw [h8]; unfold rsW; decide)
  exact ⟨k1.1.trans h1, k1.2.trans h2, h3.keep k2.1, k2.2.trans h4, h5.keep hs (fun b hb e => hk b hb e.w), h6.keep hs (fun b hb e => hk b hb e.w), h7.keep k3.1, k3.2.trans h8, h9.keep hs (fun b hb e => hk b hb e.w), h10.keep hs (fun b hb e => hk b hb e.w)⟩
theorem WldR.below_ {ρ : Rl} {w w' : World} {a : Ads} {W : Wld} (h : WldR ρ w a W) (hb : Below w.heap.size w w') : WldR ρ w' a W := h.keep hb.size (fun b hx _ => ⟨hb.block b hx, rfl⟩)
theorem WldR.drew {ρ : Rl} {w : World} {a : Ads} {W : Wld} (h : WldR ρ w a W) : WldR ρ w.drew a W := h.below_ (Below.refl _ _).drew
theorem WldR.alloc {ρ : Rl} {w : World} {a : Ads} {W : Wld} (h : WldR ρ w a W) (o : Obj) : WldR ρ (w.alloc o) a W := h.below_ ((Below.refl _ _).alloc (Nat.le_refl _) o)
/-- a step that turns none of the world's pieces -/
theorem WldR.ste {T : Nat → Prop} {ρ ρ' : Rl} {w w' : World} {a : Ads} {W : Wld} (h : WldR ρ w a W) (hs : Ste T ρ w ρ' w') (hT : ∀ r, T r → ¬ rsW r) : WldR ρ' w' a W :=
  h.keep hs.size (fun b hb e => ⟨hs.ch.keep b hb (fun c => hT _ c e), hs.old b hb⟩)
namespace Wld
/-- the device has a write; whether it does stands in 'spend' -/
def swr (W : Wld) (off : Int) (b : By) : Wld := { W with pow := (spend W.pow).1, ssd := if (spend W.pow).2 then push W.ssd off b else W.ssd }
def sbar (W : Wld) : Wld := { W with pow := (spend W.pow).1, ssd := if (spend W.pow).2 then settled W.ssd else W.ssd }
def dwr (W : Wld) (k : Int) (b : By) : Wld := if W.dsk.refuses then W else { W with pow := (spend W.pow).1, dsk := if (spend W.pow).2 then dpush W.dsk k b else W.dsk }
def dbar (W : Wld) : Wld := { W with pow := (spend W.pow).1, dsk := if (spend W.pow).2 then dsettled W.dsk else W.dsk }
def bmp (W : Wld) : Wld := { W with pow := (spend W.pow).1, cnt := if (spend W.pow).2 then bump W.cnt else W.cnt }
def bot (W : Wld) : Wld := { W with pow := (spend W.pow).1, cnt := if (spend W.pow).2 then boot W.cnt else W.cnt }
def kadd (W : Wld) : Wld := { W with pow := (spend W.pow).1, kys := if (spend W.pow).2 then ⟨W.kys.seed, W.kys.a, true⟩ else W.kys }
def kdel (W : Wld) : Wld := { W with pow := (spend W.pow).1, kys := if (spend W.pow).2 then ⟨W.kys.seed, W.kys.a + 1, false⟩ else W.kys }
def lck (W : Wld) (L : Lk) : Wld := { W with lk := L }
end Wld
section
variable {ρ ρ' : Rl} {w w' : World} {a : Ads} {W : Wld}
theorem WldR.put_ssd (h : WldR ρ w a W) {P : Pow} {S : Ssd} (hp : PowR w' a.p P) (hS : SsdR ρ' w' a.p a.s S) (hs : Ste rtSsd ρ w ρ' w') : WldR ρ' w' a { W with pow := P, ssd := S } := by
  obtain ⟨h1, h2, h3, h4, h5, h6, h7, h8, h9, h10⟩ := h
  have hk : ∀ b, b < w.heap.size → ¬ rtSsd (ρ b) → w'.heap[b]? = w.heap[b]? ∧ ρ' b = ρ b := fun b hb e => ⟨hs.ch.keep b hb e, hs.old b hb⟩
  have k1 := hk _ h1.lt (by rw [h2]; unfold rtSsd rtDev; decide)
  have k3 := hk _ (Blk.lt h7) (by rw [h8]; unfold rtSsd rtDev; decide)
  exact ⟨k1.1.trans h1, k1.2.trans h2, hp, (hs.old _ h3.lt).trans h4, hS, h6.keep hs.size (fun b hb e => hk b hb (by rw [rsDsk_n] at e; rw [rtSsd_n]; omega)), h7.keep k3.1, k3.2.trans h8, h9.keep hs.size (fun b hb e => hk b hb (by rw [rsKys_n] at e; rw [rtSsd_n]; omega)), h10.keep hs.size (fun b hb e => hk b hb (by rw [rsLck_n] at e; rw [rtSsd_n]; omega))⟩
theorem WldR.put_dsk (h : WldR ρ w a W) {P : Pow} {D : Dsk} (hp : PowR w' a.p P) (hD : DskR ρ' w' a.p a.d D) (hs : Ste rtDsk ρ w ρ' w') : WldR ρ' w' a { W with pow := P, dsk := D } := by
  obtain ⟨h1, h2, h3, h4, h5, h6, h7, h8, h9, h10⟩ := h
  have hk : ∀ b, b < w.heap.size → ¬ rtDsk (ρ b) → w'.heap[b]? = w.heap[b]? ∧ ρ' b = ρ b := fun b hb e => ⟨hs.ch.keep b hb e, hs.old b hb⟩
  have k1 := hk _ h1.lt (by rw [h2]; unfold rtDsk; decide)
  have k3 := hk _ (Blk.lt h7) (by rw [h8]; unfold rtDsk; decide)
  exact ⟨k1.1.trans h1, k1.2.trans h2, hp, (hs.old _ h3.lt).trans h4, h5.keep hs.size (fun b hb e => hk b hb (by rw [rsSsd_n] at e; rw [rtDsk_n]; omega)), hD, h7.keep k3.1, k3.2.trans h8, h9.keep hs.size (fun b hb e => hk b hb (by rw [rsKys_n] at e; rw [rtDsk_n]; omega)), h10.keep hs.size (fun b hb e => hk b hb (by rw [rsLck_n] at e; rw [rtDsk_n]; omega))⟩
theorem WldR.put_kys (h : WldR ρ w a W) {P : Pow} {K : Kys} (hp : PowR w' a.p P) (hK : KysR ρ' w' a.p a.k K) (hs : Ste rtKys ρ w ρ' w') : WldR ρ' w' a { W with pow := P, kys := K } := by
  obtain ⟨h1, h2, h3, h4, h5, h6, h7, h8, h9, h10⟩ := h
  have hk : ∀ b, b < w.heap.size → ¬ rtKys (ρ b) → w'.heap[b]? = w.heap[b]? ∧ ρ' b = ρ b := fun b hb e => ⟨hs.ch.keep b hb e, hs.old b hb⟩
  have k1 := hk _ h1.lt (by rw [h2]; unfold rtKys; decide)
  have k3 := hk _ (Blk.lt h7) (by rw [h8]; unfold rtKys; decide)
  exact ⟨k1.1.trans h1, k1.2.trans h2, hp, (hs.old _ h3.lt).trans h4, h5.keep hs.size (fun b hb e => hk b hb (by rw [rsSsd_n] at e; rw [rtKys_n]; omega)), h6.keep hs.size (fun b hb e => hk b hb (by rw [rsDsk_n] at e; rw [rtKys_n]; omega)), h7.keep k3.1, k3.2.trans h8, hK, h10.keep hs.size (fun b hb e => hk b hb (by rw [rsLck_n] at e; rw [rtKys_n]; omega))⟩
theorem WldR.put_lk (h : WldR ρ w a W) {L : Lk} (hL : LkR ρ' w' a.l L) (hs : Ste rtOrc ρ w ρ' w') : WldR ρ' w' a (W.lck L) := by
  obtain ⟨h1, h2, h3, h4, h5, h6, h7, h8, h9, h10⟩ := h
  have hk : ∀ b, b < w.heap.size → ¬ rtOrc (ρ b) → w'.heap[b]? = w.heap[b]? ∧ ρ' b = ρ b := fun b hb e => ⟨hs.ch.keep b hb e, hs.old b hb⟩
  have k1 := hk _ h1.lt (by rw [h2]; unfold rtOrc; decide)
  have k2 := hk _ h3.lt (by rw [h4]; unfold rtOrc; decide)
  have k3 := hk _ (Blk.lt h7) (by rw [h8]; unfold rtOrc; decide)
  exact ⟨k1.1.trans h1, k1.2.trans h2, h3.keep k2.1, k2.2.trans h4, h5.keep hs.size (fun b hb e => hk b hb (by rw [rsSsd_n] at e; rw [rtOrc_n]; omega)), h6.keep hs.size (fun b hb e => hk b hb (by rw [rsDsk_n] at e; rw [rtOrc_n]; omega)), h7.keep k3.1, k3.2.trans h8, h9.keep hs.size (fun b hb e => hk b hb (by rw [rsKys_n] at e; rw [rtOrc_n]; omega)), hL⟩
theorem WldR.put_cnt (h : WldR ρ w a W) {P : Pow} {C : Cnt} (hp : PowR w' a.p P) (hC : CntR w' a.p a.c C) (hs : Ch (fun i => i = a.p ∨ i = a.c) w w') (hf : Fresh ρ w) : WldR ρ w' a { W with pow := P, cnt := C } ∧ Ste rtW ρ w ρ w' := by
  obtain ⟨h1, h2, h3, h4, h5, h6, h7, h8, h9, h10⟩ := h
  have hk : ∀ b, b < w.heap.size → ρ b ≠ rPow → ρ b ≠ rCnt → w'.heap[b]? = w.heap[b]? ∧ ρ b = ρ b := fun b hb e1 e2 => ⟨hs.keep b hb (fun c => by rcases c with c | c; exact e1 (c ▸ h4); exact e2 (c ▸ h8)), rfl⟩
  have k1 := hk _ h1.lt (by rw [h2]; decide) (by rw [h2]; decide)
  refine ⟨⟨k1.1.trans h1, h2, hp, h4, h5.keep hs.size (fun b hb e => hk b hb (fun c => by rw [rsSsd_n, c] at e; revert e; decide) (fun c => by rw [rsSsd_n, c] at e; revert e; decide)), h6.keep hs.size (fun b hb e => hk b hb (fun c => by rw [rsDsk_n, c] at e; revert e; decide) (fun c => by rw [rsDsk_n, c] at e; revert e; decide)), hC, h8, h9.keep hs.size (fun b hb e => hk b hb (fun c => by rw [rsKys_n, c] at e; revert e; decide) (fun c => by rw [rsKys_n, c] at e; revert e; decide)), h10.keep hs.size (fun b hb e => hk b hb (fun c => by rw [rsLck_n, c] at e; revert e; decide) (fun c => by rw [rsLck_n, c] at e; revert e; decide))⟩, Ste.of_ch (hs.mono (fun i e => ?_)) hf⟩
  rcases e with e | e
  · rw [e, h4]; unfold rtW; decide
  · rw [e, h8]; unfold rtW; decide
end
section
variable (ρ : Rl) (a : Ads) (W : Wld) (w : World)
theorem wswr_ok (off : Int) (vb : Value) (b : By) (hf : Fresh ρ w) (h : WldR ρ w a W) (hv : HasP (fun i => ¬ rtW (ρ i)) w vb b) (hin : (⟨off, b⟩ : Opn).in_ W.ssd.lasts.length) (hc : W.ssd.cnt ≤ 1000000) :
    Calls Tryz.prog 157 #[.pointer (some ⟨a.s, 0, none⟩), .int .i64 off, vb] w fun e w' => e = .returned (.bool (spend W.pow).2) ∧ ∃ ρ', WldR ρ' w' a (W.swr off b) ∧ Ste rtW ρ w ρ' w' := by
  refine (swrite_ok ρ a.p a.s W.pow W.ssd off vb b w hf h.2.2.1 h.2.2.2.1 h.2.2.2.2.1 (hv.weak (fun i e c => e c.w)) hin hc).mono ?_
  rintro e w1 ⟨rfl, hp, ρ1, hS, hs⟩
  exact ⟨rfl, ρ1, h.put_ssd hp hS (hs.mono (fun r e => .inl e)), hs.mono (fun r e => e.w)⟩
theorem wsbar_ok (hf : Fresh ρ w) (h : WldR ρ w a W) (hc : W.ssd.cnt ≤ 1000000) (hne : W.ssd.lasts ≠ []) :
    Calls Tryz.prog 171 #[.pointer (some ⟨a.s, 0, none⟩)] w fun e w' => e = .returned (.bool (spend W.pow).2) ∧ ∃ ρ', WldR ρ' w' a W.sbar ∧ Ste rtW ρ w ρ' w' := by
  refine (sbarrier_ok ρ a.p a.s W.pow W.ssd w hf h.2.2.1 h.2.2.2.1 h.2.2.2.2.1 hc hne).mono ?_
  rintro e w1 ⟨rfl, hp, ρ1, hS, hs⟩
  exact ⟨rfl, ρ1, h.put_ssd hp hS hs, hs.mono (fun r e => e.w)⟩
theorem wdwr_ok (k : Int) (vb : Value) (b : By) (hf : Fresh ρ w) (h : WldR ρ w a W) (hv : HasP (fun i => ¬ rtW (ρ i)) w vb b) (k0 : 0 ≤ k) (k1 : k < 32) (hl : b.length = 32) (hc : W.dsk.cnt ≤ 1000000) :
    Calls Tryz.prog 144 #[.pointer (some ⟨a.d, 0, none⟩), .int .i64 k, vb] w fun e w' => e = .returned (.bool (dwok W.pow W.dsk)) ∧ ∃ ρ', WldR ρ' w' a (W.dwr k b) ∧ Ste rtW ρ w ρ' w' := by
  cases hr : W.dsk.refuses with
  | true =>
    refine (dwrite_no ρ a.p a.d W.dsk k vb b w h.2.2.2.2.2.1 hv.any k0 k1 hl hr).mono ?_
    rintro e w1 ⟨rfl, rfl⟩
    refine ⟨by simp [dwok, hr], ρ, ?_, Ste.refl _ hf⟩
    have : W.dwr k b = W := by unfold Wld.dwr; rw [if_pos hr]
    rw [this]
    exact h
  | false =>
    refine (dwrite_ok ρ a.p a.d W.pow W.dsk k vb b w hf h.2.2.1 h.2.2.2.1 h.2.2.2.2.2.1 (hv.weak (fun i e c => e c.w)) k0 k1 hl hr hc).mono ?_
    rintro e w1 ⟨rfl, hp, ρ1, hD, hs⟩
    refine ⟨by simp [dwok, hr], ρ1, ?_, hs.mono (fun r e => e.w)⟩
    have : W.dwr k b = { W with pow := (spend W.pow).1, dsk := if (spend W.pow).2 then dpush W.dsk k b else W.dsk } := by unfold Wld.dwr; rw [if_neg (by simp [hr])]
    rw [this]
    exact h.put_dsk hp hD hs
theorem wdbar_ok (hf : Fresh ρ w) (h : WldR ρ w a W) (hc : W.dsk.cnt ≤ 1000000) :
    Calls Tryz.prog 108 #[.pointer (some ⟨a.d, 0, none⟩)] w fun e w' => e = .returned (.bool (spend W.pow).2) ∧ ∃ ρ', WldR ρ' w' a W.dbar ∧ Ste rtW ρ w ρ' w' := by
  refine (dbarrier_ok ρ a.p a.d W.pow W.dsk w hf h.2.2.1 h.2.2.2.1 h.2.2.2.2.2.1 hc).mono ?_
  rintro e w1 ⟨rfl, hp, ρ1, hD, hs⟩
  exact ⟨rfl, ρ1, h.put_dsk hp hD hs, hs.mono (fun r e => e.w)⟩
theorem WldR.ne (h : WldR ρ w a W) : a.p ≠ a.c := fun e => by
  have h4 := h.2.2.2.1
  have h8 := h.2.2.2.2.2.2.2.1
  rw [e, h8] at h4
  exact absurd h4 (by decide)
theorem wbump_ok (hf : Fresh ρ w) (h : WldR ρ w a W) (hv : W.cnt.value < 4294967296) :
    Calls Tryz.prog 173 #[.pointer (some ⟨a.c, 0, none⟩)] w fun e w' => e = .returned (.bool (spend W.pow).2) ∧ ∃ ρ', WldR ρ' w' a W.bmp ∧ Ste rtW ρ w ρ' w' := by
  refine (bump_ok a.p a.c W.pow W.cnt w h.2.2.1 h.2.2.2.2.2.2.1 h.ne hv).mono ?_
  rintro e w1 ⟨rfl, hp, hC, hs⟩
  exact ⟨rfl, ρ, h.put_cnt hp hC hs hf⟩
theorem wboot_ok (hf : Fresh ρ w) (h : WldR ρ w a W) (hv : W.cnt.boots < 4294967296) :
    Calls Tryz.prog 36 #[.pointer (some ⟨a.c, 0, none⟩)] w fun e w' => e = .returned (.bool (spend W.pow).2) ∧ ∃ ρ', WldR ρ' w' a W.bot ∧ Ste rtW ρ w ρ' w' := by
  refine (boot_ok a.p a.c W.pow W.cnt w h.2.2.1 h.2.2.2.2.2.2.1 h.ne hv).mono ?_
  rintro e w1 ⟨rfl, hp, hC, hs⟩
  exact ⟨rfl, ρ, h.put_cnt hp hC hs hf⟩
theorem wkadd_ok (hf : Fresh ρ w) (h : WldR ρ w a W) (h2 : W.kys.two = false) (hc : W.kys.a < 1000000) :
    Calls Tryz.prog 121 #[.pointer (some ⟨a.k, 0, none⟩)] w fun e w' => e = .returned (.bool (spend W.pow).2) ∧ ∃ ρ', WldR ρ' w' a W.kadd ∧ Ste rtW ρ w ρ' w' := by
  refine (kadd_ok ρ a.p a.k W.pow W.kys w hf h.2.2.1 h.2.2.2.1 h.2.2.2.2.2.2.2.2.1 h2 hc).mono ?_
  rintro e w1 ⟨rfl, hp, ρ1, hK, hs⟩
  exact ⟨rfl, ρ1, h.put_kys hp hK hs, hs.mono (fun r e => e.w)⟩
theorem wkdel_ok (hf : Fresh ρ w) (h : WldR ρ w a W) (h2 : W.kys.two = true) (hc : W.kys.a < 1000000) :
    Calls Tryz.prog 110 #[.pointer (some ⟨a.k, 0, none⟩), .int .u32 W.kys.cur] w fun e w' => e = .returned (.bool (spend W.pow).2) ∧ ∃ ρ', WldR ρ' w' a W.kdel ∧ Ste rtW ρ w ρ' w' := by
  refine (kerase_ok ρ a.p a.k W.pow W.kys w hf h.2.2.1 h.2.2.2.1 h.2.2.2.2.2.2.2.2.1 h2 hc).mono ?_
  rintro e w1 ⟨rfl, hp, ρ1, hK, hs⟩
  exact ⟨rfl, ρ1, h.put_kys hp hK hs, hs.mono (fun r e => e.w)⟩
theorem wshut_ok (HS : ShutOk) (p q : Nat → Prop) (key : Two) (n : Nce) (vh : Value) (head : By) (vd : Value) (data : By) (hf : Fresh ρ w) (h : WldR ρ w a W) (hk : U2 key) (hn : n.ok) (hh : HasP p w vh head) (hd : HasP q w vd data) (hl : head.length ≤ 4000) (hl32 : data.length = 32) (hc : W.lk.lim 900000) :
    Calls Tryz.prog 156 #[.pointer (some ⟨a.l, 0, none⟩), pv key, nv n, vh, vd] w fun e w' =>
      ∃ v, e = .returned (.tuple #[.agg #[v, .int .u64 (W.lk.shut key n head data).2.1, .int .u64 (W.lk.shut key n head data).2.2], .bool true]) ∧
        ∃ ρ', HasP (fun b => w.heap.size ≤ b ∧ ρ' b = 0) w' v (W.lk.shut key n head data).1 ∧ WldR ρ' w' a (W.lck (W.lk.shutd key n head data)) ∧ Ste rtW ρ w ρ' w' := by
  refine (HS ρ p q a.l W.lk key n vh head vd data w hf h.2.2.2.2.2.2.2.2.2 hk hn hh hd hl hl32 hc).mono ?_
  rintro e w1 ⟨v, rfl, ρ1, ho, hL, hs⟩
  exact ⟨v, rfl, ρ1, ho, h.put_lk hL hs, hs.mono (fun r e => e.w)⟩
end
end Go.Proofs.YtggmdjdflaglpaaGreat
namespace Go.Proofs.YtggmdjdflaglpaaGreat
open Go.RowKit Go.Proofs.YtggmdjdflaglpaaGreat.geo Go.Proofs.YtggmdjdflaglpaaGreat.nce
set_option linter.unusedVariables false
theorem Kys.cur_mem (K : Kys) : K.cur ∈ K.es := by unfold Kys.cur Kys.es; split <;> simp
theorem KysR.bd {ρ : Rl} {w : World} {p k : Nat} {K : Kys} (h : KysR ρ w p k K) : K.seed < 18446744073709551616 ∧ 1 ≤ K.a ∧ K.a ≤ 1000000 := by obtain ⟨_, _, _, _, _, _, h⟩ := h; exact h
theorem Kys.cur_le (K : Kys) (h : K.a ≤ 1000000) : K.cur ≤ 1000001 := by unfold Kys.cur; split <;> omega
def Wld.curKey (W : Wld) : Two := keyOf W.kys.seed W.kys.cur
set_option maxHeartbeats 2000000 in
theorem wkey_ok (ρ : Rl) (a : Ads) (W : Wld) (w : World) (h : WldR ρ w a W) :
    Calls Tryz.prog 154 #[.pointer (some ⟨a.wl, 0, none⟩)] w fun e w' => e = .returned (.tuple #[.int .u32 W.kys.cur, pv W.curKey]) ∧ Below w.heap.size w w' := by
  have hbw : Below w.heap.size w (w.alloc (.cells #[.int .u64 0, .int .u64 0] 101)) := (Below.refl _ _).alloc (Nat.le_refl _) _
  have hB : Blk (w.alloc (.cells #[.int .u64 0, .int .u64 0] 101)) w.heap.size 101 #[.int .u64 0, .int .u64 0] := Blk.new w 101 _
  have h1 := h.alloc (.cells #[.int .u64 0, .int .u64 0] 101)
  have hbd := h1.2.2.2.2.2.2.2.2.1.bd
  have hcl := W.kys.cur_le hbd.2.2
  have hcu := current_ok ρ a.p a.k W.kys _ h1.2.2.2.2.2.2.2.2.1
  have hky := fun W' hk => key_ok ρ a.p a.k W.kys W.kys.cur W' hk (by omega)
  have hkk : W.kys.key W.kys.cur = W.curKey := by unfold Kys.key Wld.curKey; rw [if_pos W.kys.cur_mem]
  have hdd : decide (W.kys.cur ∈ W.kys.es) = true := by simp [W.kys.cur_mem]
  rw [hkk, hdd] at hky
  clear hkk hdd hbd
  unfold pv
  obtain ⟨t, ht⟩ : ∃ t, t = W.curKey := ⟨_, rfl⟩
  rw [← ht] at hky ⊢
  clear ht
  obtain ⟨ta, tb⟩ := t
  obtain ⟨cu, hcu2⟩ : ∃ cu, cu = W.kys.cur := ⟨_, rfl⟩
  rw [← hcu2] at hcu hky hcl ⊢
  have HC := Lib.hid hcu2
  clear hcu2
  simp only at hky ⊢
  have c5 := h1.1.cell_ 5 rfl
  have l5 := h1.1.lt
  have H1 := Lib.hid h1
  clear h h1
  go_enter Tryz.func154, Tryz.ntmps154
  go_wp2_with fail
  refine hcu.mono ?_
  rintro e w1 ⟨rfl, q1⟩
  have hw1 := H1.out.below_ q1
  have hk1 := hw1.2.2.2.2.2.2.2.2.1
  have d5 := hw1.1.cell_ 5 rfl
  have m5 := hw1.1.lt
  have hB1 := hB.below_ q1
  have hbw1 := hbw.trans (q1.mono hbw.size)
  have HH := Lib.hid hw1
  clear hw1 hcu q1 c5 l5 hB hbw
  go_wp2_with fail
  refine (hky _ hk1).mono ?_
  rintro e w2 ⟨rfl, q2⟩
  have hB2 := hB1.below_ q2
  have hbw2 := hbw1.trans (q2.mono hbw1.size)
  have f0 := hB2.frozen 0
  have f1 := hB2.frozen 1
  have b0 := hB2.cell_ 0 rfl
  have b1 := hB2.cell_ 1 rfl
  have lb := hB2.lt
  clear hky hk1 d5 m5 hB1 q2
  go_wp2_with fail
  have g2 := only_set2 w2 w.heap.size 0 1 (.int .u64 ta) (.int .u64 tb)
  have bR := (hB2.set_to 0 (.int .u64 ta) (cs' := #[.int .u64 ta, .int .u64 0]) rfl).set_to 1 (.int .u64 tb) (cs' := #[.int .u64 ta, .int .u64 tb]) rfl
  have hbw3 := below_only hbw2 g2 hbw2.size (Nat.le_refl _)
  obtain ⟨W3, hW3⟩ : ∃ W3, W3 = (w2.setCell ⟨w.heap.size, 0, none⟩ (.int .u64 ta)).setCell ⟨w.heap.size, 1, none⟩ (.int .u64 tb) := ⟨_, rfl⟩
  rw [← hW3] at bR hbw3 ⊢
  have f0' := bR.frozen 0
  have f1' := bR.frozen 1
  have b0' := bR.cell_ 0 rfl
  have b1' := bR.cell_ 1 rfl
  have lb' := bR.lt
  clear hW3 g2 hB2 hbw2 f0 f1 b0 b1 lb
  go_region
  all_goals
    go_wp2_with fail
    have g3 := only_set2 W3 w.heap.size 0 1 (.int .u64 ta) (.int .u64 tb)
    have bR2 := (bR.set_to 0 (.int .u64 ta) (cs' := #[.int .u64 ta, .int .u64 tb]) rfl).set_to 1 (.int .u64 tb) (cs' := [.int .u64 ta, .int .u64 tb].toArray) rfl
    refine ret_tmp_cell 2 3 101 (by rfl) w.heap.size 0 (by rfl) (.int .u32 cu) (by rfl) [.int .u64 ta, .int .u64 tb] _ ?_ Tryz.underlying101 rfl sz101 rfl ⟨rfl, ?_⟩
    · exact bR2.drew.range
    · exact below_only hbw3 g3 hbw3.size (Nat.le_refl _) |>.drew
theorem rem_two (c : Nat) : ((c : Int) % 2) = ((c % 2 : Nat) : Int) := by omega
theorem place_ok (ρ : Rl) (a : Ads) (W : Wld) (c : Nat) (w : World) (h : WldR ρ w a W) (hV : V W.slots) (hc : c < 4294967296) :
    Calls Tryz.prog 97 #[.pointer (some ⟨a.wl, 0, none⟩), .int .u64 c] w fun e w' => e = .returned (.int .i64 ((W.slots * 160 + c % 2 * 60 : Nat) : Int)) ∧ Below w.heap.size w w' := by
  have c0 := h.1.cell_ 0 rfl
  have hl := h.1.lt
  have hr := fun W1 => rec_ok (W.slots : Int) ((c : Int) % 2) W1 hV (by omega) (by omega)
  have hfin : ((W.slots * 160 + c % 2 * 60 : Nat) : Int) = (W.slots : Int) * 32 + 2 * ((W.slots : Int) * 64) + (c : Int) % 2 * 60 := by omega
  rw [hfin]
  have e1 : (0 : Int) ≤ (c : Int) % 2 := by omega
  have e2 : (c : Int) % 2 < 2 := by omega
  have c1 : (0 : Int) ≤ (c : Int) := by omega
  have c2 : (c : Int) < 4294967296 := by omega
  obtain ⟨n, hn⟩ : ∃ n, n = W.slots := ⟨_, rfl⟩
  rw [← hn] at hr c0 ⊢
  clear h hV hfin hc hn
  go_enter Tryz.func97, Tryz.ntmps97
  go_wp2_with fail
  refine (hr _).mono ?_
  rintro e w1 ⟨rfl, q1⟩
  clear hr
  go_wp2_with fail
  go_ret
  exact ⟨rfl, q1⟩
structure Mk where
  boot : Nat
  n : Nat
def MkR (ρ : Rl) (w : World) (m : Nat) (M : Mk) : Prop := Blk w m 144 #[.int .u64 M.boot, .int .i64 M.n] ∧ ρ m = rMkr ∧ M.n ≤ 100 ∧ M.boot < 4294967296
def Mk.nonce (M : Mk) (ep : Nat) (sl : Nat) : Nce := ⟨ep, sl, (M.boot : Int) * 4294967296 + ((M.n : Int) + 1)⟩
def Mk.up (M : Mk) : Mk := ⟨M.boot, M.n + 1⟩
theorem Mk.nonce_ok (M : Mk) (ep sl : Nat) (he : ep < 4294967296) (hs : sl < 65536) (hn : M.n ≤ 100) (hb : M.boot < 4294967296) : (M.nonce ep sl).ok :=
  ⟨⟨by simp [Mk.nonce], by simp [Mk.nonce]; omega⟩, ⟨by simp [Mk.nonce], by simp [Mk.nonce]; omega⟩, ⟨by simp only [Mk.nonce]; omega, by simp only [Mk.nonce]; omega⟩⟩
theorem MkR.keep {ρ ρ' : Rl} {w w' : World} {m : Nat} {M : Mk} (h : MkR ρ w m M) (hk : w'.heap[m]? = w.heap[m]? ∧ ρ' m = ρ m) : MkR ρ' w' m M := ⟨hk.1.trans h.1, hk.2.trans h.2.1, h.2.2⟩
theorem MkR.ste {T : Nat → Prop} {ρ ρ' : Rl} {w w' : World} {m : Nat} {M : Mk} (h : MkR ρ w m M) (hs : Ste T ρ w ρ' w') (hT : ¬ T rMkr) : MkR ρ' w' m M := h.keep ⟨hs.ch.keep m h.1.lt (by rw [h.2.1]; exact hT), hs.old m h.1.lt⟩
theorem MkR.below_ {ρ : Rl} {w w' : World} {m : Nat} {M : Mk} (h : MkR ρ w m M) (hb : Below w.heap.size w w') : MkR ρ w' m M := h.keep ⟨hb.block m h.1.lt, rfl⟩
theorem mnext_ok (ρ : Rl) (m : Nat) (M : Mk) (ep sl : Nat) (w : World) (hf : Fresh ρ w) (h : MkR ρ w m M) (hn : M.n < 100) (he : ep < 4294967296) (hs : sl < 65536) :
    Calls Tryz.prog 155 #[.pointer (some ⟨m, 0, none⟩), .int .u32 ep, .int .i64 sl] w fun e w' => e = .returned (.tuple #[nv (M.nonce ep sl), .int .i64 0]) ∧ MkR ρ w' m M.up ∧ Ste (· = rMkr) ρ w ρ w' := by
  refine (next_ok m M.boot M.n ep sl w (by omega) (by omega) (by omega) (by have := h.2.2.2; omega) (by omega) (by omega) (by omega) (by omega) h.1).mono ?_
  rintro e w1 ⟨rfl, hg, hb⟩
  exact ⟨rfl, ⟨hb, h.2.1, by simp only [Mk.up]; omega, h.2.2.2⟩, Ste.of_grown hg h.2.1 hf⟩
theorem mnext_no (ρ : Rl) (m : Nat) (M : Mk) (ep sl : Nat) (w : World) (h : MkR ρ w m M) (hn : M.n = 100) (hs : sl < 65536) :
    Calls Tryz.prog 155 #[.pointer (some ⟨m, 0, none⟩), .int .u32 ep, .int .i64 sl] w fun e w' => e = .returned (.tuple #[.agg #[.int .u32 0, .int .u32 0, .int .u64 0], .int .i64 6]) ∧ Below w.heap.size w w' := by
  have hb := h.1
  rw [hn] at hb
  exact next_none m M.boot ep sl w (by omega) (by omega) hb
end Go.Proofs.YtggmdjdflaglpaaGreat
namespace Go.Proofs.YtggmdjdflaglpaaGreat
open Go.RowKit
set_option linter.unusedVariables false
theorem k4of {w : World} {h : Nat} {a b c d : Int} (b0 : Blk w h 101 #[.int .u64 a, .int .u64 b]) (b1 : Blk w (h + 1) 101 #[.int .u64 c, .int .u64 d]) :
    w.cell? ⟨h, 0, none⟩ = some (.int .u64 a) ∧ w.cell? ⟨h, 1, none⟩ = some (.int .u64 b) ∧ w.cell? ⟨h + 1, 0, none⟩ = some (.int .u64 c) ∧ w.cell? ⟨h + 1, 1, none⟩ = some (.int .u64 d) :=
  ⟨b0.cell_ 0 rfl, b0.cell_ 1 rfl, b1.cell_ 0 rfl, b1.cell_ 1 rfl⟩
theorem k4set {w : World} {h x i : Nat} {v : Value} {a b c d : Int} (hx : h + 1 < x)
    (k : w.cell? ⟨h, 0, none⟩ = some (.int .u64 a) ∧ w.cell? ⟨h, 1, none⟩ = some (.int .u64 b) ∧ w.cell? ⟨h + 1, 0, none⟩ = some (.int .u64 c) ∧ w.cell? ⟨h + 1, 1, none⟩ = some (.int .u64 d)) :
    (w.setCell ⟨x, i, none⟩ v).cell? ⟨h, 0, none⟩ = some (.int .u64 a) ∧ (w.setCell ⟨x, i, none⟩ v).cell? ⟨h, 1, none⟩ = some (.int .u64 b) ∧ (w.setCell ⟨x, i, none⟩ v).cell? ⟨h + 1, 0, none⟩ = some (.int .u64 c) ∧ (w.setCell ⟨x, i, none⟩ v).cell? ⟨h + 1, 1, none⟩ = some (.int .u64 d) := by
  have e : ∀ (b j : Nat), b ≠ x → (w.setCell ⟨x, i, none⟩ v).cell? ⟨b, j, none⟩ = w.cell? ⟨b, j, none⟩ := fun b j hb => by
    have := Below.heap_setCell w ⟨x, i, none⟩ v b hb
    simp only [World.cell?, this]
  rw [e h 0 (by omega), e h 1 (by omega), e (h + 1) 0 (by omega), e (h + 1) 1 (by omega)]
  exact k
theorem acc3 {w : World} {v1 v2 v3 : Value} {l1 l2 l3 : By} (h1 : Has w v1 l1) (h2 : Has w v2 l2) (h3 : Has w v3 l3) (n1 : l1 ≠ []) (n2 : l2 ≠ []) (n3 : l3 ≠ []) :
    Rows (w.alloc (.cells #[v1, v2, v3] 32)) (.slice (some ⟨w.heap.size, 0, none⟩) 3 3) [l1, l2, l3] := by
  have hA : Acc (w.alloc (.cells #[v1, v2, v3] 32)) [(v1, l1), (v2, l2), (v3, l3)] := by
    intro x hx
    simp at hx
    rcases hx with rfl | rfl | rfl
    · exact h1.alloc _
    · exact h2.alloc _
    · exact h3.alloc _
  exact Acc.rows hA (Blk.new w 32 _) rfl (by simp [n1, n2, n3]) (by simp)
theorem bytes_at (a b : Int) (w : World) (a0 : 0 ≤ a) (a1 : a < 18446744073709551616) (b0 : 0 ≤ b) (b1 : b < 18446744073709551616) :
    Calls Tryz.prog 124 #[.agg #[.int .u64 a, .int .u64 b]] w fun e w' => ∃ A z, e = .returned (.slice A 16 z) ∧ Has w' (.slice A 16 z) (pairB a b) ∧ Below w.heap.size w w' := by
  refine (bytes_ok a b w a0 a1 b0 b1).mono ?_
  rintro e w1 ⟨v, rfl, o, q⟩
  obtain ⟨A, z, rfl⟩ := o.has.slice
  have := o.has.any
  rw [pairB_len] at this ⊢
  exact ⟨A, z, rfl, this, q⟩
set_option maxHeartbeats 8000000 in
set_option maxRecDepth 100000 in
theorem tnode_ok (HS : SumOk) (ρ : Rl) (l : Nat) (L : Lk) (x y : Two) (w : World) (hf : Fresh ρ w) (h : LkR ρ w l L) (hx : U2 x) (hy : U2 y) (hlim : L.lim 900000) :
    Calls Tryz.prog 140 #[.pointer (some ⟨l, 0, none⟩), pv x, pv y] w fun e w' => e = .returned (pv (L.sum (nodeS x y))) ∧ LkR ρ w' l (L.summed (nodeS x y)) ∧ Ste rtOrc ρ w ρ w' := by
  have hfl : ([[1], pairB x.1 x.2, pairB y.1 y.2] : List By).flatten = nodeS x y := by simp [nodeS]
  obtain ⟨a, b⟩ := x
  obtain ⟨c, d⟩ := y
  obtain ⟨⟨a0, a1⟩, b0, b1⟩ := hx
  obtain ⟨⟨c0, c1⟩, d0, d1⟩ := hy
  simp only at a0 a1 b0 b1 c0 c1 d0 d1 hfl
  obtain ⟨s, hs⟩ : ∃ s, s = nodeS (a, b) (c, d) := ⟨_, rfl⟩
  rw [← hs] at hfl ⊢
  have hcs : ∀ v W, Fresh ρ W → LkR ρ W l L → Rows W v [[1], pairB a b, pairB c d] → Calls Tryz.prog 168 #[.pointer (some ⟨l, 0, none⟩), v] W fun e w' => e = .returned (pv (L.sum s)) ∧ LkR ρ w' l (L.summed s) ∧ Ste rtOrc ρ W ρ w' := fun v W h1 h2 h3 => by
    have := HS ρ l L v _ W h1 h2 h3 (by simp [total, pairB_len]) hlim
    rw [hfl] at this
    exact this
  obtain ⟨t, ht⟩ : ∃ t, t = L.sum s := ⟨_, rfl⟩
  rw [← ht] at hcs ⊢
  unfold pv at hcs ⊢
  obtain ⟨ta, tb⟩ := t
  simp only at hcs ⊢
  obtain ⟨W, hW⟩ : ∃ W, W = ((w.alloc (.cells #[.int .u64 a, .int .u64 b] 101)).alloc (.cells #[.int .u64 c, .int .u64 d] 101)).alloc (.cells #[.int .u64 0, .int .u64 0] 101) := ⟨_, rfl⟩
  have hbw : Below w.heap.size w W := by rw [hW]; exact (((Below.refl _ _).alloc (Nat.le_refl _) _).alloc (by simp) _).alloc (by simp; omega) _
  have hB0 : Blk W w.heap.size 101 #[.int .u64 a, .int .u64 b] := by rw [hW]; exact ((Blk.new w 101 _).alloc _).alloc _
  have hB1 : Blk W (w.heap.size + 1) 101 #[.int .u64 c, .int .u64 d] := by
    rw [hW]
    have := Blk.new (w.alloc (.cells #[.int .u64 a, .int .u64 b] 101)) 101 #[.int .u64 c, .int .u64 d]
    rw [World.size_alloc] at this
    exact this.alloc _
  have hB2 : Blk W (w.heap.size + 1 + 1) 101 #[.int .u64 0, .int .u64 0] := by
    rw [hW]
    have := Blk.new ((w.alloc (.cells #[.int .u64 a, .int .u64 b] 101)).alloc (.cells #[.int .u64 c, .int .u64 d] 101)) 101 #[.int .u64 0, .int .u64 0]
    rw [World.size_alloc, World.size_alloc] at this
    exact this
  have hL : LkR ρ W l L := h.below_ hbw
  have hfr : ∀ b, w.heap.size ≤ b → ρ b = 0 := hf
  clear hfl hs ht h
  go_enter Tryz.func140, Tryz.ntmps140
  go_wp2_with fail
  rw [← hW]
  clear hW
  go_region_held3 (fun w' => w'.cell? ⟨w.heap.size, 0, none⟩ = some (.int .u64 a) ∧ w'.cell? ⟨w.heap.size, 1, none⟩ = some (.int .u64 b) ∧ w'.cell? ⟨w.heap.size + 1, 0, none⟩ = some (.int .u64 c) ∧ w'.cell? ⟨w.heap.size + 1, 1, none⟩ = some (.int .u64 d))
    (first | (with_reducible exact k4of hB0 hB1) | (with_reducible exact k4of hB0.drew hB1.drew) | (with_reducible exact k4of (hB0.alloc _) (hB1.alloc _)) | (with_reducible exact k4of (hB0.alloc _).drew (hB1.alloc _).drew) | (with_reducible exact k4of ((hB0.alloc _).alloc _) ((hB1.alloc _).alloc _)) | (with_reducible exact k4set (Nat.lt_succ_self _) (k4set (Nat.lt_succ_self _) (k4of hB0 hB1))))
    (first
      | (go_at_call 124; (with_reducible refine (bytes_at a b W.drew a0 a1 b0 b1).mono ?_); rintro e w3 ⟨A3, z3, rfl, o3, q3⟩; replace hB0 := hB0.drew.below_ q3; replace hB1 := hB1.drew.below_ q3; replace hB2 := hB2.drew.below_ q3; replace hL := (hL.below_ (Below.refl _ _).drew).below_ q3; replace hbw := hbw.drew.trans (q3.mono hbw.drew.size))
      | (go_at_call 124; (with_reducible refine (bytes_at a b (W.alloc (.cells #[.int .u8 1] 5)).drew a0 a1 b0 b1).mono ?_); rintro e w3 ⟨A3, z3, rfl, o3, q3⟩; have hOne : Has w3 (.slice (some ⟨W.heap.size, 0, none⟩) 1 1) [1] := (has_one W 1).drew.below_ q3; replace hB0 := (hB0.alloc _).drew.below_ q3; replace hB1 := (hB1.alloc _).drew.below_ q3; replace hB2 := (hB2.alloc _).drew.below_ q3; replace hL := (hL.below_ (((Below.refl _ _).alloc (Nat.le_refl _) _).drew)).below_ q3; replace hbw := (hbw.alloc hbw.size _).drew.trans (q3.mono (by have := hbw.size; simp; omega)))
      | (go_at_call 124; (with_reducible refine (bytes_at c d w3 c0 c1 d0 d1).mono ?_); rintro e w4 ⟨A4, z4, rfl, o4, q4⟩; replace hB0 := hB0.below_ q4; replace hB1 := hB1.below_ q4; replace hB2 := hB2.below_ q4; replace hL := hL.below_ q4; replace o3 := o3.below_ q4; replace hbw := hbw.trans (q4.mono hbw.size); try (replace hOne := hOne.below_ q4))
      | (go_at_call 124; (with_reducible refine (bytes_at c d (w3.alloc (.cells #[.int .u8 1] 5)) c0 c1 d0 d1).mono ?_); rintro e w4 ⟨A4, z4, rfl, o4, q4⟩; have hOne : Has w4 (.slice (some ⟨w3.heap.size, 0, none⟩) 1 1) [1] := (has_one w3 1).below_ q4; replace hB0 := (hB0.alloc _).below_ q4; replace hB1 := (hB1.alloc _).below_ q4; replace hB2 := (hB2.alloc _).below_ q4; replace hL := (hL.below_ ((Below.refl _ _).alloc (Nat.le_refl _) _)).below_ q4; replace o3 := (o3.alloc _).below_ q4; replace hbw := (hbw.alloc hbw.size _).trans (q4.mono (by have := hbw.size; simp; omega)))
      | (go_at_call 168; have hq1 : Has w4 (.slice (some ⟨W.heap.size, 0, none⟩) 1 1) [1] := hOne; have hRw := acc3 hq1 o3 o4 (by simp) (pairB_ne _ _) (pairB_ne _ _); replace hB0 := hB0.alloc (.cells #[.slice (some ⟨W.heap.size, 0, none⟩) 1 1, .slice A3 16 z3, .slice A4 16 z4] 32); replace hB1 := hB1.alloc (.cells #[.slice (some ⟨W.heap.size, 0, none⟩) 1 1, .slice A3 16 z3, .slice A4 16 z4] 32); replace hB2 := hB2.alloc (.cells #[.slice (some ⟨W.heap.size, 0, none⟩) 1 1, .slice A3 16 z3, .slice A4 16 z4] 32); replace hL := hL.below_ ((Below.refl _ _).alloc (Nat.le_refl _) (.cells #[.slice (some ⟨W.heap.size, 0, none⟩) 1 1, .slice A3 16 z3, .slice A4 16 z4] 32)); replace hbw := hbw.alloc hbw.size (.cells #[.slice (some ⟨W.heap.size, 0, none⟩) 1 1, .slice A3 16 z3, .slice A4 16 z4] 32); have hfW : Fresh ρ _ := fun i hi => hfr i (Nat.le_trans hbw.size hi); (with_reducible refine (hcs _ _ hfW hL hRw).mono ?_); rintro e w5 ⟨rfl, h5, s5⟩; replace hB0 := hB0.ch s5.ch (by rw [hfr _ (Nat.le_refl _)]; unfold rtOrc; decide); replace hB1 := hB1.ch s5.ch (by rw [hfr (w.heap.size + 1) (by omega)]; unfold rtOrc; decide); replace hB2 := hB2.ch s5.ch (by rw [hfr (w.heap.size + 1 + 1) (by omega)]; unfold rtOrc; decide); have x0 := hB2.cell_ 0 rfl; have x1 := hB2.cell_ 1 rfl; have y0 := hB2.frozen 0; have y1 := hB2.frozen 1; have yl := hB2.lt)
      | (go_at_call 168; have hq1 : Has w4 (.slice (some ⟨w3.heap.size, 0, none⟩) 1 1) [1] := hOne; have hRw := acc3 hq1 o3 o4 (by simp) (pairB_ne _ _) (pairB_ne _ _); replace hB0 := hB0.alloc (.cells #[.slice (some ⟨w3.heap.size, 0, none⟩) 1 1, .slice A3 16 z3, .slice A4 16 z4] 32); replace hB1 := hB1.alloc (.cells #[.slice (some ⟨w3.heap.size, 0, none⟩) 1 1, .slice A3 16 z3, .slice A4 16 z4] 32); replace hB2 := hB2.alloc (.cells #[.slice (some ⟨w3.heap.size, 0, none⟩) 1 1, .slice A3 16 z3, .slice A4 16 z4] 32); replace hL := hL.below_ ((Below.refl _ _).alloc (Nat.le_refl _) (.cells #[.slice (some ⟨w3.heap.size, 0, none⟩) 1 1, .slice A3 16 z3, .slice A4 16 z4] 32)); replace hbw := hbw.alloc hbw.size (.cells #[.slice (some ⟨w3.heap.size, 0, none⟩) 1 1, .slice A3 16 z3, .slice A4 16 z4] 32); have hfW : Fresh ρ _ := fun i hi => hfr i (Nat.le_trans hbw.size hi); (with_reducible refine (hcs _ _ hfW hL hRw).mono ?_); rintro e w5 ⟨rfl, h5, s5⟩; replace hB0 := hB0.ch s5.ch (by rw [hfr _ (Nat.le_refl _)]; unfold rtOrc; decide); replace hB1 := hB1.ch s5.ch (by rw [hfr (w.heap.size + 1) (by omega)]; unfold rtOrc; decide); replace hB2 := hB2.ch s5.ch (by rw [hfr (w.heap.size + 1 + 1) (by omega)]; unfold rtOrc; decide); have x0 := hB2.cell_ 0 rfl; have x1 := hB2.cell_ 1 rfl; have y0 := hB2.frozen 0; have y1 := hB2.frozen 1; have yl := hB2.lt)
      | (go_at_call 168; have h1w : Has (w4.alloc (.cells #[.int .u8 1] 5)) (.slice (some ⟨w4.heap.size, 0, none⟩) 1 1) [1] := has_one w4 1; have hRw := acc3 h1w (o3.alloc (.cells #[.int .u8 1] 5)) (o4.alloc (.cells #[.int .u8 1] 5)) (by simp) (pairB_ne _ _) (pairB_ne _ _); rw [World.size_alloc] at hRw; replace hB0 := (hB0.alloc (.cells #[.int .u8 1] 5)).alloc (.cells #[.slice (some ⟨w4.heap.size, 0, none⟩) 1 1, .slice A3 16 z3, .slice A4 16 z4] 32); replace hB1 := (hB1.alloc (.cells #[.int .u8 1] 5)).alloc (.cells #[.slice (some ⟨w4.heap.size, 0, none⟩) 1 1, .slice A3 16 z3, .slice A4 16 z4] 32); replace hB2 := (hB2.alloc (.cells #[.int .u8 1] 5)).alloc (.cells #[.slice (some ⟨w4.heap.size, 0, none⟩) 1 1, .slice A3 16 z3, .slice A4 16 z4] 32); replace hL := (hL.below_ ((Below.refl _ _).alloc (Nat.le_refl _) (.cells #[.int .u8 1] 5))).below_ ((Below.refl _ _).alloc (Nat.le_refl _) (.cells #[.slice (some ⟨w4.heap.size, 0, none⟩) 1 1, .slice A3 16 z3, .slice A4 16 z4] 32)); replace hbw := (hbw.alloc hbw.size (.cells #[.int .u8 1] 5)).alloc (Nat.le_trans hbw.size (by simp)) (.cells #[.slice (some ⟨w4.heap.size, 0, none⟩) 1 1, .slice A3 16 z3, .slice A4 16 z4] 32); have hfW : Fresh ρ _ := fun i hi => hfr i (Nat.le_trans hbw.size hi); (with_reducible refine (hcs _ _ hfW hL hRw).mono ?_); rintro e w5 ⟨rfl, h5, s5⟩; replace hB0 := hB0.ch s5.ch (by rw [hfr _ (Nat.le_refl _)]; unfold rtOrc; decide); replace hB1 := hB1.ch s5.ch (by rw [hfr (w.heap.size + 1) (by omega)]; unfold rtOrc; decide); replace hB2 := hB2.ch s5.ch (by rw [hfr (w.heap.size + 1 + 1) (by omega)]; unfold rtOrc; decide); have x0 := hB2.cell_ 0 rfl; have x1 := hB2.cell_ 1 rfl; have y0 := hB2.frozen 0; have y1 := hB2.frozen 1; have yl := hB2.lt))
  all_goals
    have bR := (hB2.set_to 0 (.int .u64 ta) (cs' := #[.int .u64 ta, .int .u64 0]) rfl).set_to 1 (.int .u64 tb) (cs' := [.int .u64 ta, .int .u64 tb].toArray) rfl
    have g2 := only_set2 w5 (w.heap.size + 1 + 1) 0 1 (.int .u64 ta) (.int .u64 tb)
    have h0 := hfr (w.heap.size + 1 + 1) (by omega)
    have HF := Lib.hid (And.intro bR (And.intro (lk_back h5 g2 h0) (ste_back hbw s5 g2 (by omega))))
    clear hB0 hB1 hB2 bR g2 h0 h5 s5 x0 x1 y0 y1 hL hbw hRw o3 o4
    go_wp2_with fail
    obtain ⟨bR, r1, r2⟩ := HF.out
    exact ret_cell 6 101 (by rfl) (w.heap.size + 1 + 1) 0 (by rfl) _ _ bR.range Tryz.underlying101 rfl sz101 rfl ⟨rfl, r1, r2⟩
end Go.Proofs.YtggmdjdflaglpaaGreat
namespace Go.Proofs.YtggmdjdflaglpaaGreat
open Go.RowKit
set_option linter.unusedVariables false
/-- the lock behind i leaves' sums -/
def lfL (L : Lk) (R : List By) : Nat → Lk
  | 0 => L
  | i + 1 => (lfL L R i).summed (leafS (R.getD i []))
def lfN (L : Lk) (R : List By) (i : Nat) : Two := (lfL L R i).sum (leafS (R.getD i []))
/-- the nodes behind i leaves -/
def nd1 (L : Lk) (R : List By) (i k : Nat) : Two := if R.length ≤ k ∧ k < R.length + i then lfN L R (k - R.length) else (0, 0)
/-- the lock and the nodes behind j inner nodes -/
def nd2 (L : Lk) (R : List By) : Nat → Lk × (Nat → Two)
  | 0 => (lfL L R R.length, nd1 L R R.length)
  | j + 1 =>
    let q := nd2 L R j
    let i := R.length - 1 - j
    let s := nodeS (q.2 (2 * i)) (q.2 (2 * i + 1))
    (q.1.summed s, fun k => if k = i then q.1.sum s else q.2 k)
def bldL (L : Lk) (R : List By) : Lk := (nd2 L R (R.length - 1)).1
def bldN (L : Lk) (R : List By) (k : Nat) : Two := (nd2 L R (R.length - 1)).2 k
theorem lfL_lim {L : Lk} {R : List By} {k : Nat} (h : L.lim k) : ∀ i, (lfL L R i).lim (k + i)
  | 0 => h
  | i + 1 => Lk.lim_summed (lfL_lim h i) _
theorem nd2_lim {L : Lk} {R : List By} {k : Nat} (h : L.lim k) : ∀ j, (nd2 L R j).1.lim (k + R.length + j)
  | 0 => lfL_lim h _
  | j + 1 => Lk.lim_summed (nd2_lim h j) _
theorem nd1_u {L : Lk} {R : List By} {m : Nat} (h : L.lim m) (hR : R.length ≤ 16) (hm : m ≤ 900000) (i k : Nat) (hi : i ≤ R.length) : U2 (nd1 L R i k) := by
  unfold nd1
  split
  · exact Lk.sum_u (lfL_lim h _) (by omega) _
  · unfold U2 U64; decide
theorem nd2_u {L : Lk} {R : List By} {m : Nat} (h : L.lim m) (hR : R.length ≤ 16) (hm : m ≤ 900000) : ∀ (j k : Nat), j ≤ 16 → U2 ((nd2 L R j).2 k)
  | 0, k, _ => nd1_u h hR hm _ _ (Nat.le_refl _)
  | j + 1, k, hj => by
    simp only [nd2]
    split
    · exact Lk.sum_u (nd2_lim h j) (by omega) _
    · exact nd2_u h hR hm j k (by omega)
/-- a row of n Pairs -/
def pcells (n : Nat) (f : Nat → Two) : List Value := (List.range n).flatMap (fun k => [.int .u64 (f k).1, .int .u64 (f k).2])
theorem pcells_succ (n : Nat) (f : Nat → Two) : pcells (n + 1) f = pcells n f ++ [.int .u64 (f n).1, .int .u64 (f n).2] := by
  unfold pcells
  rw [List.range_succ, List.flatMap_append]
  simp
theorem pcells_len (n : Nat) (f : Nat → Two) : (pcells n f).length = 2 * n := by
  induction n with
  | zero => rfl
  | succ n ih => rw [pcells_succ, List.length_append, ih]; simp; omega
theorem pcells_at {n k : Nat} (f : Nat → Two) (hk : k < n) : (pcells n f)[2 * k]? = some (.int .u64 (f k).1) ∧ (pcells n f)[2 * k + 1]? = some (.int .u64 (f k).2) := by
  induction n with
  | zero => omega
  | succ n ih =>
    rw [pcells_succ]
    by_cases e : k < n
    · rw [List.getElem?_append_left (by rw [pcells_len]; omega), List.getElem?_append_left (by rw [pcells_len]; omega)]
      exact ih e
    · obtain rfl : k = n := by omega
      rw [List.getElem?_append_right (by rw [pcells_len]; omega), List.getElem?_append_right (by rw [pcells_len]; omega), pcells_len]
      have h1 : 2 * k - 2 * k = 0 := by omega
      have h2 : 2 * k + 1 - 2 * k = 1 := by omega
      rw [h1, h2]
      exact ⟨rfl, rfl⟩
theorem pcells_set {n k : Nat} (f : Nat → Two) (t : Two) (hk : k < n) : (((pcells n f).set (2 * k) (.int .u64 t.1)).set (2 * k + 1) (.int .u64 t.2)) = pcells n (fun i => if i = k then t else f i) := by
  apply List.ext_getElem?
  intro j
  rw [List.getElem?_set, List.getElem?_set]
  simp only [List.length_set, pcells_len]
  obtain ⟨i, hi⟩ : ∃ i, j = 2 * i ∨ j = 2 * i + 1 := ⟨j / 2, by omega⟩
  by_cases hin : i < n
  · have h1 := pcells_at f hin
    have h2 := pcells_at (fun i => if i = k then t else f i) hin
    rcases hi with rfl | rfl
    · rw [if_neg (by omega)]
      by_cases e : 2 * k = 2 * i
      · obtain rfl : k = i := by omega
        rw [if_pos rfl, if_pos (by omega), h2.1, if_pos rfl]
      · rw [if_neg e, h1.1, h2.1, if_neg (by omega)]
    · by_cases e : 2 * k + 1 = 2 * i + 1
      · obtain rfl : k = i := by omega
        rw [if_pos rfl, if_pos (by omega), h2.2, if_pos rfl]
      · rw [if_neg e, if_neg (by omega), h1.2, h2.2, if_neg (by omega)]
  · rw [List.getElem?_eq_none (l := pcells n (fun i => if i = k then t else f i)) (by rw [pcells_len]; omega), List.getElem?_eq_none (l := pcells n f) (by rw [pcells_len]; omega)]
    split
    · rw [if_neg (by omega)]
    · split
      · rw [if_neg (by omega)]
      · rfl
theorem made_pairs (n : Nat) : madeCells (Value.agg #[.int .u64 0, .int .u64 0]).cells (n * 2) = (pcells n (fun _ => (0, 0))).toArray := by
  apply Array.ext
  · simp [madeCells, pcells_len]; omega
  · intro i h1 h2
    simp only [madeCells, Value.cells, List.getElem_toArray]
    have hi : i < 2 * n := by simpa [pcells_len] using h2
    have h3 := pcells_at (fun _ => ((0, 0) : Two)) (show i / 2 < n by omega)
    have key : (pcells n (fun _ => ((0, 0) : Two)))[i]? = some (.int .u64 0) := by
      by_cases e : i % 2 = 0
      · have : i = 2 * (i / 2) := by omega
        rw [this]; exact h3.1
      · have : i = 2 * (i / 2) + 1 := by omega
        rw [this]; exact h3.2
    rw [List.getElem?_eq_getElem (by rw [pcells_len]; omega)] at key
    injection key with key
    rw [key]
    rcases Nat.mod_two_eq_zero_or_one i with e | e <;> simp [e]
theorem info101 : (Tryz.prog.info? 101).map (fun i => (i.zero, i.size, i.bytes)) = some (some (.agg #[.int .u64 0, .int .u64 0]), 2, 16) := by kernel_rfl
theorem make_pairs (n : Nat) (hn : n ≤ 1000) (w : World) : (Instr.makeSlice 190 (.int .i64 (n : Int)) (.int .i64 (n : Int))).run Tryz.prog w = .ok (.slice (some ⟨w.heap.size, 0, none⟩) n n) (w.alloc (.cells (pcells n (fun _ => (0, 0))).toArray 101)) := by
  obtain ⟨i0, hi, hz0, hz1, hz2⟩ := info_parts info101
  have h := run_make (P := Tryz.prog) w 190 101 i0 (.agg #[.int .u64 0, .int .u64 0]) Tryz.underlying190 hi hz0 .i64 .i64 n n (by omega) (by omega) (by rw [hz2]; omega) (by omega)
  rw [hz1] at h
  simp only [Int.toNat_natCast] at h
  rw [made_pairs] at h
  exact h
end Go.Proofs.YtggmdjdflaglpaaGreat
