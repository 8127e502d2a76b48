/- The cache: slot. The cache: its calls as plain functions (no walk). The cache in memory: what keeps it; the age's calls, said by roles. The cache: sizes and shapes that hold throughout; what each plain function does to them (no walk). -/
import Derived.Test.YtggmdjdflaglpaaGreatM27
import Derived.Test.YtggmdjdflaglpaaGreatM24
namespace Go.Proofs.YtggmdjdflaglpaaGreat
open Go.RowKit Go.Proofs.YtggmdjdflaglpaaGreat.geo
set_option linter.unusedVariables false
/-- a leaf of a block -/
def Lf.hasL (l : Lf) (k : Nat) : Bool := decide (l.kind ≠ 0) && decide (l.lba = k)
theorem hasL_ok (l : Lf) (k B : Nat) (w : World) (h : w.cell? ⟨B, 0, none⟩ = some (.int .i64 k)) :
    Calls Tryz.prog 149 #[lfv l, .pointer (some ⟨B, 0, none⟩)] w fun e w' => e = .returned (.bool (l.hasL k)) ∧ Below w.heap.size w w' := by
  obtain ⟨kind, dirty, lba, ⟨ep, sl, ver⟩, ta, tb⟩ := l
  have hB : B < w.heap.size := by
    rcases Nat.lt_or_ge B w.heap.size with h' | h'
    · exact h'
    · simp [World.cell?, h'] at h
  have hx : ∀ o, (w.alloc o).cell? ⟨B, 0, none⟩ = some (.int .i64 k) := fun o => (World.cell?_alloc_lt _ _ _ hB).trans h
  unfold lfv lfc Lf.hasL
  simp only
  by_cases e1 : kind = 0
  · subst e1
    go_enter Tryz.func149, Tryz.ntmps149
    go_wp2_with fail
    go_ret
    exact ⟨rfl, (Below.refl _ _).alloc (Nat.le_refl _) _⟩
  · have t1 : ((kind : Int) == 0) = false := by simpa using e1
    by_cases e2 : lba = k
    · subst e2
      have t2 : ((lba : Int) == (lba : Int)) = true := by simp
      go_enter Tryz.func149, Tryz.ntmps149
      go_wp2_with fail
      go_ret
      exact ⟨by simp [e1], (Below.refl _ _).alloc (Nat.le_refl _) _⟩
    · have t2 : ((lba : Int) == (k : Int)) = false := by simp; omega
      go_enter Tryz.func149, Tryz.ntmps149
      go_wp2_with fail
      go_ret
      exact ⟨by simp [e1, e2], (Below.refl _ _).alloc (Nat.le_refl _) _⟩
/-- the least from i on, below n, of which f is true; -1: none -/
def fstOf (f : Nat → Bool) (n i : Nat) : Int := match (List.range' i (n - i)).find? f with | some k => (k : Int) | none => -1
theorem fstOf_no {f : Nat → Bool} {n i : Nat} (h : i < n) (hf : f i = false) : fstOf f n i = fstOf f n (i + 1) := by
  unfold fstOf
  have e : n - i = (n - (i + 1)) + 1 := by omega
  rw [e, List.range'_succ, List.find?_cons, hf]
theorem fstOf_yes {f : Nat → Bool} {n i : Nat} (h : i < n) (hf : f i = true) : fstOf f n i = i := by
  unfold fstOf
  have e : n - i = (n - (i + 1)) + 1 := by omega
  rw [e, List.range'_succ, List.find?_cons, hf]
theorem fstOf_end (f : Nat → Bool) (n : Nat) : fstOf f n n = -1 := by
  unfold fstOf
  rw [Nat.sub_self]
  rfl
def slotF (ls : List Lf) (k i : Nat) : Bool := (ls.getD i Lf.no).hasL k
def slotOf (ls : List Lf) (k : Nat) : Int := fstOf (slotF ls k) ls.length 0
theorem lidx_ok (g cap B k : Nat) (ls : List Lf) (rr : List Value) (w : World) (hb : Blk w g 103 (lcs ls ++ rr).toArray) (h : w.cell? ⟨B, 0, none⟩ = some (.int .i64 k)) (hl : ls.length ≤ 1000) :
    Calls Tryz.prog 148 #[.slice (some ⟨g, 0, none⟩) ls.length cap, .func (.func 149) #[] #[.pointer (some ⟨B, 0, none⟩)]] w fun e w' => e = .returned (.int .i64 (slotOf ls k)) ∧ Below w.heap.size w w' := by
  obtain ⟨n, hn⟩ : ∃ n, n = ls.length := ⟨_, rfl⟩
  have hB : B < w.heap.size := by
    rcases Nat.lt_or_ge B w.heap.size with h' | h'
    · exact h'
    · simp [World.cell?, h'] at h
  have hd : ∀ i, i < n → ls[i]? = some (ls.getD i Lf.no) := fun i hi => by rw [List.getD_eq_getElem?_getD, List.getElem?_eq_getElem (by omega)]; rfl
  unfold slotOf
  rw [← hn] at hl ⊢
  obtain ⟨R, hR⟩ : ∃ R, R = fstOf (slotF ls k) n 0 := ⟨_, rfl⟩
  rw [← hR]
  have HR := Lib.hid hR
  have HD := Lib.hid hd
  have HB := Lib.hid (And.intro hb h)
  clear hR hd hn
  go_enter Tryz.func148, Tryz.ntmps148
  go_wp2_with fail
  go_loopw [5, 8] (fun _ t wr => ∃ i : Nat, t = .int .i64 i ∧ i ≤ n ∧ Hid (R = fstOf (slotF ls k) n i) ∧ Below w.heap.size w wr) (fun _ t _ => n - (intOf t).toNat)
  case atStart => exact ⟨0, rfl, by omega, HR, Below.refl _ _⟩
  case round =>
    obtain ⟨i, rfl, hi, hF, hbw⟩ := hrel
    have hb' := HB.out.1.below_ hbw
    have h' : wr.cell? ⟨B, 0, none⟩ = some (.int .i64 k) := (hbw.cell hB).trans HB.out.2
    clear HR hb h
    by_cases hlt : i < n
    · have m0 : (0 : Int) ≤ (i : Int) := by omega
      have m1 : (i : Int) < (n : Int) := by omega
      have hgr := hb'.leaf (HD.out i hlt)
      have hc := hasL_ok (ls.getD i Lf.no) k B wr h'
      have hsl : slotF ls k i = (ls.getD i Lf.no).hasL k := rfl
      obtain ⟨l, hL⟩ : ∃ l, l = ls.getD i Lf.no := ⟨_, rfl⟩
      rw [← hL] at hgr hc hsl
      have sz8 : (Tryz.prog.info? 103).map (·.size) = some (lfc l).length := sz103
      unfold lfv at hc
      cases hfa : l.hasL k with
      | true =>
        rw [hfa] at hc hsl
        have HA := Lib.hid hsl
        have HQ := Lib.hid hbw
        clear hfa hsl hL hbw
        go_wp2_with (with_reducible refine wpList_load_mid rfl 103 _ rfl g (i * 8) rfl _ _ hgr Tryz.underlying103 rfl sz8 ?_)
        refine hc.mono ?_
        rintro e w1 ⟨rfl, q⟩
        clear hc hgr
        go_wp2_with fail
        go_ret
        exact ⟨by rw [hF.out, fstOf_yes hlt HA.out]; rfl, HQ.out.trans (q.mono HQ.out.size)⟩
      | false =>
        rw [hfa] at hc hsl
        have HA := Lib.hid hsl
        have HQ := Lib.hid hbw
        clear hfa hsl hL hbw
        go_wp2_with (with_reducible refine wpList_load_mid rfl 103 _ rfl g (i * 8) rfl _ _ hgr Tryz.underlying103 rfl sz8 ?_)
        refine hc.mono ?_
        rintro e w1 ⟨rfl, q⟩
        clear hc hgr
        go_wp2_with fail
        go_roundw
        case rel => exact ⟨i + 1, by go_num, by omega, Lib.hid (by rw [hF.out, fstOf_no hlt HA.out]), HQ.out.trans (q.mono HQ.out.size)⟩
        case measure => simp [intOf]; omega
    · obtain rfl : n = i := by omega
      have hd : decide ((n : Int) < (n : Int)) = false := by simp
      go_wp2_with fail
      go_ret
      exact ⟨by rw [hF.out, fstOf_end]; rfl, hbw⟩
theorem slot_ok (ρ : Rl) (a : Ads) (cc m ag k : Nat) (C : Cch) (w : World) (h : CchR ρ w a cc m ag C) (hl : C.now.length ≤ 16) :
    Calls Tryz.prog 113 #[.pointer (some ⟨cc, 0, none⟩), .int .i64 k] w fun e w' => e = .returned (.int .i64 (slotOf C.now k)) ∧ Below w.heap.size w w' := by
  obtain ⟨vn, vw, hb, _, _, _, ⟨g1, p1, rr, rfl, _, h1⟩, _⟩ := h
  have c2 := hb.cell_ 2 rfl
  have lc := hb.lt
  obtain ⟨s, hs⟩ : ∃ s, s = slotOf C.now k := ⟨_, rfl⟩
  have hc := lidx_ok g1 p1 w.heap.size k C.now rr (w.alloc (.cells #[.int .i64 k] 3)) (h1.alloc _) ((Blk.new w 3 #[.int .i64 k]).cell_ 0 rfl) (by omega)
  rw [← hs] at hc ⊢
  obtain ⟨n, hn⟩ : ∃ n, n = C.now.length := ⟨_, rfl⟩
  rw [← hn] at c2 hc
  clear hb hs h1 hn hl
  have hmf : ∀ (fn : Fn) (first cap : Array Value) (w : World), (Instr.makeFunc fn first cap).run Tryz.prog w = .ok (.func fn first cap) w := fun _ _ _ _ => rfl
  go_enter Tryz.func113, Tryz.ntmps113
  go_wp2_with (go_at_call 148; refine hc.mono ?_; rintro e w1 ⟨rfl, q⟩)
  go_ret
  exact ⟨rfl, ((Below.refl _ _).alloc (Nat.le_refl _) _).trans (q.mono (by simp))⟩
end Go.Proofs.YtggmdjdflaglpaaGreat
namespace Go.Proofs.YtggmdjdflaglpaaGreat
open Go.RowKit Go.Proofs.YtggmdjdflaglpaaGreat.geo
set_option linter.unusedVariables false
def Cch.lf (C : Cch) (s : Nat) : Lf := C.now.getD s Lf.no
def Cch.wld (C : Cch) (W : Wld) : Cch := ⟨W, C.M, C.now, C.was, C.age, C.T, C.pois⟩
def Cch.bad (C : Cch) : Cch := ⟨C.W, C.M, C.now, C.was, C.age, C.T, true⟩
/-- what is opened of a leaf, as it lies at a slot -/
def Wld.vopen (W : Wld) (l : Lf) (s : Nat) : Option By :=
  if l.n.ep.toNat ∈ W.kys.es then W.lk.opens (keyOf W.kys.seed l.n.ep.toNat) l.n (headB l.lba) (W.sbytes (s * 32) 32) l.tag else none
def Cch.vopen (C : Cch) (s : Nat) : Option By := C.W.vopen (C.lf s) s
def nought : By := List.replicate 32 0
/-- value: the error, the bytes, what becomes of the cache -/
def cval (C : Cch) (s : Nat) : Int × By × Cch :=
  if (C.lf s).kind = 2 then (0, nought, C) else if C.W.pow.gone then (7, [], C)
  else match C.vopen s with
    | some b => (0, b, C)
    | none => (3, [], C.bad)
/-- commit -/
def ccommit (C : Cch) : Int × Cch :=
  ((cmt C.W C.M C.now).1, ⟨(cmt C.W C.M C.now).2.1, (cmt C.W C.M C.now).2.2, C.now, if (cmt C.W C.M C.now).1 = 0 then C.now else C.was, C.age, C.T, C.pois⟩)
/-- lay: the number, what is sealed, the cache behind -/
def lnce (C : Cch) (s : Nat) : Nce := C.M.nonce C.W.kys.cur s
def lsh (C : Cch) (s k : Nat) (data : By) : By × Two := C.W.lk.shut C.W.curKey (lnce C s) (headB k) data
def lwld (C : Cch) (s k : Nat) (data : By) : Wld := (C.W.lck (C.W.lk.shutd C.W.curKey (lnce C s) (headB k) data)).swr ((s * 32 : Nat) : Int) (lsh C s k data).1
def lleaf (C : Cch) (s k : Nat) (data : By) (dirty : Bool) : Lf := ⟨1, dirty, k, lnce C s, (lsh C s k data).2⟩
def lcch (C : Cch) (s k : Nat) (data : By) : Cch := ⟨lwld C s k data, C.M.up, C.now, C.was, C.age, C.T, C.pois⟩
def clay (C : Cch) (s k : Nat) (data : By) (dirty : Bool) : Int × Lf × Cch :=
  if C.M.n = 100 then (6, Lf.no, C) else if (spend C.W.pow).2 = false then (7, Lf.no, lcch C s k data) else (0, lleaf C s k data dirty, lcch C s k data)
/-- spill -/
def cspill (C : Cch) (s : Nat) : Int × Cch :=
  if (cval C s).1 ≠ 0 then ((cval C s).1, (cval C s).2.2)
  else (if dwok C.W.pow C.W.dsk then 0 else if (C.W.dwr (C.lf s).lba (cval C s).2.1).pow.gone then 7 else 5, C.wld (C.W.dwr (C.lf s).lba (cval C s).2.1))
def cdrops (C : Cch) (s : Nat) : Cch := ⟨C.W, C.M, C.now.set s Lf.no, C.was, dl s C.age, C.T, C.pois⟩
def cevict (C : Cch) (s : Nat) : Int × Cch :=
  if (C.lf s).dirty then
    if (cspill C s).1 ≠ 0 then cspill C s
    else if (spend (cspill C s).2.W.pow).2 = false then (7, (cspill C s).2.wld (cspill C s).2.W.dbar)
    else ccommit (cdrops ((cspill C s).2.wld (cspill C s).2.W.dbar) s)
  else ccommit (cdrops C s)
def oldest (C : Cch) : Nat := (om C.age).toNat
def croom (C : Cch) : Int × Cch :=
  if 0 ≤ free C then (0, C) else if (ccommit C).1 ≠ 0 then ccommit C else if 0 ≤ free (ccommit C).2 then (0, (ccommit C).2) else cevict (ccommit C).2 (oldest (ccommit C).2)
/-- the dirty ones of the first i slots are spilt: the error, the cache, whether there was one -/
def cspills (C : Cch) : Nat → Int × Cch × Bool
  | 0 => (0, C, false)
  | i + 1 => if (cspills C i).1 ≠ 0 then cspills C i else if (C.lf i).dirty then ((cspill (cspills C i).2.1 i).1, (cspill (cspills C i).2.1 i).2, true) else cspills C i
def cclear (C : Cch) : Cch := ⟨C.W, C.M, List.replicate C.now.length Lf.no, C.was, [], 0, C.pois⟩
def cempty (C : Cch) : Int × Cch :=
  if (cspills C C.now.length).1 ≠ 0 then ((cspills C C.now.length).1, (cspills C C.now.length).2.1)
  else if (cspills C C.now.length).2.2 then
    if (spend (cspills C C.now.length).2.1.W.pow).2 = false then (7, (cspills C C.now.length).2.1.wld (cspills C C.now.length).2.1.W.dbar)
    else (0, cclear ((cspills C C.now.length).2.1.wld (cspills C C.now.length).2.1.W.dbar))
  else (0, cclear (cspills C C.now.length).2.1)
def ctouch (C : Cch) (s : Nat) : Cch := ⟨C.W, C.M, C.now, C.was, dl s C.age ++ [(s : Int)], C.T + 1, C.pois⟩
def cput1 (C : Cch) (s : Nat) (l : Lf) : Cch := ⟨C.W, C.M, C.now.set s l, C.was, dl s C.age ++ [(s : Int)], C.T + 1, C.pois⟩
def cputs (C : Cch) (s : Nat) (l : Lf) : Cch := if 0 ≤ slotOf C.now l.lba then cdrops (cput1 C s l) (slotOf C.now l.lba).toNat else cput1 C s l
/-- read: the error, the bytes, the cache -/
def cread (C : Cch) (k : Nat) : Int × By × Cch :=
  if 0 ≤ slotOf C.now k then
    if (cval C (slotOf C.now k).toNat).1 ≠ 0 then cval C (slotOf C.now k).toNat else (0, (cval C (slotOf C.now k).toNat).2.1, ctouch C (slotOf C.now k).toNat)
  else if C.W.pow.gone then (7, [], C)
  else if free C < 0 ∨ C.M.n = 100 then (0, dread C.W.dsk k, C)
  else if (clay C (free C).toNat k (dread C.W.dsk k) false).1 ≠ 0 then ((clay C (free C).toNat k (dread C.W.dsk k) false).1, [], (clay C (free C).toNat k (dread C.W.dsk k) false).2.2)
  else (0, dread C.W.dsk k, cputs (clay C (free C).toNat k (dread C.W.dsk k) false).2.2 (free C).toNat (clay C (free C).toNat k (dread C.W.dsk k) false).2.1)
def cwrite (C : Cch) (k : Nat) (data : By) : Int × Cch :=
  if (croom C).1 ≠ 0 then croom C
  else if (clay (croom C).2 (free (croom C).2).toNat k data true).1 ≠ 0 then ((clay (croom C).2 (free (croom C).2).toNat k data true).1, (clay (croom C).2 (free (croom C).2).toNat k data true).2.2)
  else (0, cputs (clay (croom C).2 (free (croom C).2).toNat k data true).2.2 (free (croom C).2).toNat (clay (croom C).2 (free (croom C).2).toNat k data true).2.1)
def cdiscard (C : Cch) (k : Nat) : Int × Cch :=
  if (croom C).1 ≠ 0 then croom C else (0, cputs (croom C).2 (free (croom C).2).toNat (Lf.zero k))
def cforget (C : Cch) : Int × Cch :=
  if (ccommit C).1 ≠ 0 then ccommit C else (if (spend (ccommit C).2.W.pow).2 then 0 else 7, (ccommit C).2.wld (ccommit C).2.W.kdel)
def crotate (C : Cch) : Int × Cch :=
  if (ccommit C).1 ≠ 0 then ccommit C
  else if (cempty (ccommit C).2).1 ≠ 0 then cempty (ccommit C).2
  else if (spend (cempty (ccommit C).2).2.W.pow).2 = false then (7, (cempty (ccommit C).2).2.wld (cempty (ccommit C).2).2.W.kadd)
  else cforget ((cempty (ccommit C).2).2.wld (cempty (ccommit C).2).2.W.kadd)
end Go.Proofs.YtggmdjdflaglpaaGreat
namespace Go.Proofs.YtggmdjdflaglpaaGreat
open Go.RowKit Go.Proofs.YtggmdjdflaglpaaGreat.geo
set_option linter.unusedVariables false
/-- what the cache and its world are made of; what may turn in them -/
def rsC (r : Nat) : Prop := 1 ≤ r ∧ r ≤ 22
def rtC (r : Nat) : Prop := (2 ≤ r ∧ r ≤ 16) ∨ (18 ≤ r ∧ r ≤ 22)
theorem rtW.c {r : Nat} (h : rtW r) : rtC r := .inl h
theorem rtLog.c {r : Nat} (h : rtLog r) : rtC r := by
  rcases h with h | h
  · exact .inl h
  · rw [h]; exact .inr (by decide)
theorem rtC0 : ¬ rtC 0 := by unfold rtC; decide
theorem rtC1 : ¬ rtC 1 := by unfold rtC; decide
theorem AgeR.keep {ρ ρ' : Rl} {w w' : World} {ag T : Nat} {L : List Int} (h : AgeR ρ w ag T L) (hk : ∀ b, b < w.heap.size → ρ b = rAge → w'.heap[b]? = w.heap[b]? ∧ ρ' b = ρ b) : AgeR ρ' w' ag T L := by
  obtain ⟨g, hA, h1, h2, h3⟩ := h
  have hl : ∀ x, (x = ag ∨ x = g ∨ At w g x) → x < w.heap.size ∧ ρ x = rAge := by
    intro x hx
    rcases hx with rfl | rfl | hx
    · obtain ⟨lf, tk, zs, ⟨A, cap, _, _, _, ha, _⟩, _⟩ := hA
      exact ⟨ha.lt, h1⟩
    · obtain ⟨lf, tk, zs, ⟨A, cap, hg, _⟩, _⟩ := hA
      exact ⟨hg.lt, h2⟩
    · exact ⟨(hA.rows x hx).2.1, h3 x hx⟩
  have hk' : ∀ x, (x = ag ∨ x = g ∨ At w g x) → w'.heap[x]? = w.heap[x]? ∧ ρ' x = ρ x := fun x hx => hk x (hl x hx).1 (hl x hx).2
  refine ⟨g, hA.same (fun x hx => (hk' x hx).1), (hk' ag (.inl rfl)).2.trans h1, (hk' g (.inr (.inl rfl))).2.trans h2, fun s hs => ?_⟩
  have hs' : At w g s := by
    obtain ⟨A, n, c, e1, e2⟩ := hs
    refine ⟨A, n, c, ?_, e2⟩
    rw [← e1]
    simp only [World.cell?, (hk' g (.inr (.inl rfl))).1]
  exact (hk' s (.inr (.inr hs'))).2.trans (h3 s hs')
theorem AgeR.lt {ρ : Rl} {w : World} {ag T : Nat} {L : List Int} (h : AgeR ρ w ag T L) : ag < w.heap.size := by
  obtain ⟨g, ⟨lf, tk, zs, ⟨A, cap, _, _, _, ha, _⟩, _⟩, _⟩ := h
  exact ha.lt
theorem AgeR.role {ρ : Rl} {w : World} {ag T : Nat} {L : List Int} (h : AgeR ρ w ag T L) : ρ ag = rAge := by
  obtain ⟨g, _, h1, _⟩ := h
  exact h1
theorem At.uniq {w : World} {g s t : Nat} (h : At w g s) (k : At w g t) : s = t := by
  obtain ⟨A, n, c, h1, rfl⟩ := h
  obtain ⟨B, m, d, k1, rfl⟩ := k
  rw [h1] at k1
  injection k1 with k1
  injection k1 with k1
  injection k1 with k1
  rw [k1]
/-- the age turned -/
theorem AgeR.step {ρ : Rl} {w w' : World} {ag g T' : Nat} {L' : List Int} (hf : Fresh ρ w) (h1 : ρ ag = rAge) (h2 : ρ g = rAge) (h3 : ∀ s, At w g s → ρ s = rAge) (hg : g < w.heap.size) (hag : ag < w.heap.size) (hA : AI w' 0 ag g T' L') (hF : Fr ag g w w') :
    ∃ ρ', AgeR ρ' w' ag T' L' ∧ Ste (· = rAge) ρ w ρ' w' := by
  have hsz := hF.1.size
  have hch : Ch (fun i => ρ i = rAge) w w' := ⟨hF.1.os, hF.1.tape, hF.1.output, hsz, fun i hi hn => hF.2.1 i hi (fun e => hn (by rw [e]; exact h1)) (fun e => hn (by rw [e]; exact h2)) (fun c => hn (h3 i c))⟩
  by_cases hex : ∃ s, At w' g s
  · obtain ⟨s, hs⟩ := hex
    have hsl := (hA.rows s hs).2.1
    have hold : ∀ i, i < w.heap.size → (ρ.set s rAge) i = ρ i := fun i hi => by
      by_cases e : i = s
      · rw [e, Rl.set_same]
        rcases hF.2.2 s hs with c | c
        · exact (h3 s c).symm
        · omega
      · exact Rl.set_other _ e
    refine ⟨ρ.set s rAge, ⟨g, hA, (hold ag hag).trans h1, (hold g hg).trans h2, fun t ht => by rw [ht.uniq hs, Rl.set_same]⟩, hch, hold, fun i hi => ?_⟩
    rw [Rl.set_other _ (by omega)]
    exact hf i (by omega)
  · exact ⟨ρ, ⟨g, hA, h1, h2, fun s hs => absurd ⟨s, hs⟩ hex⟩, hch, fun _ _ => rfl, fun i hi => hf i (by omega)⟩
theorem AI.lts {w : World} {B a g T : Nat} {L : List Int} (h : AI w B a g T L) : g < w.heap.size ∧ a < w.heap.size := by
  obtain ⟨lf, tk, zs, ⟨A, cap, hg, _, _, ha, _⟩, _⟩ := h
  exact ⟨hg.lt, ha.lt⟩
theorem atouch_ok (ρ : Rl) (ag T k : Nat) (L : List Int) (w : World) (hf : Fresh ρ w) (h : AgeR ρ w ag T L) (hT : T ≤ 1000) (hk : k < 16) :
    Calls Tryz.prog 42 #[.pointer (some ⟨ag, 0, none⟩), .int .i64 k] w fun e w' => e = .returned (.bool true) ∧ ∃ ρ', AgeR ρ' w' ag (T + 1) (dl k L ++ [(k : Int)]) ∧ Ste (· = rAge) ρ w ρ' w' := by
  obtain ⟨g, hA, h1, h2, h3⟩ := h
  refine (touch_ok 0 ag g T k L w hA (Nat.zero_le _) hT hk).mono ?_
  rintro e w1 ⟨rfl, hA', hF⟩
  exact ⟨rfl, AgeR.step hf h1 h2 h3 hA.lts.1 hA.lts.2 hA' hF⟩
theorem adrop_ok (ρ : Rl) (ag T : Nat) (k : Int) (L : List Int) (w : World) (hf : Fresh ρ w) (h : AgeR ρ w ag T L) :
    Calls Tryz.prog 66 #[.pointer (some ⟨ag, 0, none⟩), .int .i64 k] w fun e w' => e = .returned (.bool (decide (k ∈ L))) ∧ ∃ ρ', AgeR ρ' w' ag T (dl k L) ∧ Ste (· = rAge) ρ w ρ' w' := by
  obtain ⟨g, hA, h1, h2, h3⟩ := h
  refine (drop_ok 0 ag g T L k w hA).mono ?_
  rintro e w1 ⟨rfl, hA', hF⟩
  exact ⟨rfl, AgeR.step hf h1 h2 h3 hA.lts.1 hA.lts.2 hA' hF⟩
theorem aold_ok (ρ : Rl) (ag T : Nat) (L : List Int) (w : World) (h : AgeR ρ w ag T L) :
    Calls Tryz.prog 176 #[.pointer (some ⟨ag, 0, none⟩)] w fun e w' => e = .returned (.tuple #[.int .i64 (om L), .bool (!decide (L = []))]) ∧ w = w' := by
  obtain ⟨g, hA, _⟩ := h
  exact old_ok 0 ag g T L w hA
theorem AI.zero {w : World} {B a g T : Nat} {L : List Int} (h : AI w B a g T L) : AI w 0 a g T L := by
  obtain ⟨lf, tk, zs, ⟨A, cap, h1, h2, ⟨h3, h4⟩, h5, h6, h7⟩, h8⟩ := h
  refine ⟨lf, tk, zs, ⟨A, cap, h1, Nat.zero_le _, ⟨h3, ?_⟩, h5, Nat.zero_le _, h7⟩, h8⟩
  rcases h4 with h4 | ⟨r, c, cur, a1, _, a3⟩
  · exact .inl h4
  · exact .inr ⟨r, c, cur, a1, Nat.zero_le _, a3⟩
theorem aage_ok (ρ : Rl) (w : World) (hf : Fresh ρ w) : Calls Tryz.prog 41 #[] w fun e w' => e = .returned (.pointer (some ⟨w.heap.size, 0, none⟩)) ∧ ∃ ρ', AgeR ρ' w' w.heap.size 0 [] ∧ (∀ T, Ste T ρ w ρ' w') ∧ Below w.heap.size w w' := by
  refine (anew_ok w).mono ?_
  rintro e w1 ⟨rfl, hA, hb⟩
  have hl := hA.lts
  have hst : ∀ T, Ste T ρ w ((ρ.set w.heap.size rAge).set (w.heap.size + 1) rAge) w1 := fun T => ((Ste.of_below hb hf).label (Nat.le_refl _) hl.2).label (by omega) hl.1
  have e1 : ((ρ.set w.heap.size rAge).set (w.heap.size + 1) rAge) w.heap.size = rAge := by rw [Rl.set_other _ (by omega), Rl.set_same]
  have e2 : ((ρ.set w.heap.size rAge).set (w.heap.size + 1) rAge) (w.heap.size + 1) = rAge := Rl.set_same _ _ _
  by_cases hex : ∃ s, At w1 (w.heap.size + 1) s
  · obtain ⟨s, hs⟩ := hex
    have hsl := hA.rows s hs
    refine ⟨rfl, ((ρ.set w.heap.size rAge).set (w.heap.size + 1) rAge).set s rAge, ⟨w.heap.size + 1, hA.zero, ?_, ?_, fun t ht => by rw [ht.uniq hs, Rl.set_same]⟩, fun T => (hst T).label hsl.1 hsl.2.1, hb⟩
    · by_cases e : w.heap.size = s
      · rw [← e, Rl.set_same]
      · rw [Rl.set_other _ e]; exact e1
    · by_cases e : w.heap.size + 1 = s
      · rw [← e, Rl.set_same]
      · rw [Rl.set_other _ e]; exact e2
  · exact ⟨rfl, _, ⟨w.heap.size + 1, hA.zero, e1, e2, fun s hs => absurd ⟨s, hs⟩ hex⟩, hst, hb⟩
theorem LvsP.keepR {r : Nat} {ρ ρ' : Rl} {w w' : World} {v : Value} {ls : List Lf} (h : LvsP (ρ · = r) w v ls) (hk : ∀ b, b < w.heap.size → ρ b = r → w'.heap[b]? = w.heap[b]? ∧ ρ' b = ρ b) : LvsP (ρ' · = r) w' v ls := by
  obtain ⟨g, cap, rr, rfl, h1, h2⟩ := h
  have := hk g h2.lt h1
  exact ⟨g, cap, rr, rfl, this.2.trans h1, this.1.trans h2⟩
theorem CchR.keep {ρ ρ' : Rl} {w w' : World} {a : Ads} {cc m ag : Nat} {C : Cch} (h : CchR ρ w a cc m ag C) (hs : w.heap.size ≤ w'.heap.size) (hk : ∀ b, b < w.heap.size → rsC (ρ b) → w'.heap[b]? = w.heap[b]? ∧ ρ' b = ρ b) : CchR ρ' w' a cc m ag C := by
  obtain ⟨vn, vw, h1, h2, h3, h4, h5, h6, h7⟩ := h
  have k1 := hk cc h1.lt (by rw [h2]; unfold rsC; decide)
  have k2 := hk m h4.1.lt (by rw [h4.2.1]; unfold rsC; decide)
  exact ⟨vn, vw, k1.1.trans h1, k1.2.trans h2, h3.keep hs (fun b hb e => hk b hb ⟨e.1, Nat.le_trans e.2 (by decide)⟩), h4.keep k2, h5.keepR (fun b hb e => hk b hb (by rw [e]; unfold rsC; decide)), h6.keepR (fun b hb e => hk b hb (by rw [e]; unfold rsC; decide)), h7.keep (fun b hb e => hk b hb (by rw [e]; unfold rsC; decide))⟩
theorem CchR.below_ {ρ : Rl} {w w' : World} {a : Ads} {cc m ag : Nat} {C : Cch} (h : CchR ρ w a cc m ag C) (hb : Below w.heap.size w w') : CchR ρ w' a cc m ag C := h.keep hb.size (fun b hx _ => ⟨hb.block b hx, rfl⟩)
theorem CchR.drew {ρ : Rl} {w : World} {a : Ads} {cc m ag : Nat} {C : Cch} (h : CchR ρ w a cc m ag C) : CchR ρ w.drew a cc m ag C := h.below_ (Below.refl _ _).drew
theorem CchR.alloc {ρ : Rl} {w : World} {a : Ads} {cc m ag : Nat} {C : Cch} (h : CchR ρ w a cc m ag C) (o : Obj) : CchR ρ (w.alloc o) a cc m ag C := h.below_ ((Below.refl _ _).alloc (Nat.le_refl _) o)
theorem CchR.wld {ρ : Rl} {w : World} {a : Ads} {cc m ag : Nat} {C : Cch} (h : CchR ρ w a cc m ag C) : WldR ρ w a C.W := by obtain ⟨_, _, _, _, h, _⟩ := h; exact h
theorem CchR.mkr {ρ : Rl} {w : World} {a : Ads} {cc m ag : Nat} {C : Cch} (h : CchR ρ w a cc m ag C) : MkR ρ w m C.M := by obtain ⟨_, _, _, _, _, h, _⟩ := h; exact h
theorem CchR.age {ρ : Rl} {w : World} {a : Ads} {cc m ag : Nat} {C : Cch} (h : CchR ρ w a cc m ag C) : AgeR ρ w ag C.T C.age := by obtain ⟨_, _, _, _, _, _, _, _, h⟩ := h; exact h
/-- the world (and its maker) turned beside the cache's own blocks -/
theorem CchR.put_log {ρ ρ' : Rl} {w w' : World} {a : Ads} {cc m ag : Nat} {C : Cch} (h : CchR ρ w a cc m ag C) {W : Wld} {M : Mk} (hW : WldR ρ' w' a W) (hM : MkR ρ' w' m M) (hs : Ste rtLog ρ w ρ' w') : CchR ρ' w' a cc m ag ⟨W, M, C.now, C.was, C.age, C.T, C.pois⟩ := by
  obtain ⟨vn, vw, h1, h2, h3, h4, h5, h6, h7⟩ := h
  have hn : ∀ r, 18 ≤ r → r ≠ rMkr → ¬ rtLog r := fun r h1 h2 c => by
    rcases c with c | c
    · unfold rtW at c; omega
    · exact h2 c
  have hk : ∀ b, b < w.heap.size → 18 ≤ ρ b → ρ b ≠ rMkr → w'.heap[b]? = w.heap[b]? ∧ ρ' b = ρ b := fun b hb e1 e2 => ⟨hs.ch.keep b hb (hn _ e1 e2), hs.old b hb⟩
  have k1 := hk cc h1.lt (by rw [h2]; decide) (by rw [h2]; decide)
  exact ⟨vn, vw, k1.1.trans h1, k1.2.trans h2, hW, hM, h5.keepR (fun b hb e => hk b hb (by rw [e]; decide) (by rw [e]; decide)), h6.keepR (fun b hb e => hk b hb (by rw [e]; decide) (by rw [e]; decide)), h7.keep (fun b hb e => hk b hb (by rw [e]; decide) (by rw [e]; decide))⟩
theorem CchR.put_wld {ρ ρ' : Rl} {w w' : World} {a : Ads} {cc m ag : Nat} {C : Cch} (h : CchR ρ w a cc m ag C) {W : Wld} (hW : WldR ρ' w' a W) (hs : Ste rtW ρ w ρ' w') : CchR ρ' w' a cc m ag (C.wld W) :=
  h.put_log hW (h.mkr.ste hs rtWm) (hs.mono (fun r e => .inl e))
/-- the age turned beside all else -/
theorem CchR.put_age {ρ ρ' : Rl} {w w' : World} {a : Ads} {cc m ag : Nat} {C : Cch} (h : CchR ρ w a cc m ag C) {T : Nat} {L : List Int} (hA : AgeR ρ' w' ag T L) (hs : Ste (· = rAge) ρ w ρ' w') : CchR ρ' w' a cc m ag ⟨C.W, C.M, C.now, C.was, L, T, C.pois⟩ := by
  obtain ⟨vn, vw, h1, h2, h3, h4, h5, h6, h7⟩ := h
  have hk : ∀ b, b < w.heap.size → ρ b ≠ rAge → w'.heap[b]? = w.heap[b]? ∧ ρ' b = ρ b := fun b hb e1 => ⟨hs.ch.keep b hb e1, hs.old b hb⟩
  have k1 := hk cc h1.lt (by rw [h2]; decide)
  have k2 := hk m h4.1.lt (by rw [h4.2.1]; decide)
  exact ⟨vn, vw, k1.1.trans h1, k1.2.trans h2, h3.keep hs.size (fun b hb e => hk b hb (by unfold rsW at e; intro c; rw [c] at e; exact absurd e.2 (by decide))), h4.keep k2, h5.keepR (fun b hb e => hk b hb (by rw [e]; decide)), h6.keepR (fun b hb e => hk b hb (by rw [e]; decide)), hA⟩
/-- the cache's own block turned: its rows, its age, whether it is poisoned -/
theorem CchR.head {ρ : Rl} {w w' : World} {a : Ads} {cc m ag ag' : Nat} {C C' : Cch} {vn' vw' : Value} (h : CchR ρ w a cc m ag C) (hg : w.grownBy w' (some cc)) (hb : Blk w' cc 107 #[.pointer (some ⟨a.wl, 0, none⟩), .pointer (some ⟨m, 0, none⟩), vn', vw', .pointer (some ⟨ag', 0, none⟩), .bool C'.pois])
    (hn : LvsP (ρ · = rNow) w vn' C'.now) (hw : LvsP (ρ · = rWas) w vw' C'.was) (ha : AgeR ρ w ag' C'.T C'.age) (hW : C'.W = C.W) (hM : C'.M = C.M) : CchR ρ w' a cc m ag' C' := by
  obtain ⟨vn, vw, h1, h2, h3, h4, h5, h6, h7⟩ := h
  have hk : ∀ b, b < w.heap.size → ρ b ≠ rCch → w'.heap[b]? = w.heap[b]? ∧ ρ b = ρ b := fun b hb' e => ⟨hg.block b hb' (fun c => e (by injection c with c; rw [c]; exact h2)), rfl⟩
  refine ⟨vn', vw', hb, h2, ?_, ?_, hn.keepR (fun b hb e => hk b hb (by rw [e]; decide)), hw.keepR (fun b hb e => hk b hb (by rw [e]; decide)), ha.keep (fun b hb e => hk b hb (by rw [e]; decide))⟩
  · rw [hW]
    exact h3.keep hg.size (fun b hb e => hk b hb (fun c => by rw [c] at e; unfold rsW at e; exact absurd e.2 (by decide)))
  · rw [hM]
    exact h4.keep (hk m h4.1.lt (by rw [h4.2.1]; decide))
theorem CchR.ste_head {ρ : Rl} {w w' : World} {a : Ads} {cc m ag : Nat} {C : Cch} (h : CchR ρ w a cc m ag C) (hf : Fresh ρ w) (hg : w.grownBy w' (some cc)) : Ste rtC ρ w ρ w' := by
  obtain ⟨vn, vw, h1, h2, _⟩ := h
  exact Ste.of_grown hg (by rw [h2]; unfold rtC; decide) hf
theorem CchR.poison {ρ : Rl} {w : World} {a : Ads} {cc m ag : Nat} {C : Cch} (h : CchR ρ w a cc m ag C) : CchR ρ (w.setCell ⟨cc, 5, none⟩ (.bool true)) a cc m ag C.bad := by
  have h' := h
  obtain ⟨vn, vw, h1, h2, h3, h4, h5, h6, h7⟩ := h'
  exact h.head (only_setCell (only_refl _ _) (.inl rfl) _) (h1.set_to 5 (.bool true) rfl) h5 h6 h7 rfl rfl
end Go.Proofs.YtggmdjdflaglpaaGreat
namespace Go.Proofs.YtggmdjdflaglpaaGreat
open Go.RowKit Go.Proofs.YtggmdjdflaglpaaGreat.geo
set_option linter.unusedVariables false
structure Cok (C : Cch) (k t : Nat) : Prop where
  fit : C.W.fit k
  good : C.W.lk.good
  ka : 1 ≤ C.W.kys.a
  nl : C.now.length = C.W.slots
  wl : C.was.length = C.W.slots
  ok : ∀ i : Nat, (C.lf i).ok i
  age : ∀ i : Nat, (i : Int) ∈ C.age ↔ (C.lf i).kind ≠ 0
  rng : ∀ z ∈ C.age, 0 ≤ z
  T : C.T ≤ t
  num : C.M.n ≤ 100
  boot : C.M.boot < 4294967296
/-- two epochs: only where no number is left, or the power is gone -/
def Cch.tw (C : Cch) : Prop := C.W.kys.two = true → C.M.n = 100 ∨ C.W.pow.gone = true
theorem Lf.no_ok (i : Nat) : Lf.no.ok i := .inl rfl
theorem lf_out (C : Cch) {i : Nat} (h : C.now.length ≤ i) : C.lf i = Lf.no := by
  unfold Cch.lf
  rw [List.getD_eq_getElem?_getD, List.getElem?_eq_none h]
  rfl
theorem lf_at (C : Cch) {i : Nat} (h : i < C.now.length) : C.now[i]? = some (C.lf i) := by
  unfold Cch.lf
  rw [List.getD_eq_getElem?_getD, List.getElem?_eq_getElem h]
  rfl
theorem getD_set (L : List Lf) (s i : Nat) (l : Lf) (hs : s < L.length) : (L.set s l).getD i Lf.no = if i = s then l else L.getD i Lf.no := by
  rw [List.getD_eq_getElem?_getD, List.getElem?_set, List.getD_eq_getElem?_getD]
  by_cases e : s = i
  · subst e
    rw [if_pos rfl, if_pos rfl, if_pos hs]
    rfl
  · rw [if_neg e, if_neg (fun c => e c.symm)]
theorem Cok.n16 {C : Cch} {k t : Nat} (h : Cok C k t) : 4 ≤ C.now.length ∧ C.now.length ≤ 16 := by
  have := h.fit.geo
  rw [h.nl]
  unfold V at this
  omega
theorem Cok.okn {C : Cch} {k t : Nat} (h : Cok C k t) : ∀ (i : Nat) (l : Lf), C.now[i]? = some l → l.ok i := fun i l hl => by
  have hi := (List.getElem?_eq_some_iff.1 hl).1
  rw [lf_at C hi] at hl
  injection hl with hl
  exact hl ▸ h.ok i
theorem Cok.mono {C : Cch} {k t k' t' : Nat} (h : Cok C k t) (hk : k ≤ k') (ht : t ≤ t') : Cok C k' t' :=
  ⟨h.fit.mono hk, h.good, h.ka, h.nl, h.wl, h.ok, h.age, h.rng, Nat.le_trans h.T ht, h.num, h.boot⟩
/-- the world turned alone -/
theorem Cok.wld {C : Cch} {k k' t : Nat} (h : Cok C k t) {W : Wld} (hf : W.fit k') (hg : W.lk.good) (hs : W.slots = C.W.slots) (hk : 1 ≤ W.kys.a) : Cok (C.wld W) k' t :=
  ⟨hf, hg, hk, h.nl.trans hs.symm, h.wl.trans hs.symm, h.ok, h.age, h.rng, h.T, h.num, h.boot⟩
theorem Cok.bad {C : Cch} {k t : Nat} (h : Cok C k t) : Cok C.bad k t := ⟨h.fit, h.good, h.ka, h.nl, h.wl, h.ok, h.age, h.rng, h.T, h.num, h.boot⟩
theorem cval_cch (C : Cch) (s : Nat) : (cval C s).2.2 = C ∨ (cval C s).2.2 = C.bad := by
  unfold cval
  split
  · exact .inl rfl
  · split
    · exact .inl rfl
    · split
      · exact .inl rfl
      · exact .inr rfl
theorem cval_err (C : Cch) (s : Nat) : ((cval C s).1 = 0 ∧ (cval C s).2.2 = C) ∨ ((cval C s).1 = 7 ∧ (cval C s).2.2 = C ∧ C.W.pow.gone = true) ∨ ((cval C s).1 = 3 ∧ (cval C s).2.2 = C.bad) := by
  unfold cval
  split
  · exact .inl ⟨rfl, rfl⟩
  · split
    · rename_i h
      exact .inr (.inl ⟨rfl, rfl, h⟩)
    · split
      · exact .inl ⟨rfl, rfl⟩
      · exact .inr (.inr ⟨rfl, rfl⟩)
theorem Cok.val {C : Cch} {k t : Nat} (h : Cok C k t) (s : Nat) : Cok (cval C s).2.2 k t := by
  rcases cval_cch C s with e | e <;> rw [e]
  · exact h
  · exact h.bad
theorem sbytes_len (W : Wld) {k : Nat} (h : W.fit k) {o n : Nat} (ho : o + n ≤ W.slots * 160 + 120) : (W.sbytes o n).length = n := by
  unfold Wld.sbytes
  rw [List.length_take, List.length_drop, snap_len _ h.wts, h.size]
  omega
theorem Cok.vlen {C : Cch} {k t : Nat} (h : Cok C k t) {s : Nat} (hs : s < C.now.length) (he : (cval C s).1 = 0) : (cval C s).2.1.length = 32 := by
  have hn := h.n16
  have hnl := h.nl
  unfold cval at he ⊢
  split
  · simp [nought]
  · rename_i h1
    rw [if_neg h1] at he
    split
    · rename_i h2
      rw [if_pos h2] at he
      simp at he
    · rename_i h2
      rw [if_neg h2] at he
      split
      · rename_i b hb
        simp only
        unfold Cch.vopen Wld.vopen at hb
        split at hb
        · exact Lk.opens_len h.good (sbytes_len _ h.fit (by omega)) hb
        · cases hb
      · rename_i hb
        rw [hb] at he
        simp at he
theorem Cok.commit {C : Cch} {k t : Nat} (h : Cok C k t) (hk : k ≤ 900000) : Cok (ccommit C).2 (k + 50) t := by
  have hs := cmt_same C.W C.M C.now
  have hm := cmt_mk C.W C.M C.now
  refine ⟨cmt_fit _ _ _ h.fit hk h.nl, hs.2.2.2.2 h.good, ?_, h.nl.trans hs.1.symm, ?_, h.ok, h.age, h.rng, h.T, ?_, ?_⟩
  · show 1 ≤ (cmt C.W C.M C.now).2.1.kys.a; rw [hs.2.1]; exact h.ka
  · show (if (cmt C.W C.M C.now).1 = 0 then C.now else C.was).length = (cmt C.W C.M C.now).2.1.slots
    rw [hs.1]
    split
    · exact h.nl
    · exact h.wl
  · show (cmt C.W C.M C.now).2.2.n ≤ 100
    rcases hm with e | ⟨e1, e⟩ <;> rw [e]
    · exact h.num
    · have := h.num
      show C.M.n + 1 ≤ 100
      omega
  · show (cmt C.W C.M C.now).2.2.boot < _
    rcases hm with e | ⟨e1, e⟩ <;> rw [e] <;> exact h.boot
theorem tw_commit {C : Cch} (h : C.tw) : (ccommit C).2.tw := by
  intro ht
  have ht' : (cmt C.W C.M C.now).2.1.kys.two = true := ht
  rw [(cmt_same C.W C.M C.now).2.1] at ht'
  rcases h ht' with e | e
  · rcases cmt_mk C.W C.M C.now with q | ⟨q, _⟩
    · exact .inl (by show (cmt C.W C.M C.now).2.2.n = 100; rw [q]; exact e)
    · exact absurd e q
  · exact .inr (cmt_gone _ _ _ e)
theorem curKey_u {C : Cch} {k t : Nat} (h : Cok C k t) (hk : k ≤ 900000) : U2 C.W.curKey := C.W.curKey_u (Nat.le_trans h.fit.kys (by omega))
theorem lnce_ok {C : Cch} {k t : Nat} (h : Cok C k t) (hk : k ≤ 900000) {s : Nat} (hs : s < 16) : (lnce C s).ok := by
  have h1 := C.W.kys.cur_le (Nat.le_trans h.fit.kys (by omega))
  exact C.M.nonce_ok _ _ (by omega) (by omega) h.num h.boot
theorem Kys.cur_pos (K : Kys) (h : 1 ≤ K.a) : 1 ≤ K.cur := by unfold Kys.cur; split <;> omega
theorem lleaf_ok {C : Cch} {k t : Nat} (h : Cok C k t) (hk : k ≤ 900000) {s x : Nat} (hs : s < 16) (hx : x < 32) (data : By) (d : Bool) : (lleaf C s x data d).ok s := by
  refine .inr (.inr ⟨rfl, hx, rfl, ?_, lnce_ok h hk hs, Lk.shut_u h.fit.lk (by omega) _ _ _ _⟩)
  have := C.W.kys.cur_pos h.ka
  show (0 : Int) < (C.W.kys.cur : Int)
  omega
theorem lin_ok {C : Cch} {k t : Nat} (h : Cok C k t) {s : Nat} (hs : s < C.now.length) (b : By) (hb : b.length = 32) : (⟨((s * 32 : Nat) : Int), b⟩ : Opn).in_ C.W.ssd.lasts.length := by
  have h1 := h.fit.size
  have h2 := h.nl
  refine in_gen (by omega) ?_
  rw [h1, hb]
  omega
theorem Cok.lay {C : Cch} {k t : Nat} (h : Cok C k t) (hn : C.M.n ≠ 100) {s : Nat} (hs : s < C.now.length) (x : Nat) (data : By) (hd : data.length = 32) : Cok (lcch C s x data) (k + 3) t := by
  have f1 : (C.W.lck (C.W.lk.shutd C.W.curKey (lnce C s) (headB x) data)).fit (k + 1) := (h.fit.mono (by omega)).lck (Lk.lim_shutd h.fit.lk _ _ _ _)
  have f2 : (lwld C s x data).fit (k + 3) := f1.swr (lin_ok h hs _ (Lk.shut_len _ _ _ _ _ hd))
  have hm := h.num
  exact ⟨f2, Lk.good_shutd h.good _ _ _ _ hd, h.ka, h.nl, h.wl, h.ok, h.age, h.rng, h.T, by show C.M.n + 1 ≤ 100; omega, h.boot⟩
theorem Cok.drops {C : Cch} {k t : Nat} (h : Cok C k t) {s : Nat} (hs : s < C.now.length) : Cok (cdrops C s) k t := by
  have hlf : ∀ i, (cdrops C s).lf i = if i = s then Lf.no else C.lf i := fun i => getD_set _ _ _ _ hs
  refine ⟨h.fit, h.good, h.ka, by show (C.now.set s Lf.no).length = _; rw [List.length_set]; exact h.nl, h.wl, fun i => ?_, fun i => ?_, fun z hz => h.rng z (mem_dl.1 hz).1, h.T, h.num, h.boot⟩
  · rw [hlf]
    split
    · exact Lf.no_ok i
    · exact h.ok i
  · rw [hlf]
    show (i : Int) ∈ dl s C.age ↔ _
    rw [mem_dl]
    by_cases e : i = s
    · subst e
      rw [if_pos rfl]
      simp [Lf.no]
    · rw [if_neg e, h.age i]
      constructor
      · exact fun c => c.1
      · exact fun c => ⟨c, fun q => e (by omega)⟩
theorem Cok.put1 {C : Cch} {k t : Nat} (h : Cok C k t) {s : Nat} (hs : s < C.now.length) {l : Lf} (hl : l.ok s) (h0 : l.kind ≠ 0) : Cok (cput1 C s l) k (t + 1) := by
  have hlf : ∀ i, (cput1 C s l).lf i = if i = s then l else C.lf i := fun i => getD_set _ _ _ _ hs
  refine ⟨h.fit, h.good, h.ka, by show (C.now.set s l).length = _; rw [List.length_set]; exact h.nl, h.wl, fun i => ?_, fun i => ?_, fun z hz => ?_, by have := h.T; show C.T + 1 ≤ t + 1; omega, h.num, h.boot⟩
  · rw [hlf]
    split
    · rename_i e; exact e ▸ hl
    · exact h.ok i
  · rw [hlf]
    show (i : Int) ∈ dl s C.age ++ [(s : Int)] ↔ _
    rw [List.mem_append, List.mem_singleton, mem_dl]
    by_cases e : i = s
    · subst e
      rw [if_pos rfl]
      simp [h0]
    · rw [if_neg e, h.age i]
      constructor
      · rintro (c | c)
        · exact c.1
        · omega
      · exact fun c => .inl ⟨c, fun q => e (by omega)⟩
  · have hz : z ∈ dl s C.age ++ [(s : Int)] := hz
    rw [List.mem_append, List.mem_singleton, mem_dl] at hz
    rcases hz with c | c
    · exact h.rng z c.1
    · omega
theorem Cok.touch {C : Cch} {k t : Nat} (h : Cok C k t) {s : Nat} (h0 : (C.lf s).kind ≠ 0) : Cok (ctouch C s) k (t + 1) := by
  refine ⟨h.fit, h.good, h.ka, h.nl, h.wl, h.ok, fun i => ?_, fun z hz => ?_, by have := h.T; show C.T + 1 ≤ t + 1; omega, h.num, h.boot⟩
  · show (i : Int) ∈ dl s C.age ++ [(s : Int)] ↔ (C.lf i).kind ≠ 0
    rw [List.mem_append, List.mem_singleton, mem_dl, h.age i]
    by_cases e : i = s
    · subst e; simp [h0]
    · constructor
      · rintro (c | c)
        · exact c.1
        · omega
      · exact fun c => .inl ⟨c, fun q => e (by omega)⟩
  · have hz : z ∈ dl s C.age ++ [(s : Int)] := hz
    rw [List.mem_append, List.mem_singleton, mem_dl] at hz
    rcases hz with c | c
    · exact h.rng z c.1
    · omega
theorem fstOf_bd (f : Nat → Bool) (n i : Nat) : fstOf f n i = -1 ∨ ∃ k : Nat, fstOf f n i = k ∧ i ≤ k ∧ k < n ∧ f k = true := by
  unfold fstOf
  cases h : (List.range' i (n - i)).find? f with
  | none => exact .inl rfl
  | some k =>
    have h1 := List.find?_some h
    have h2 := List.mem_of_find?_eq_some h
    rw [List.mem_range'_1] at h2
    exact .inr ⟨k, rfl, h2.1, by omega, h1⟩
theorem slotOf_bd (ls : List Lf) (k : Nat) : slotOf ls k = -1 ∨ ∃ s : Nat, slotOf ls k = s ∧ s < ls.length ∧ (ls.getD s Lf.no).kind ≠ 0 ∧ (ls.getD s Lf.no).lba = k := by
  rcases fstOf_bd (slotF ls k) ls.length 0 with h | ⟨s, h1, _, h3, h4⟩
  · exact .inl h
  · refine .inr ⟨s, h1, h3, ?_⟩
    unfold slotF Lf.hasL at h4
    simpa using h4
theorem free_bd (C : Cch) : free C = -1 ∨ ∃ s : Nat, free C = s ∧ s < C.now.length ∧ (C.lf s).kind = 0 ∧ (C.was.getD s Lf.no).kind = 0 := by
  rcases fstOf_bd (freeAt C.now C.was) C.now.length 0 with h | ⟨s, h1, _, h3, h4⟩
  · exact .inl h
  · refine .inr ⟨s, h1, h3, ?_⟩
    unfold freeAt at h4
    simp at h4
    exact h4
/-- no slot is free: each has a leaf, in one of the two -/
theorem free_no {C : Cch} (h : free C < 0) {i : Nat} (hi : i < C.now.length) : (C.lf i).kind ≠ 0 ∨ (C.was.getD i Lf.no).kind ≠ 0 := by
  by_cases e1 : (C.lf i).kind = 0
  · by_cases e2 : (C.was.getD i Lf.no).kind = 0
    · exfalso
      have hm : i ∈ List.range' 0 (C.now.length - 0) := by rw [List.mem_range'_1]; omega
      have hf : freeAt C.now C.was i = true := by
        unfold freeAt
        have e1' : (C.now.getD i Lf.no).kind = 0 := e1
        rw [e1', e2]
        rfl
      unfold free freeFrom at h
      cases hq : (List.range' 0 (C.now.length - 0)).find? (freeAt C.now C.was) with
      | none => exact absurd hf (by simpa using List.find?_eq_none.1 hq i hm)
      | some k => rw [hq] at h; simp at h; omega
    · exact .inr e2
  · exact .inl e1
theorem free_yes {C : Cch} {i : Nat} (hi : i < C.now.length) (h1 : (C.lf i).kind = 0) (h2 : (C.was.getD i Lf.no).kind = 0) : 0 ≤ free C := by
  rcases Int.lt_or_le (free C) 0 with h | h
  · rcases free_no h hi with c | c
    · exact absurd h1 c
    · exact absurd h2 c
  · exact h
theorem Cok.puts {C : Cch} {k t : Nat} (h : Cok C k t) {s : Nat} (hs : s < C.now.length) {l : Lf} (hl : l.ok s) (h0 : l.kind ≠ 0) : Cok (cputs C s l) k (t + 1) := by
  have h1 := h.put1 hs hl h0
  unfold cputs
  split
  · rename_i he
    rcases slotOf_bd C.now l.lba with e | ⟨x, e, hx, _⟩
    · omega
    · rw [e, Int.toNat_natCast]
      exact h1.drops (by show x < (C.now.set s l).length; rw [List.length_set]; exact hx)
  · exact h1
theorem Cok.dwr {C : Cch} {k t : Nat} (h : Cok C k t) (i : Int) (b : By) : Cok (C.wld (C.W.dwr i b)) (k + 2) t := by
  have : (C.W.dwr i b).slots = C.W.slots ∧ (C.W.dwr i b).lk = C.W.lk ∧ (C.W.dwr i b).kys = C.W.kys := by unfold Wld.dwr; split <;> exact ⟨rfl, rfl, rfl⟩
  exact h.wld (h.fit.dwr i b) (by rw [this.2.1]; exact h.good) this.1 (by rw [this.2.2]; exact h.ka)
theorem Cok.dbar {C : Cch} {k t : Nat} (h : Cok C k t) : Cok (C.wld C.W.dbar) (k + 1) t := h.wld h.fit.dbar h.good rfl h.ka
theorem Cok.spill {C : Cch} {k t : Nat} (h : Cok C k t) (s : Nat) : Cok (cspill C s).2 (k + 2) t := by
  unfold cspill
  split
  · exact (h.val s).mono (by omega) (Nat.le_refl _)
  · exact h.dwr _ _
theorem cspill_now (C : Cch) (s : Nat) : (cspill C s).2.now = C.now ∧ (cspill C s).2.was = C.was ∧ (cspill C s).2.age = C.age ∧ (cspill C s).2.M = C.M ∧ (cspill C s).2.T = C.T ∧ (cspill C s).2.W.kys = C.W.kys ∧ (cspill C s).2.W.slots = C.W.slots ∧ (cspill C s).2.W.lk = C.W.lk := by
  unfold cspill
  split
  · rcases cval_cch C s with e | e <;> rw [e] <;> exact ⟨rfl, rfl, rfl, rfl, rfl, rfl, rfl, rfl⟩
  · have : (C.W.dwr (C.lf s).lba (cval C s).2.1).slots = C.W.slots ∧ (C.W.dwr (C.lf s).lba (cval C s).2.1).lk = C.W.lk ∧ (C.W.dwr (C.lf s).lba (cval C s).2.1).kys = C.W.kys := by unfold Wld.dwr; split <;> exact ⟨rfl, rfl, rfl⟩
    exact ⟨rfl, rfl, rfl, rfl, rfl, this.2.2, this.1, this.2.1⟩
theorem dwr_gone {W : Wld} (h : W.pow.gone = true) (k : Int) (b : By) : (W.dwr k b).pow.gone = true := by
  unfold Wld.dwr
  split
  · exact h
  · exact spend_keep h
theorem cspill_gone {C : Cch} (h : C.W.pow.gone = true) (s : Nat) : (cspill C s).2.W.pow.gone = true := by
  unfold cspill
  split
  · rcases cval_cch C s with e | e <;> rw [e] <;> exact h
  · exact dwr_gone h _ _
theorem Cok.evict {C : Cch} {k t : Nat} (h : Cok C k t) (hk : k ≤ 800000) {s : Nat} (hs : s < C.now.length) : Cok (cevict C s).2 (k + 53) t := by
  have h1 := h.spill s
  have hl : s < (cspill C s).2.now.length := by rw [(cspill_now C s).1]; exact hs
  unfold cevict
  split
  · split
    · exact h1.mono (by omega) (Nat.le_refl _)
    · split
      · exact h1.dbar.mono (by omega) (Nat.le_refl _)
      · exact (h1.dbar.drops hl).commit (by omega)
  · exact ((h.drops hs).commit (by omega)).mono (by omega) (Nat.le_refl _)
theorem tw_evict {C : Cch} (h : C.tw) (s : Nat) : (cevict C s).2.tw := by
  have h1 : (cspill C s).2.tw := fun ht => by
    rw [(cspill_now C s).2.2.2.2.2.1] at ht
    rcases h ht with e | e
    · exact .inl (by rw [(cspill_now C s).2.2.2.1]; exact e)
    · exact .inr (cspill_gone e s)
  have h2 : ((cspill C s).2.wld (cspill C s).2.W.dbar).tw := fun ht => by
    rcases h1 ht with e | e
    · exact .inl e
    · exact .inr (spend_keep e)
  unfold cevict
  split
  · split
    · exact h1
    · split
      · exact h2
      · exact tw_commit h2
  · exact tw_commit h
/-- where none is free behind a commit the age is not empty; its first is a slot -/
theorem oldest_lt {C : Cch} {k t : Nat} (h : Cok C k t) (hf : free C < 0) (hw : C.was = C.now) : oldest C < C.now.length ∧ C.age ≠ [] ∧ (oldest C : Int) = om C.age := by
  have hn := h.n16
  have h0 : (C.lf 0).kind ≠ 0 := by
    rcases free_no hf (i := 0) (by omega) with c | c
    · exact c
    · rw [hw] at c; exact c
  have hne : C.age ≠ [] := fun e => by
    have := (h.age 0).2 h0
    rw [e] at this
    simp at this
  have hm : om C.age ∈ C.age := by
    unfold om
    rw [if_neg hne]
    exact el_mem (List.length_pos_iff.2 hne)
  have hr := h.rng _ hm
  have ho : (oldest C : Int) = om C.age := by unfold oldest; omega
  refine ⟨?_, hne, ho⟩
  rcases Nat.lt_or_ge (oldest C) C.now.length with c | c
  · exact c
  · have h1 := (h.age (oldest C)).1 (by rw [ho]; exact hm)
    rw [lf_out C c] at h1
    exact absurd rfl h1
theorem Cok.room {C : Cch} {k t : Nat} (h : Cok C k t) (hk : k ≤ 700000) : Cok (croom C).2 (k + 103) t := by
  unfold croom
  split
  · exact h.mono (by omega) (Nat.le_refl _)
  · have h1 := h.commit (by omega)
    split
    · exact h1.mono (by omega) (Nat.le_refl _)
    · rename_i h2
      split
      · exact h1.mono (by omega) (Nat.le_refl _)
      · rename_i h3
        have hw : (ccommit C).2.was = (ccommit C).2.now := by
          have h2' : (cmt C.W C.M C.now).1 = 0 := by
            have : ¬ (cmt C.W C.M C.now).1 ≠ 0 := h2
            omega
          show (if (cmt C.W C.M C.now).1 = 0 then C.now else C.was) = C.now
          rw [if_pos h2']
        exact (h1.evict (by omega) (oldest_lt h1 (by omega) hw).1).mono (by omega) (Nat.le_refl _)
theorem tw_room {C : Cch} (h : C.tw) : (croom C).2.tw := by
  unfold croom
  split
  · exact h
  · split
    · exact tw_commit h
    · split
      · exact tw_commit h
      · exact tw_evict (tw_commit h) _
/-- behind a room that was well a slot is free -/
theorem room_free {C : Cch} {k t : Nat} (h : Cok C k t) (hk : k ≤ 700000) (hr : (croom C).1 = 0) : 0 ≤ free (croom C).2 := by
  unfold croom at hr ⊢
  split
  · rename_i h1; exact h1
  · rename_i h0
    rw [if_neg h0] at hr
    have h1 := h.commit (by omega)
    split
    · rename_i h2
      rw [if_pos h2] at hr
      exact absurd hr h2
    · rename_i h2
      rw [if_neg h2] at hr
      have h2' : (cmt C.W C.M C.now).1 = 0 := by
        have : ¬ (cmt C.W C.M C.now).1 ≠ 0 := h2
        omega
      have hw : (ccommit C).2.was = (ccommit C).2.now := by
        show (if (cmt C.W C.M C.now).1 = 0 then C.now else C.was) = C.now
        rw [if_pos h2']
      split
      · rename_i h3; exact h3
      · rename_i h3
        rw [if_neg h3] at hr
        have ho := oldest_lt h1 (by omega) hw
        have key : ∀ D : Cch, oldest (ccommit C).2 < D.now.length → (ccommit (cdrops D (oldest (ccommit C).2))).1 = 0 → 0 ≤ free (ccommit (cdrops D (oldest (ccommit C).2))).2 := by
          intro D hD hc
          have hz : (cdrops D (oldest (ccommit C).2)).lf (oldest (ccommit C).2) = Lf.no := by
            have := getD_set D.now (oldest (ccommit C).2) (oldest (ccommit C).2) Lf.no hD
            rw [if_pos rfl] at this
            exact this
          have hcc : (cmt (cdrops D (oldest (ccommit C).2)).W (cdrops D (oldest (ccommit C).2)).M (cdrops D (oldest (ccommit C).2)).now).1 = 0 := hc
          refine free_yes (i := oldest (ccommit C).2) (by show _ < (D.now.set _ _).length; rw [List.length_set]; exact hD) (by
            show ((cdrops D (oldest (ccommit C).2)).lf (oldest (ccommit C).2)).kind = 0
            rw [hz]; rfl) ?_
          show ((if (cmt (cdrops D (oldest (ccommit C).2)).W (cdrops D (oldest (ccommit C).2)).M (cdrops D (oldest (ccommit C).2)).now).1 = 0 then (cdrops D (oldest (ccommit C).2)).now else _).getD _ Lf.no).kind = 0
          rw [if_pos hcc]
          show ((cdrops D (oldest (ccommit C).2)).lf (oldest (ccommit C).2)).kind = 0
          rw [hz]; rfl
        unfold cevict at hr ⊢
        split
        · rename_i h4
          rw [if_pos h4] at hr
          split
          · rename_i h5
            rw [if_pos h5] at hr
            exact absurd hr h5
          · rename_i h5
            rw [if_neg h5] at hr
            split
            · rename_i h6
              rw [if_pos h6] at hr
              simp at hr
            · rename_i h6
              rw [if_neg h6] at hr
              exact key _ (by show _ < (cspill (ccommit C).2 (oldest (ccommit C).2)).2.now.length; rw [(cspill_now _ _).1]; exact ho.1) hr
        · rename_i h4
          rw [if_neg h4] at hr
          exact key _ ho.1 hr
theorem cspills_now (C : Cch) : ∀ i, (cspills C i).2.1.now = C.now ∧ (cspills C i).2.1.was = C.was ∧ (cspills C i).2.1.age = C.age ∧ (cspills C i).2.1.M = C.M ∧ (cspills C i).2.1.T = C.T ∧ (cspills C i).2.1.W.kys = C.W.kys ∧ (cspills C i).2.1.W.slots = C.W.slots ∧ (cspills C i).2.1.W.lk = C.W.lk
  | 0 => ⟨rfl, rfl, rfl, rfl, rfl, rfl, rfl, rfl⟩
  | i + 1 => by
    have ih := cspills_now C i
    have hs := cspill_now (cspills C i).2.1 i
    unfold cspills
    split
    · exact ih
    · split
      · exact ⟨hs.1.trans ih.1, hs.2.1.trans ih.2.1, hs.2.2.1.trans ih.2.2.1, hs.2.2.2.1.trans ih.2.2.2.1, hs.2.2.2.2.1.trans ih.2.2.2.2.1, hs.2.2.2.2.2.1.trans ih.2.2.2.2.2.1, hs.2.2.2.2.2.2.1.trans ih.2.2.2.2.2.2.1, hs.2.2.2.2.2.2.2.trans ih.2.2.2.2.2.2.2⟩
      · exact ih
theorem Cok.spills {C : Cch} {k t : Nat} (h : Cok C k t) : ∀ i, Cok (cspills C i).2.1 (k + 2 * i) t
  | 0 => h
  | i + 1 => by
    have ih := h.spills i
    unfold cspills
    split
    · exact ih.mono (by omega) (Nat.le_refl _)
    · split
      · exact (ih.spill i).mono (by omega) (Nat.le_refl _)
      · exact ih.mono (by omega) (Nat.le_refl _)
theorem Cok.clear {C : Cch} {k t : Nat} (h : Cok C k t) : Cok (cclear C) k t := by
  have hlf : ∀ i, (cclear C).lf i = Lf.no := fun i => by
    unfold Cch.lf cclear
    simp only
    rw [List.getD_eq_getElem?_getD, List.getElem?_replicate]
    split <;> rfl
  exact ⟨h.fit, h.good, h.ka, by show (List.replicate C.now.length Lf.no).length = _; rw [List.length_replicate]; exact h.nl, h.wl, fun i => by rw [hlf]; exact Lf.no_ok i, fun i => by rw [hlf]; show (i : Int) ∈ ([] : List Int) ↔ _; simp [Lf.no], fun z hz => by have hz : z ∈ ([] : List Int) := hz; simp at hz, Nat.zero_le _, h.num, h.boot⟩
theorem Cok.empty {C : Cch} {k t : Nat} (h : Cok C k t) : Cok (cempty C).2 (k + 33) t := by
  have hn := h.n16
  have h1 := h.spills C.now.length
  unfold cempty
  split
  · exact h1.mono (by omega) (Nat.le_refl _)
  · split
    · split
      · exact h1.dbar.mono (by omega) (Nat.le_refl _)
      · exact h1.dbar.clear.mono (by omega) (Nat.le_refl _)
    · exact h1.clear.mono (by omega) (Nat.le_refl _)
theorem cempty_now (C : Cch) : (cempty C).2.was = C.was ∧ (cempty C).2.M = C.M ∧ (cempty C).2.W.kys = C.W.kys ∧ (cempty C).2.W.slots = C.W.slots ∧ (cempty C).2.W.lk = C.W.lk := by
  have h := cspills_now C C.now.length
  unfold cempty
  split
  · exact ⟨h.2.1, h.2.2.2.1, h.2.2.2.2.2.1, h.2.2.2.2.2.2.1, h.2.2.2.2.2.2.2⟩
  · split
    · split
      · exact ⟨h.2.1, h.2.2.2.1, h.2.2.2.2.2.1, h.2.2.2.2.2.2.1, h.2.2.2.2.2.2.2⟩
      · exact ⟨h.2.1, h.2.2.2.1, h.2.2.2.2.2.1, h.2.2.2.2.2.2.1, h.2.2.2.2.2.2.2⟩
    · exact ⟨h.2.1, h.2.2.2.1, h.2.2.2.2.2.1, h.2.2.2.2.2.2.1, h.2.2.2.2.2.2.2⟩
end Go.Proofs.YtggmdjdflaglpaaGreat
