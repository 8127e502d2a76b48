/- Age in memory: its functions by contract. -/
import Derived.Test.YtbmpocalapgmjacAHeap
namespace Go.Proofs.Ytbmpocalapgmjac
open Go.RowKit
set_option linter.unusedVariables false
/-- without k -/
def dl (k : Int) (L : List Int) : List Int := L.filter (fun z => decide (z ≠ k))
theorem mem_dl {k z : Int} {L : List Int} : z ∈ dl k L ↔ z ∈ L ∧ z ≠ k := by unfold dl; simp
theorem dl_not {k : Int} {L : List Int} (h : k ∉ L) : dl k L = L := by
  unfold dl
  rw [List.filter_eq_self]
  intro z hz
  simp only [decide_eq_true_eq]
  rintro rfl
  exact h hz
/-- an age: L by last use, the elder first; no more than T ticks -/
def AI (w : World) (B a g T : Nat) (L : List Int) : Prop :=
  ∃ lf tk zs, QI w B a g lf tk zs ∧ Heap (kf lf) zs zs.length ∧ zs.Perm L ∧ L.Nodup ∧ L.Pairwise (fun x y => kf lf x < kf lf y) ∧ (∀ z ∈ L, kf lf z ≤ tk) ∧ 0 ≤ tk ∧ tk ≤ T
/-- integers of [0, 16), none twice, are 16 at most -/
theorem few {zs : List Int} (hn : zs.Nodup) (hr : ∀ z ∈ zs, 0 ≤ z ∧ z < 16) : zs.length ≤ 16 := by
  have hp : zs.Perm (((List.range 16).filter (fun k : Nat => decide ((k : Int) ∈ zs))).map (fun k : Nat => (k : Int))) := by
    refine (List.perm_ext_iff_of_nodup hn ?_).2 fun z => ?_
    · unfold List.Nodup
      rw [List.pairwise_map]
      exact ((List.nodup_range (n := 16)).filter _).imp (fun h e => h (by omega))
    · simp only [List.mem_map, List.mem_filter, List.mem_range, decide_eq_true_eq]
      constructor
      · intro h
        obtain ⟨a, b⟩ := hr z h
        exact ⟨z.toNat, ⟨by omega, by rwa [Int.toNat_of_nonneg a]⟩, Int.toNat_of_nonneg a⟩
      · rintro ⟨k, ⟨_, h⟩, rfl⟩
        exact h
  rw [hp.length_eq, List.length_map]
  have := List.length_filter_le (fun k : Nat => decide ((k : Int) ∈ zs)) (List.range 16)
  rwa [List.length_range] at this
section
variable {w w' : World} {B a g T : Nat} {L : List Int}
theorem AI.drew (h : AI w B a g T L) : AI w.drew B a g T L := h
theorem AI.same (h : AI w B a g T L) (hk : ∀ x, (x = a ∨ x = g ∨ At w g x) → w'.heap[x]? = w.heap[x]?) : AI w' B a g T L := by
  obtain ⟨lf, tk, zs, hq, h2⟩ := h
  exact ⟨lf, tk, zs, hq.same hk, h2⟩
theorem AI.range (h : AI w B a g T L) : ∀ z ∈ L, 0 ≤ z ∧ z < 16 := by
  obtain ⟨lf, tk, zs, ⟨_, _, _, _, _, _, _, h6⟩, _, hp, _⟩ := h
  exact fun z hz => h6 z (hp.mem_iff.2 hz)
theorem AI.nodup (h : AI w B a g T L) : L.Nodup := by
  obtain ⟨lf, tk, zs, _, _, _, hn, _⟩ := h
  exact hn
theorem AI.len (h : AI w B a g T L) : L.length ≤ 16 := few h.nodup h.range
theorem AI.rows (h : AI w B a g T L) : ∀ s, At w g s → B ≤ s ∧ s < w.heap.size ∧ ∃ cs, Blk w s 3 cs := by
  obtain ⟨lf, tk, zs, hq, _⟩ := h
  exact hq.rows
theorem AI.mono {T' : Nat} (h : AI w B a g T L) (hT : T ≤ T') : AI w B a g T' L := by
  obtain ⟨lf, tk, zs, hq, h2, h3, h4, h5, h6, h7, h8⟩ := h
  exact ⟨lf, tk, zs, hq, h2, h3, h4, h5, h6, h7, by omega⟩
end
theorem alen_ok (B a g T : Nat) (L : List Int) (w : World) (h : AI w B a g T L) :
    Calls Try.prog 16 #[.pointer (some ⟨a, 0, none⟩)] w fun e w' => e = .returned (.int .i64 L.length) ∧ w = w' := by
  obtain ⟨lf, tk, zs, hq, _, hp, _⟩ := h
  have hl := hp.length_eq
  have hq' := hq
  obtain ⟨A, cap, hb, _, _, ha, _⟩ := hq'
  have c17 : w.cell? ⟨a, 17, none⟩ = some (.pointer (some ⟨g, 0, none⟩)) := ha.cell_ 17 rfl
  have l0 := ha.lt
  rw [← hl]
  clear hp hl hb ha
  go_enter Try.func16, Try.ntmps16
  go_wp2_with fail
  refine (qlen B a g lf tk zs _ hq).mono ?_
  rintro e w1 ⟨rfl, rfl⟩
  go_wp2_with fail
  go_ret
  exact ⟨rfl, rfl⟩
theorem alen_nil (w : World) : Calls Try.prog 16 #[.pointer none] w fun e w' => e = .returned (.int .i64 0) ∧ w = w' := by
  go_enter Try.func16, Try.ntmps16
  go_wp2_with fail
  go_ret
  exact ⟨rfl, rfl⟩
def om (L : List Int) : Int := if L = [] then 0 else el L 0
theorem old_ok (B a g T : Nat) (L : List Int) (w : World) (h : AI w B a g T L) :
    Calls Try.prog 14 #[.pointer (some ⟨a, 0, none⟩)] w fun e w' => e = .returned (.tuple #[.int .i64 (om L), .bool (!decide (L = []))]) ∧ w = w' := by
  have h' := h
  obtain ⟨lf, tk, zs, hq, hh, hp, hn, hpw, _⟩ := h'
  by_cases h0 : L = []
  · subst h0
    clear hq hh hp hn hpw
    go_enter Try.func14, Try.ntmps14
    go_wp2_with fail
    refine (alen_ok B a g T [] _ h).mono ?_
    rintro e w1 ⟨rfl, rfl⟩
    go_wp2_with fail
    go_ret2
    exact ⟨rfl, rfl⟩
  · have hlp : 0 < L.length := List.length_pos_iff.2 h0
    have hl := hp.length_eq
    have hz : ((L.length : Int) == 0) = false := by simp; omega
    obtain ⟨r, cap, cur, hb, _, _, hc, h1, h2, h3, h4, ha, _⟩ := hq.row (by omega)
    have hm : el zs 0 = el L 0 := by
      have hin : el zs 0 ∈ L := hp.mem_iff.1 (el_mem (by omega))
      obtain ⟨k, hk, he⟩ := mem_el hin
      by_cases hk0 : k = 0
      · rw [← he, hk0]
      · have a1 : kf lf (el L 0) < kf lf (el L k) := by
          have := List.pairwise_iff_getElem.1 hpw 0 k hlp hk (by omega)
          rwa [el_at hlp, el_at hk] at this
        have hin2 : el L 0 ∈ zs := hp.mem_iff.2 (el_mem hlp)
        obtain ⟨j, hj, hje⟩ := mem_el hin2
        have a2 := hh.least j hj
        rw [hje, ← he] at a2
        omega
    have c17 : w.cell? ⟨a, 17, none⟩ = some (.pointer (some ⟨g, 0, none⟩)) := ha.cell_ 17 rfl
    have c0 : w.cell? ⟨g, 0, none⟩ = some (.slice (some ⟨r, 0, none⟩) zs.length cap) := hb.cell_ 0 rfl
    have cr : w.cell? ⟨r, 0, none⟩ = some (.int .i64 (el zs 0)) := hc.cell_ 0 (h4 0 (by omega))
    have l1 := ha.lt
    have l2 := hb.lt
    have l3 := hc.lt
    have hpos : (0 : Int) < (zs.length : Int) := by omega
    have e1 : (!decide (L = [])) = true := by simpa using h0
    have e2 : om L = el zs 0 := by unfold om; rw [if_neg h0, hm]
    rw [e1, e2]
    clear hq hh hp hn hpw hb hc h1 h2 h3 h4 ha hm e1 e2 h0 hl
    go_enter Try.func14, Try.ntmps14
    go_wp2_with fail
    refine (alen_ok B a g T L _ h).mono ?_
    rintro e w1 ⟨rfl, rfl⟩
    go_wp2_with fail
    go_ret2
    exact ⟨rfl, rfl⟩
theorem old_nil (w : World) : Calls Try.prog 14 #[.pointer none] w fun e w' => e = .returned (.tuple #[.int .i64 0, .bool false]) ∧ w = w' := by
  go_enter Try.func14, Try.ntmps14
  go_wp2_with fail
  refine (alen_nil _).mono ?_
  rintro e w1 ⟨rfl, rfl⟩
  go_wp2_with fail
  go_ret2
  exact ⟨rfl, rfl⟩
theorem drop_ok (B a g T : Nat) (L : List Int) (k : Int) (w : World) (h : AI w B a g T L) :
    Calls Try.prog 12 #[.pointer (some ⟨a, 0, none⟩), .int .i64 k] w fun e w' => e = .returned (.bool (decide (k ∈ L))) ∧ AI w' B a g T (dl k L) ∧ Fr a g w w' := by
  have hlen := h.len
  have h' := h
  obtain ⟨lf, tk, zs, hq, hh, hp, hn, hpw, ht, ht0, htT⟩ := h'
  have hl := hp.length_eq
  have hq' := hq
  obtain ⟨A, cap, hb, _, ho, ha, _⟩ := hq'
  have c17 : w.cell? ⟨a, 17, none⟩ = some (.pointer (some ⟨g, 0, none⟩)) := ha.cell_ 17 rfl
  have c0 : w.cell? ⟨g, 0, none⟩ = some (.slice A zs.length cap) := hb.cell_ 0 rfl
  have l1 := ha.lt
  have l2 := hb.lt
  have hz90 : zs.length ≤ 90 := by omega
  clear hl
  by_cases hk : k ∈ L
  · have e1 : decide (k ∈ L) = true := by simpa using hk
    rw [e1]
    have hkz := hp.mem_iff.2 hk
    have HK := Lib.hid hkz
    have HP := Lib.hid (show Heap (kf lf) zs zs.length ∧ zs.Perm L ∧ L.Nodup ∧ L.Pairwise (fun x y => kf lf x < kf lf y) ∧ (∀ z ∈ L, kf lf z ≤ tk) ∧ 0 ≤ tk ∧ tk ≤ T from ⟨hh, hp, hn, hpw, ht, ht0, htT⟩)
    clear hb ha e1 hk hkz hh hp hn hpw ht h
    go_enter Try.func12, Try.ntmps12
    go_wp2_with fail
    refine (idx_ok B zs k _ A cap ho (by omega)).mono ?_
    rintro e w1 ⟨r, rfl, hr, rfl⟩
    obtain ⟨j, rfl, hj, hje⟩ := hr.resolve_right (fun c => c.2 HK.out)
    have j0 : decide ((j : Int) < 0) = false := by simp
    obtain ⟨m, hm⟩ : ∃ m, zs.length = m + 1 := ⟨zs.length - 1, by omega⟩
    have HM := Lib.hid hm
    clear hm ho hr
    go_wp2_with fail
    refine (hrem j m B a g lf tk zs _ hq HP.out.1 HM.out hz90 hj).mono ?_
    rintro e w2 ⟨rfl, zs', hq2, hF, hh2, hp2⟩
    rw [hje] at hp2
    obtain ⟨hh, hp, hn, hpw, ht, ht0, htT⟩ := HP.out
    have hnd := hp2.symm.nodup (hp.symm.nodup hn)
    have hnd2 : (dl k L).Nodup := hn.filter _
    have hp3 : zs'.Perm (dl k L) := (List.perm_ext_iff_of_nodup (List.nodup_append.1 hnd).1 hnd2).2 fun z => by
      rw [mem_dl, ← hp.mem_iff, ← hp2.mem_iff, List.mem_append, List.mem_singleton]
      constructor
      · intro c
        exact ⟨.inl c, (List.nodup_append.1 hnd).2.2 z c k (by simp)⟩
      · rintro ⟨c | c, d⟩
        · exact c
        · exact absurd c d
    have hA : AI w2 B a g T (dl k L) := ⟨lf, tk, zs', hq2, hh2, hp3, hnd2, hpw.filter _, fun z hz => ht z (mem_dl.1 hz).1, ht0, htT⟩
    clear HP hh hp hn hpw ht hnd hnd2 hp3 hp2 hq2 hh2 hq HK HM
    go_wp2_with fail
    go_ret
    exact ⟨rfl, hA, hF⟩
  · have e1 : decide (k ∈ L) = false := by simpa using hk
    rw [e1, dl_not hk]
    have hkz : k ∉ zs := fun c => hk (hp.mem_iff.1 c)
    have HK := Lib.hid hkz
    clear hb ha e1 hk hkz hh hp hn hpw ht
    go_enter Try.func12, Try.ntmps12
    go_wp2_with fail
    refine (idx_ok B zs k _ A cap ho (by omega)).mono ?_
    rintro e w1 ⟨r, rfl, hr, rfl⟩
    obtain ⟨rfl, _⟩ := hr.resolve_left (fun ⟨j, _, hj, hje⟩ => HK.out (hje ▸ el_mem hj))
    go_wp2_with fail
    go_ret
    exact ⟨rfl, h, Fr.refl _ _ _⟩
theorem atouch_nil (k : Int) (w : World) : Calls Try.prog 10 #[.pointer none, .int .i64 k] w fun e w' => e = .returned (.bool false) ∧ w = w' := by
  go_enter Try.func10, Try.ntmps10
  go_wp2_with fail
  go_ret
  exact ⟨rfl, rfl⟩
theorem touch_no (a : Nat) (k : Int) (w : World) (hk : k < 0 ∨ 16 ≤ k) : Calls Try.prog 10 #[.pointer (some ⟨a, 0, none⟩), .int .i64 k] w fun e w' => e = .returned (.bool false) ∧ w = w' := by
  rcases (show k < 0 ∨ (0 ≤ k ∧ 16 ≤ k) by omega) with h | ⟨h, h2⟩
  all_goals
    clear hk
    go_enter Try.func10, Try.ntmps10
    go_wp2_with fail
    go_ret
    exact ⟨rfl, rfl⟩
set_option maxHeartbeats 2000000 in
theorem touch_ok (B a g T k : Nat) (L : List Int) (w : World) (h : AI w B a g T L) (hB : B ≤ w.heap.size) (hT : T ≤ 1000) (hk : k < 16) :
    Calls Try.prog 10 #[.pointer (some ⟨a, 0, none⟩), .int .i64 k] w fun e w' => e = .returned (.bool true) ∧ AI w' B a g (T + 1) (dl k L ++ [(k : Int)]) ∧ Fr a g w w' := by
  have i0 : (0 : Int) ≤ (k : Int) := by omega
  have i1 : (k : Int) < 16 := by omega
  have i2 : decide ((16 : Int) ≤ (k : Int)) = false := by simp; omega
  go_enter Try.func10, Try.ntmps10
  go_wp2_with fail
  refine (drop_ok B a g T L k _ h).mono ?_
  rintro e w1 ⟨rfl, hA, hF⟩
  have hlen := hA.len
  have hkn : (k : Int) ∉ dl k L := fun c => (mem_dl.1 c).2 rfl
  obtain ⟨lf, tk, zs, hq, hh, hp, hn, hpw, ht, ht0, htT⟩ := hA
  obtain ⟨L', hL'⟩ : ∃ L', L' = dl k L := ⟨_, rfl⟩
  rw [← hL'] at hlen hkn hp hn hpw ht
  have HL := Lib.hid hL'
  have hq' := hq
  obtain ⟨A, cap, hb, hBg, ho, ha, hBa, h6⟩ := hq'
  have hne := hq.ne
  have c16 : w1.cell? ⟨a, 16, none⟩ = some (.int .i64 tk) := ha.cell_ 16 rfl
  have f16 := ha.frozen 16
  have fk := ha.frozen k
  have la := ha.lt
  have a2 := ha.set_to 16 (.int .i64 (tk + 1)) (acells_tick lf tk g (tk + 1))
  have a3 := a2.set_to k (.int .i64 (tk + 1)) (acells_set lf (tk + 1) g hk (tk + 1))
  have d16 : (w1.setCell ⟨a, 16, none⟩ (.int .i64 (tk + 1))).cell? ⟨a, 16, none⟩ = some (.int .i64 (tk + 1)) := a2.cell_ 16 rfl
  have dk : (w1.setCell ⟨a, 16, none⟩ (.int .i64 (tk + 1))).cell? ⟨a, k, none⟩ = some (.int .i64 (lf k)) := a2.cell_ k (acells_at _ _ _ hk)
  have c17 : ((w1.setCell ⟨a, 16, none⟩ (.int .i64 (tk + 1))).setCell ⟨a, k, none⟩ (.int .i64 (tk + 1))).cell? ⟨a, 17, none⟩ = some (.pointer (some ⟨g, 0, none⟩)) := a3.cell_ 17 rfl
  have F1 := Fr.setOld (g := g) (i := 16) ha (.inr rfl) hne (.int .i64 (tk + 1))
  have F2 := Fr.setOld (g := g) (i := k) a2 (.inr rfl) hne (.int .i64 (tk + 1))
  have hF2 := hF.trans (F1.trans F2)
  have hq2 : QI ((w1.setCell ⟨a, 16, none⟩ (.int .i64 (tk + 1))).setCell ⟨a, k, none⟩ (.int .i64 (tk + 1))) B a g (fun i => if i = k then tk + 1 else lf i) (tk + 1) zs := by
    refine ⟨A, cap, (hb.far (p := ⟨a, 16, none⟩) (Ne.symm hne) _).far (p := ⟨a, k, none⟩) (Ne.symm hne) _, hBg, ⟨ho.1, ?_⟩, a3, hBa, h6⟩
    rcases ho.2 with h4 | ⟨r, c, cur, b1, b2, b3, b4⟩
    · exact .inl h4
    · have hra := (show Blk w1 r 3 cur from b3).ne_ ha (by decide)
      exact .inr ⟨r, c, cur, b1, b2, ((show Blk w1 r 3 cur from b3).far (p := ⟨a, 16, none⟩) hra _).far (p := ⟨a, k, none⟩) hra _, b4⟩
  have hkf : ∀ z, z ∈ L' → kf (fun i => if i = k then tk + 1 else lf i) z = kf lf z := fun z hz => by
    have hz0 := h6 z (hp.mem_iff.2 hz)
    show (if z.toNat = k then tk + 1 else lf z.toNat) = lf z.toNat
    rw [if_neg (fun e => hkn (by have : z = (k : Int) := by omega
                                 rw [← this]; exact hz))]
  have hkk : kf (fun i => if i = k then tk + 1 else lf i) (k : Int) = tk + 1 := by simp [kf]
  have hh2 : Heap (kf (fun i => if i = k then tk + 1 else lf i)) zs zs.length := fun i p0 p1 => by
    rw [hkf _ (hp.mem_iff.1 (el_mem (by omega))), hkf _ (hp.mem_iff.1 (el_mem p1))]
    exact hh i p0 p1
  have hpl := hp.length_eq
  have hz90 : zs.length ≤ 90 := by omega
  have HP := Lib.hid (show zs.Perm L' ∧ L'.Nodup ∧ L'.Pairwise (fun x y => kf lf x < kf lf y) ∧ (∀ z ∈ L', kf lf z ≤ tk) ∧ (∀ z, z ∈ L' → kf (fun i => if i = k then tk + 1 else lf i) z = kf lf z) ∧ (k : Int) ∉ L' ∧ kf (fun i => if i = k then tk + 1 else lf i) (k : Int) = tk + 1 from ⟨hp, hn, hpw, ht, hkf, hkn, hkk⟩)
  have HF := Lib.hid hF2
  have HQ := Lib.hid (And.intro hq2 hh2)
  have hsz := hF.1.size
  clear hp hn hpw ht hkf hkn hkk hpl hF2 hq2 hh2 F1 F2 a2 a3 hb ho hh hq hF h hL' hlen h6 ha
  obtain ⟨lf', hlf'⟩ : ∃ lf' : Nat → Int, lf' = fun i => if i = k then tk + 1 else lf i := ⟨_, rfl⟩
  rw [← hlf'] at HP HQ
  clear hlf'
  go_wp2_with fail
  go_region
  have HZ := Lib.hid (And.intro i0 i1)
  clear c16 d16 dk f16 fk
  go_wp2_with fail
  refine (hpush B a g lf' (tk + 1) zs k _ (QI.drew HQ.out.1) HQ.out.2 hz90 (by simp; omega) HZ.out).mono ?_
  rintro e w2 ⟨rfl, zs', hq3, hF3, hh3, hp3⟩
  obtain ⟨hp, hn, hpw, ht, hkf, hkn, hkk⟩ := HP.out
  have hA : AI w2 B a g (T + 1) (L' ++ [(k : Int)]) := by
    refine ⟨lf', tk + 1, zs', hq3, hh3, hp3.trans (hp.append_right _), ?_, ?_, ?_, by omega, by omega⟩
    · rw [List.nodup_append]
      exact ⟨hn, by simp, fun x hx y hy => by rw [List.mem_singleton] at hy; subst hy; rintro rfl; exact hkn hx⟩
    · rw [List.pairwise_append]
      refine ⟨hpw.imp_of_mem (fun hx hy hxy => by rw [hkf _ hx, hkf _ hy]; exact hxy), by simp, fun x hx y hy => ?_⟩
      rw [List.mem_singleton] at hy
      subst hy
      rw [hkk, hkf _ hx]
      have := ht x hx
      omega
    · intro z hz
      rw [List.mem_append, List.mem_singleton] at hz
      rcases hz with hz | rfl
      · rw [hkf _ hz]
        have := ht z hz
        omega
      · rw [hkk]; omega
  rw [HL.out] at hA
  have hF4 := HF.out.drew.trans hF3
  clear HP HQ HF HZ hp hn hpw ht hkf hkn hkk hq3 hh3 hp3 c17 HL
  go_wp2_with fail
  go_ret
  exact ⟨rfl, hA, hF4⟩
theorem anew_ok (w : World) : Calls Try.prog 9 #[] w fun e w' => e = .returned (.pointer (some ⟨w.heap.size, 0, none⟩)) ∧ AI w' w.heap.size w.heap.size (w.heap.size + 1) 0 [] ∧ Below w.heap.size w w' := by
  have hb : Blk ((w.alloc (.cells (acells (fun _ => 0) 0 (w.heap.size + 1)) 58)).alloc (.cells #[.slice none 0 0, .func (.func 30) #[.pointer (some ⟨w.heap.size, 0, none⟩)] #[]] 60)) (w.heap.size + 1) 60 #[.slice none 0 0, .func (.func 30) #[.pointer (some ⟨w.heap.size, 0, none⟩)] #[]] := by
    have := Blk.new (w.alloc (.cells (acells (fun _ => 0) 0 (w.heap.size + 1)) 58)) 60 #[.slice none 0 0, .func (.func 30) #[.pointer (some ⟨w.heap.size, 0, none⟩)] #[]]
    rwa [World.size_alloc] at this
  have hA : AI ((w.alloc (.cells (acells (fun _ => 0) 0 (w.heap.size + 1)) 58)).alloc (.cells #[.slice none 0 0, .func (.func 30) #[.pointer (some ⟨w.heap.size, 0, none⟩)] #[]] 60)) w.heap.size w.heap.size (w.heap.size + 1) 0 [] :=
    ⟨fun _ => 0, 0, [], ⟨none, 0, hb, by omega, World.ownsRow_nil _ _ _ _, (Blk.new w 58 _).alloc _, Nat.le_refl _, fun z hz => by simp at hz⟩, fun i h0 h1 => by simp at h1, .refl _, .nil, .nil, fun z hz => by simp at hz, by omega, by omega⟩
  have hbel : Below w.heap.size w ((w.alloc (.cells (acells (fun _ => 0) 0 (w.heap.size + 1)) 58)).alloc (.cells #[.slice none 0 0, .func (.func 30) #[.pointer (some ⟨w.heap.size, 0, none⟩)] #[]] 60)) := ((Below.refl _ _).alloc (Nat.le_refl _) _).alloc (by simp) _
  have HA := Lib.hid (And.intro hA hbel)
  clear hb hA hbel
  go_enter Try.func9, Try.ntmps9
  go_wp2_with fail
  go_ret
  exact ⟨rfl, HA.out.1, HA.out.2⟩
theorem drop_nil (k : Int) (w : World) : Calls Try.prog 12 #[.pointer none, .int .i64 k] w fun e w' => e = .returned (.bool false) ∧ w = w' := by
  go_enter Try.func12, Try.ntmps12
  go_wp2_with fail
  go_ret
  exact ⟨rfl, rfl⟩
end Go.Proofs.Ytbmpocalapgmjac
