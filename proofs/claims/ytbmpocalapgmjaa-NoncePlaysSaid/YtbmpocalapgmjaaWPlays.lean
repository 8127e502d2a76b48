/- The walk of the law NoncePlays. -/
import Derived.Test.YtbmpocalapgmjaaNonce
import Derived.Deep.QuietTactic
import Derived.BigQuiet
namespace Go.Proofs.Ytbmpocalapgmjaa.noncePlays
open Go.RowKit
set_option linter.unusedVariables false

/-- what a call of Next answers, by the kind of its arguments: 0 a number, 1 no slot, 2 none left -/
def kd (n sl : Int) : Nat := if sl < 0 ∨ 65535 < sl then 1 else if n = 100 then 2 else 0
def nE (n ep sl : Int) : Int := if kd n sl = 0 then ep else 0
def nS (n sl : Int) : Int := if kd n sl = 0 then sl else 0
def nV (b n sl : Int) : Int := if kd n sl = 0 then b * 4294967296 + (n + 1) else 0
def nR (n sl : Int) : Int := if kd n sl = 0 then 0 else if kd n sl = 1 then 1 else 6
def nN (n sl : Int) : Int := if kd n sl = 0 then n + 1 else n
def Told (b n ep sl : Int) (e : Ending) : Prop := e = .returned (.tuple #[.agg #[.int .u32 (nE n ep sl), .int .u32 (nS n sl), .int .u64 (nV b n sl)], .int .i64 (nR n sl)])

theorem nN_bd (n sl : Int) (h0 : 0 ≤ n) (h1 : n ≤ 100) : 0 ≤ nN n sl ∧ nN n sl ≤ 100 := by
  unfold nN kd
  by_cases a : sl < 0 ∨ 65535 < sl
  · rw [if_pos a, if_neg (by decide)]; omega
  · by_cases c : n = 100
    · rw [if_neg a, if_pos c, if_neg (by decide)]; omega
    · rw [if_neg a, if_neg c, if_pos rfl]; omega

theorem next_any (g : Nat) (b n ep sl : Int) (w : World) (h0 : 0 ≤ n) (h1 : n ≤ 100) (b0 : 0 ≤ b) (b1 : b < 4294967296) (e0 : 0 ≤ ep) (e1 : ep < 4294967296)
    (hg : Blk w g 59 #[.int .u64 b, .int .i64 n]) :
    Calls Try.prog 11 #[.pointer (some ⟨g, 0, none⟩), .int .u32 ep, .int .i64 sl] w fun e w' => Told b n ep sl e ∧ w.grownBy w' (some g) ∧ Blk w' g 59 #[.int .u64 b, .int .i64 (nN n sl)] := by
  by_cases hs : sl < 0 ∨ 65535 < sl
  · have hk : kd n sl = 1 := by unfold kd; rw [if_pos hs]
    refine (next_slot _ ep sl w hs).mono fun e w' ⟨he, hb⟩ => ⟨?_, only_of_below hb _, ?_⟩
    · unfold Told nE nS nV nR; rw [hk]; exact he
    · unfold nN; rw [hk]; exact hg.below_ hb
  · by_cases hn : n = 100
    · have hk : kd n sl = 2 := by unfold kd; rw [if_neg hs, if_pos hn]
      have hg' := hg
      rw [hn] at hg'
      refine (next_none g b ep sl w (by omega) (by omega) hg').mono fun e w' ⟨he, hb⟩ => ⟨?_, only_of_below hb _, ?_⟩
      · unfold Told nE nS nV nR; rw [hk]; exact he
      · unfold nN; rw [hk]; exact hg.below_ hb
    · have hk : kd n sl = 0 := by unfold kd; rw [if_neg hs, if_neg hn]
      refine (next_ok g b n ep sl w h0 (by omega) b0 b1 e0 e1 (by omega) (by omega) hg).mono fun e w' ⟨he, hb, hb'⟩ => ⟨?_, hb, ?_⟩
      · unfold Told nE nS nV nR; rw [hk]; exact he
      · unfold nN; rw [hk]; exact hb'
theorem rnext_any (g : Nat) (b n ep sl : Int) (w : World) (h0 : 0 ≤ n) (h1 : n ≤ 100) (b0 : 0 ≤ b) (b1 : b < 4294967296) (e0 : 0 ≤ ep) (e1 : ep < 4294967296)
    (hg : Blk w g 41 #[.int .u64 b, .int .i64 n]) :
    Calls Try.prog 12 #[.pointer (some ⟨g, 0, none⟩), .int .u32 ep, .int .i64 sl] w fun e w' => Told b n ep sl e ∧ w.grownBy w' (some g) ∧ Blk w' g 41 #[.int .u64 b, .int .i64 (nN n sl)] := by
  by_cases hs : sl < 0 ∨ 65535 < sl
  · have hk : kd n sl = 1 := by unfold kd; rw [if_pos hs]
    refine (rnext_slot _ ep sl w hs).mono fun e w' ⟨he, hb⟩ => ⟨?_, only_of_below hb _, ?_⟩
    · unfold Told nE nS nV nR; rw [hk]; exact he
    · unfold nN; rw [hk]; exact hg.below_ hb
  · by_cases hn : n = 100
    · have hk : kd n sl = 2 := by unfold kd; rw [if_neg hs, if_pos hn]
      have hg' := hg
      rw [hn] at hg'
      refine (rnext_none g b ep sl w (by omega) (by omega) hg').mono fun e w' ⟨he, hb⟩ => ⟨?_, only_of_below hb _, ?_⟩
      · unfold Told nE nS nV nR; rw [hk]; exact he
      · unfold nN; rw [hk]; exact hg.below_ hb
    · have hk : kd n sl = 0 := by unfold kd; rw [if_neg hs, if_neg hn]
      refine (rnext_ok g b n ep sl w h0 (by omega) b0 b1 e0 e1 (by omega) (by omega) hg).mono fun e w' ⟨he, hb, hb'⟩ => ⟨?_, hb, ?_⟩
      · unfold Told nE nS nV nR; rw [hk]; exact he
      · unfold nN; rw [hk]; exact hb'
theorem quiet_left {P : Program} {f : FuncId} {args : Array Value} {w : World} {n : Nat} {v : Value}
    (h : Calls P f args (w.drewN n) fun e w' => e = .returned v ∧ w.drewN n = w') : Calls P f args (w.drewN n) fun e w' => e = .returned v ∧ ∃ m, w' = w.drewN m :=
  h.mono fun _ _ ⟨he, hm⟩ => ⟨he, n, hm.symm⟩

set_option maxRecDepth 100000 in
theorem walk (a0 : Int) (a1 : Option Addr) (len1 cap1 : Nat) (z1 : List Int) (a2 : Option Addr) (len2 cap2 : Nat) (z2 : List Int) (w : World) (w0 : (Lit.int .u64 a0).wf = true) (w1 : IsRow .u32 w a1 len1 cap1 z1) (w2 : IsRow .i64 w a2 len2 cap2 z2) :
    Calls Try.prog 3 #[.int .u64 a0, .slice a1 len1 cap1, .slice a2 len2 cap2] w fun e w' => e = .returned (.bool true) ∧ Below w.heap.size w w' := by
  have b0 := bounds_u64 w0
  obtain ⟨m1, c1, d1⟩ := w1.open_
  obtain ⟨m2, c2, d2⟩ := w2.open_
  clear w0 w1 w2
  by_cases hl : len2 ≤ 250 ∧ len1 ≤ 250
  · obtain ⟨l2, l1⟩ := hl
    by_cases hb : a0 < 4294967296
    · have hb1 : Blk (w.alloc (.cells #[.int .u64 a0, .int .i64 0] 59)) w.heap.size 59 #[.int .u64 a0, .int .i64 0] := Blk.new _ _ _
      have bel1 : Below w.heap.size w (w.alloc (.cells #[.int .u64 a0, .int .i64 0] 59)) := (Below.refl _ _).alloc (Nat.le_refl _) _
      have hb2 : Blk ((w.alloc (.cells #[.int .u64 a0, .int .i64 0] 59)).alloc (.cells #[.int .u64 a0, .int .i64 0] 41)) (w.heap.size + 1) 41 #[.int .u64 a0, .int .i64 0] := by
        have := Blk.new (w.alloc (.cells #[.int .u64 a0, .int .i64 0] 59)) 41 #[.int .u64 a0, .int .i64 0]
        rwa [World.size_alloc] at this
      go_enter Try.func3, Try.ntmps3
      go_wp2_with fail
      refine (new_ok a0 _ (by omega) (by omega)).mono ?_
      rintro e w1 ⟨rfl, rfl⟩
      go_wp2_with fail
      refine (rnew_ok a0 _ (by omega) (by omega)).mono ?_
      rintro e w1 ⟨rfl, rfl⟩
      go_wp2_with fail
      go_loopw [11] (fun i wr => ∃ (k : Nat) (n : Int), k ≤ len2 ∧ 0 ≤ n ∧ n ≤ 100 ∧ i = .int .i64 k ∧ Blk wr w.heap.size 59 #[.int .u64 a0, .int .i64 n] ∧ Blk wr (w.heap.size + 1) 41 #[.int .u64 a0, .int .i64 n] ∧ Below w.heap.size w wr) (fun i _ => len2 - (intOf i).toNat)
      case atStart => exact ⟨0, 0, by omega, by omega, by omega, rfl, hb1.alloc _, hb2, bel1.alloc (by simp) _⟩
      case round =>
        obtain ⟨k, n, hk, n0, n1, rfl, hbk, hck, bel⟩ := hrel
        have bs := bel.size
        by_cases hlt : k < len2
        · obtain ⟨b2, o2, rfl, q0, sl, hcx⟩ : ∃ b2 o2, a2 = some ⟨b2, o2, none⟩ ∧ b2 < w.heap.size ∧ ∃ sl, wr.cell? ⟨b2, o2 + k, none⟩ = some (.int .i64 sl) := by
            obtain ⟨b2, o2, ha, hw2, hz2, hc2, hv2⟩ := d2.resolve_left (by omega)
            exact ⟨b2, o2, ha, hw2, _, (bel.cell hw2).trans (hc2 k hlt)⟩
          clear d2
          by_cases hl1 : 0 < len1
          · obtain ⟨b1, o1, rfl, ep, hcy, hy0, hy1⟩ : ∃ b1 o1, a1 = some ⟨b1, o1, none⟩ ∧ ∃ ep, wr.cell? ⟨b1, o1 + k % len1, none⟩ = some (.int .u32 ep) ∧ 0 ≤ ep ∧ ep ≤ 4294967295 := by
              obtain ⟨b1, o1, ha, hw1, hz1, hc1, hv1⟩ := d1.resolve_left (by omega)
              have hmod : k % len1 < len1 := Nat.mod_lt _ hl1
              have hy := bounds_u32 (hv1 _ hmod)
              exact ⟨b1, o1, ha, _, (bel.cell hw1).trans (hc1 _ hmod), hy.1, hy.2⟩
            clear d1
            have r0 : (0 : Int) ≤ (k : Int) % (len1 : Int) := Int.emod_nonneg _ (by omega)
            have r1 : (k : Int) % (len1 : Int) < (len1 : Int) := Int.emod_lt_of_pos _ (by omega)
            go_wp2_with fail
            refine (next_any w.heap.size a0 n ep sl _ (by omega) (by omega) (by omega) (by omega) (by omega) (by omega) hbk).mono ?_
            rintro e w2 ⟨he, hg2, hb2⟩
            have hs2 := hg2.size
            have q2 : b2 < w2.heap.size := by omega
            have hcx2 : w2.cell? ⟨b2, o2 + k, none⟩ = some (.int .i64 sl) := hg2.cell hcx (by simp; omega)
            have hck2 := hck.grown hg2 (by simp)
            unfold Told at he
            subst he
            go_wp2_with fail
            refine (rnext_any (w.heap.size + 1) a0 n ep sl _ (by omega) (by omega) (by omega) (by omega) (by omega) (by omega) (hck2.alloc _)).mono ?_
            rintro e w3 ⟨he, hg3, hb3⟩
            have hs3 := hg3.size
            simp only [World.size_alloc] at hs3
            have hbk3 := (hb2.alloc (.cells #[.int .u32 (nE n ep sl), .int .u32 (nS n sl), .int .u64 (nV a0 n sl)] 34)).grown hg3 (by simp)
            have bel3 : Below w.heap.size w w3 := by
              refine below_only ((below_only bel hg2 bs (Nat.le_refl _)).alloc (by omega) (.cells #[.int .u32 (nE n ep sl), .int .u32 (nS n sl), .int .u64 (nV a0 n sl)] 34)) hg3 (by simp; omega) (by omega)
            have hagg : ∀ i (v : Value), #[Value.int .u32 (nE n ep sl), .int .u32 (nS n sl), .int .u64 (nV a0 n sl)][i]? = some v → w3.cell? ⟨w2.heap.size, i, none⟩ = some v := fun i v hv =>
              hg3.cell ((World.cell?_alloc_new w2 _ _ i).trans hv) (by have := hck2.lt; simp; omega)
            have g0 := hagg 0 _ rfl
            have g1 := hagg 1 _ rfl
            have g2 := hagg 2 _ rfl
            have q3 : w2.heap.size < w3.heap.size := by omega
            clear hagg
            unfold Told at he
            subst he
            have hbd := nN_bd n sl n0 n1
            have hx1 : w3.cell? ⟨w.heap.size + 1, 1, none⟩ = some (.int .i64 (nN n sl)) := hb3.cell_ 1 rfl
            have hq : w.heap.size < w3.heap.size := by omega
            have hq' : w.heap.size + 1 < w3.heap.size := hb3.lt
            go_wp2_with fail
            go_quiet ((go_at_call 13; refine quiet_left (left_ok w.heap.size a0 (nN n sl) _ (by omega) (by omega) ((hbk3.alloc _).drewN _))))
            go_wp2_with fail
            go_roundw
            case rel => exact ⟨k + 1, nN n sl, by omega, by omega, by omega, by go_num, (hbk3.alloc _).drewN _, (hb3.alloc _).drewN _, below_drewN (bel3.alloc (by omega) _) _⟩
            case measure => simp [intOf]; omega
          · clear d1
            have hl0 : ¬ ((0 : Int) < (len1 : Int)) := by omega
            go_wp2_with fail
            refine (next_any w.heap.size a0 n 0 sl _ (by omega) (by omega) (by omega) (by omega) (by omega) (by omega) hbk).mono ?_
            rintro e w2 ⟨he, hg2, hb2⟩
            have hs2 := hg2.size
            have q2 : b2 < w2.heap.size := by omega
            have hcx2 : w2.cell? ⟨b2, o2 + k, none⟩ = some (.int .i64 sl) := hg2.cell hcx (by simp; omega)
            have hck2 := hck.grown hg2 (by simp)
            unfold Told at he
            subst he
            go_wp2_with fail
            refine (rnext_any (w.heap.size + 1) a0 n 0 sl _ (by omega) (by omega) (by omega) (by omega) (by omega) (by omega) (hck2.alloc _)).mono ?_
            rintro e w3 ⟨he, hg3, hb3⟩
            have hs3 := hg3.size
            simp only [World.size_alloc] at hs3
            have hbk3 := (hb2.alloc (.cells #[.int .u32 (nE n 0 sl), .int .u32 (nS n sl), .int .u64 (nV a0 n sl)] 34)).grown hg3 (by simp)
            have bel3 : Below w.heap.size w w3 := by
              refine below_only ((below_only bel hg2 bs (Nat.le_refl _)).alloc (by omega) (.cells #[.int .u32 (nE n 0 sl), .int .u32 (nS n sl), .int .u64 (nV a0 n sl)] 34)) hg3 (by simp; omega) (by omega)
            have hagg : ∀ i (v : Value), #[Value.int .u32 (nE n 0 sl), .int .u32 (nS n sl), .int .u64 (nV a0 n sl)][i]? = some v → w3.cell? ⟨w2.heap.size, i, none⟩ = some v := fun i v hv =>
              hg3.cell ((World.cell?_alloc_new w2 _ _ i).trans hv) (by have := hck2.lt; simp; omega)
            have g0 := hagg 0 _ rfl
            have g1 := hagg 1 _ rfl
            have g2 := hagg 2 _ rfl
            have q3 : w2.heap.size < w3.heap.size := by omega
            clear hagg
            unfold Told at he
            subst he
            have hbd := nN_bd n sl n0 n1
            have hx1 : w3.cell? ⟨w.heap.size + 1, 1, none⟩ = some (.int .i64 (nN n sl)) := hb3.cell_ 1 rfl
            have hq : w.heap.size < w3.heap.size := by omega
            have hq' : w.heap.size + 1 < w3.heap.size := hb3.lt
            go_wp2_with fail
            go_quiet ((go_at_call 13; refine quiet_left (left_ok w.heap.size a0 (nN n sl) _ (by omega) (by omega) ((hbk3.alloc _).drewN _))))
            go_wp2_with fail
            go_roundw
            case rel => exact ⟨k + 1, nN n sl, by omega, by omega, by omega, by go_num, (hbk3.alloc _).drewN _, (hb3.alloc _).drewN _, below_drewN (bel3.alloc (by omega) _) _⟩
            case measure => simp [intOf]; omega
        · go_wp2_with fail
          refine (known_ok _).mono ?_
          rintro e w4 ⟨rfl, hg4⟩
          go_wp2_with fail
          go_ret
          exact ⟨rfl, bel.trans (hg4.mono (by omega))⟩
    · go_enter Try.func3, Try.ntmps3
      go_wp2_with fail
      refine (new_bad a0 _ (by omega)).mono ?_
      rintro e w1 ⟨rfl, rfl⟩
      go_wp2_with fail
      refine (rnew_bad a0 _ (by omega)).mono ?_
      rintro e w1 ⟨rfl, rfl⟩
      go_wp2_with fail
      go_loopw [11] (fun i wr => i = .int .i64 0 ∧ w = wr) (fun _ _ => 0)
      case atStart => exact ⟨rfl, rfl⟩
      case round =>
        obtain ⟨rfl, rfl⟩ := hrel
        by_cases h0 : 0 < len2
        all_goals
          go_wp2_with fail
          refine (known_ok _).mono ?_
          rintro e w4 ⟨rfl, hg4⟩
          go_wp2_with fail
          go_ret
          exact ⟨rfl, hg4⟩
  · have hl' : 250 < len2 ∨ (len2 ≤ 250 ∧ 250 < len1) := by omega
    clear hl
    rcases hl' with h | ⟨h, h'⟩
    all_goals
      go_enter Try.func3, Try.ntmps3
      go_wp2
      go_ret
      exact ⟨rfl, Below.refl _ _⟩
end Go.Proofs.Ytbmpocalapgmjaa.noncePlays
