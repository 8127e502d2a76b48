/- Age's heap: container/heap's Push and Remove; slices.Index. -/
import Derived.Test.YtbmpocalapgmjacUpDown
namespace Go.Proofs.Ytbmpocalapgmjac
open Go.RowKit
set_option linter.unusedVariables false
theorem hpush (B a g : Nat) (lf : Nat → Int) (tk : Int) (zs : List Int) (z : Int) (w : World) (h : QI w B a g lf tk zs) (hh : Heap (kf lf) zs zs.length) (hl : zs.length ≤ 90) (hB : B ≤ w.heap.size) (hz : 0 ≤ z ∧ z < 16) :
    Calls Try.prog 31 #[.iface 56 (.pointer (some ⟨g, 0, none⟩)), .iface 3 (.int .i64 z)] w fun e w' => e = .returned (.tuple #[]) ∧ ∃ zs', QI w' B a g lf tk zs' ∧ Fr a g w w' ∧ Heap (kf lf) zs' zs'.length ∧ zs'.Perm (zs ++ [z]) := by
  have m1 := m_push g
  have m2 := m_len g
  have hup := hh.push z
  obtain ⟨ys, hys⟩ : ∃ ys, ys = zs ++ [z] := ⟨_, rfl⟩
  have hyl : ys.length = zs.length + 1 := by rw [hys]; simp
  have hyi : ((ys.length : Nat) : Int) - 1 = (zs.length : Int) := by omega
  rw [← hys] at hup ⊢
  have HZ := Lib.hid hz
  clear hz
  go_enter Try.func31, Try.ntmps31
  go_wp2_with fail
  refine (qpush B a g lf tk zs z _ h (by omega) hB HZ.out).mono ?_
  rintro e w1 ⟨rfl, hq1, hN1⟩
  rw [← hys] at hq1
  clear hys h
  go_wp2_with fail
  refine (qlen B a g lf tk ys _ hq1).mono ?_
  rintro e w2 ⟨rfl, rfl⟩
  go_wp2_with fail
  refine (up_ok g zs.length ys.length B a lf tk ys _ hq1 (by rw [hyl]; exact hup) (by omega) (Nat.le_refl _) (by omega)).mono ?_
  rintro e w3 ⟨rfl, zs', hq3, hN3, hh3, hp3, _⟩
  have hl3 := hp3.length_eq
  go_wp2_with fail
  go_end0
  exact ⟨rfl, zs', hq3, hN1.trans hN3, by rw [hl3]; exact hh3, hp3⟩
/-- the last step of Remove -/
theorem hrem_last {f : Int → Int} {ys zs : List Int} {z : Int} {m : Nat} (hp : ys.Perm zs) (hl : zs.length = m + 1) (hz : el ys m = z) (hh : Heap f ys m) :
    ys = ys.take m ++ [z] ∧ (ys.take m ++ [z]).Perm zs ∧ (ys.take m).length = m ∧ Heap f (ys.take m) (ys.take m).length := by
  have hyl := hp.length_eq
  have hys := split_last (zs := ys) (m := m) (by omega)
  rw [hz] at hys
  have htl : (ys.take m).length = m := by rw [List.length_take]; omega
  exact ⟨hys, by rw [← hys]; exact hp, htl, by rw [htl]; exact hh.take⟩
set_option maxHeartbeats 2000000 in
theorem hrem (i m B a g : Nat) (lf : Nat → Int) (tk : Int) (zs : List Int) (w : World) (h : QI w B a g lf tk zs) (hh : Heap (kf lf) zs zs.length) (hm : zs.length = m + 1) (hl : zs.length ≤ 90) (hi : i < zs.length) :
    Calls Try.prog 33 #[.iface 56 (.pointer (some ⟨g, 0, none⟩)), .int .i64 i] w fun e w' => e = .returned (.iface 3 (.int .i64 (el zs i))) ∧ ∃ zs', QI w' B a g lf tk zs' ∧ Fr a g w w' ∧ Heap (kf lf) zs' zs'.length ∧ (zs' ++ [el zs i]).Perm zs := by
  have m1 := m_pop g
  have m2 := m_len g
  have m3 := m_swap g
  have hmi : ((zs.length : Nat) : Int) - 1 = (m : Int) := by omega
  have hm90 : m < 90 := by omega
  by_cases hc : m = i
  · have ht : ((m : Int) == (i : Int)) = true := by simp; omega
    have htn : (m == i) = true := by simp; omega
    obtain ⟨e1, e2, e3, e4⟩ := hrem_last (f := kf lf) (ys := zs) (zs := zs) (z := el zs i) (m := m) (.refl _) hm (by rw [hc]) (fun k h0 h1 => hh k h0 (by omega))
    have hq1 : QI w B a g lf tk (zs.take m ++ [el zs i]) := by rw [← e1]; exact h
    clear hc e1 hh e3
    go_enter Try.func33, Try.ntmps33
    go_wp2_with fail
    refine (qlen B a g lf tk zs _ h).mono ?_
    rintro e w1 ⟨rfl, rfl⟩
    go_wp2_with fail
    refine (qpop B a g lf tk (zs.take m) (el zs i) _ hq1).mono ?_
    rintro e w4 ⟨rfl, hq5, hN5⟩
    go_wp2_with fail
    go_ret
    exact ⟨rfl, _, hq5, hN5, e4, e2⟩
  · have ht : ((m : Int) == (i : Int)) = false := by simp; omega
    have htn : (m == i) = false := by simp; omega
    have hcut : AnyBut (kf lf) (swp zs i m) m i := (show Heap (kf lf) zs (m + 1) by rw [← hm]; exact hh).cut (by omega) (by omega)
    have hsl := swp_len zs i m
    have hsw := fun W hq => qswap i m B a g lf tk zs W hq (by omega) (by omega)
    have hdn := fun W hq => down_ok g i m B a lf tk (swp zs i m) W hq hcut (by omega) (by omega) (by omega)
    have hlast : el (swp zs i m) m = el zs i := by rw [el_swp (by omega) (by omega), if_pos rfl]
    have hperm := swp_perm (zs := zs) (i := i) (j := m) (by omega) (by omega)
    have him : i < m := by omega
    go_enter Try.func33, Try.ntmps33
    go_wp2_with fail
    refine (qlen B a g lf tk zs _ h).mono ?_
    rintro e w1 ⟨rfl, rfl⟩
    go_wp2_with fail
    refine (hsw _ h).mono ?_
    rintro e w2 ⟨rfl, hq2, hN2⟩
    go_wp2_with fail
    refine (hdn _ hq2).mono ?_
    rintro e w3 ⟨b, ys, rfl, hq3, hN3, hp3, he3, hd3⟩
    rcases hd3 with ⟨rfl, rfl, hu⟩ | ⟨rfl, hh3⟩
    · have hup := fun W hq => up_ok g i m B a lf tk (swp zs i m) W hq hu him (by omega) (by omega)
      clear hsw hdn hcut h hh hu
      go_wp2_with fail
      refine (hup _ hq3).mono ?_
      rintro e w4 ⟨rfl, ys, hq4, hN4, hh4, hp4, he4⟩
      obtain ⟨e1, e2, e3, e4⟩ := hrem_last (hp4.trans hperm) hm ((he4 m (Nat.le_refl _)).trans hlast) hh4
      have hq4' : QI w4 B a g lf tk (ys.take m ++ [el zs i]) := by rw [← e1]; exact hq4
      have hN := (hN2.trans hN3).trans hN4
      clear hup e1 hq4 hh4 hp4 he4 hp3 he3 hperm hlast hsl
      go_wp2_with fail
      refine (qpop B a g lf tk (ys.take m) (el zs i) _ hq4').mono ?_
      rintro e w5 ⟨rfl, hq5, hN5⟩
      go_wp2_with fail
      go_ret
      exact ⟨rfl, _, hq5, hN.trans hN5, e4, e2⟩
    · obtain ⟨e1, e2, e3, e4⟩ := hrem_last (hp3.trans hperm) hm ((he3 m (Nat.le_refl _)).trans hlast) hh3
      have hq4' : QI w3 B a g lf tk (ys.take m ++ [el zs i]) := by rw [← e1]; exact hq3
      have hN := hN2.trans hN3
      clear hsw hdn hcut h hh e1 hq3 hh3 hp3 he3 hperm hlast hsl
      go_wp2_with fail
      refine (qpop B a g lf tk (ys.take m) (el zs i) _ hq4').mono ?_
      rintro e w5 ⟨rfl, hq5, hN5⟩
      go_wp2_with fail
      go_ret
      exact ⟨rfl, _, hq5, hN.trans hN5, e4, e2⟩
/-- what slices.Index tells -/
def Idx (zs : List Int) (k r : Int) : Prop := (∃ j : Nat, r = (j : Int) ∧ j < zs.length ∧ el zs j = k) ∨ (r = -1 ∧ k ∉ zs)
theorem idx_ok (B : Nat) (zs : List Int) (k : Int) (w : World) (A : Option Addr) (cap : Nat) (h : w.ownsRow B 3 1 (.slice A zs.length cap) zs.length (ivals zs)) (hl : zs.length ≤ 100) :
    Calls Try.prog 32 #[.slice A zs.length cap, .int .i64 k] w fun e w' => ∃ r, e = .returned (.int .i64 r) ∧ Idx zs k r ∧ w = w' := by
  by_cases h0 : zs = []
  · subst h0
    have hx : ((0 : Nat) : Int) = 0 := rfl
    clear h
    go_enter Try.func32, Try.ntmps32
    go_wp2_with fail
    go_loopw [8] (fun i wr => i = .int .i64 0 ∧ w = wr) (fun _ _ => 0)
    case atStart => exact ⟨rfl, rfl⟩
    case round =>
      obtain ⟨rfl, rfl⟩ := hrel
      go_wp2_with fail
      go_ret
      exact ⟨_, rfl, .inr ⟨rfl, by simp⟩, rfl⟩
  · obtain ⟨_, h1⟩ := h
    have hpos : 0 < zs.length := List.length_pos_iff.2 h0
    rcases h1 with ⟨_, h1⟩ | ⟨r, c, cur, a1, a2, a3, a4, a5, a6, a7⟩
    · omega
    · injection a1 with b1 b2 b3
      subst b1
      have hc : ∀ j, j < zs.length → w.cell? ⟨r, j, none⟩ = some (.int .i64 (el zs j)) := fun j hj => by
        rw [cell_of_row w r j cur 3 (0, 0) a3]
        have e : (cur.toList.take (zs.length * 1))[j]? = some (.int .i64 (el zs j)) := by
          rw [a7]; unfold ivals
          rw [List.getElem?_map, el_get hj]; rfl
        rw [List.getElem?_take, if_pos (by omega)] at e
        simpa using e
      clear a2 a3 a4 a5 a6 a7 b2 b3 h0
      go_enter Try.func32, Try.ntmps32
      go_wp2_with fail
      go_loopw [8] (fun i wr => ∃ j : Nat, i = .int .i64 j ∧ w = wr ∧ j ≤ zs.length ∧ ∀ i, i < j → el zs i ≠ k) (fun i _ => zs.length - (intOf i).toNat)
      case atStart => exact ⟨0, rfl, rfl, by omega, fun i hi => by omega⟩
      case round =>
        obtain ⟨j, rfl, rfl, hj, hne⟩ := hrel
        by_cases hlt : j < zs.length
        · have j0 : (0 : Int) ≤ (j : Int) := by omega
          have j1 : (j : Int) < (zs.length : Int) := by omega
          have hcj := hc j hlt
          by_cases he : k = el zs j
          · have hE : (k == el zs j) = true := by simpa using he
            have hfin : Idx zs k j := .inl ⟨j, rfl, hlt, he.symm⟩
            clear he hne hc
            go_wp2_with fail
            go_ret
            exact ⟨_, rfl, hfin, rfl⟩
          · have hE : (k == el zs j) = false := by simpa using he
            have hne2 : ∀ i, i < j + 1 → el zs i ≠ k := fun i hi => by
              by_cases e : i = j
              · rw [e]; exact fun e => he e.symm
              · exact hne i (by omega)
            clear he hne hc
            go_wp2_with fail
            go_roundw
            case rel => exact ⟨j + 1, by go_num, trivial, by omega, hne2⟩
            case measure => simp [intOf]; omega
        · have hd : decide (j < zs.length) = false := by simpa using hlt
          have hd2 : decide ((j : Int) < (zs.length : Int)) = false := by simp; omega
          have hfin : Idx zs k (-1) := .inr ⟨rfl, fun hm => by
            obtain ⟨i, hi, e⟩ := mem_el hm
            exact hne i (by omega) e⟩
          clear hne hc
          go_wp2_with fail
          go_ret
          exact ⟨_, rfl, hfin, rfl⟩
theorem Idx.iff {zs : List Int} {k r : Int} (h : Idx zs k r) : decide (0 ≤ r) = decide (k ∈ zs) := by
  rcases h with ⟨j, rfl, hj, rfl⟩ | ⟨rfl, hn⟩
  · have := el_mem hj
    simp [this]
  · simp [hn]
end Go.Proofs.Ytbmpocalapgmjac
