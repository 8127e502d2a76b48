/- container/heap's up and down over age's queue. -/
import Derived.Test.YtbmpocalapgmjacAQueue
import Derived.Deep.RegionWith
namespace Go.Proofs.Ytbmpocalapgmjac
open Go.RowKit
set_option linter.unusedVariables false
theorem m_len (g : Nat) (W : World) : (method 218 56 (.pointer (some ⟨g, 0, none⟩)) "Len").run Try.prog W = .ok (34, .pointer (some ⟨g, 0, none⟩)) W := by kernel_rfl
theorem m_less (g : Nat) (W : World) : (method 218 56 (.pointer (some ⟨g, 0, none⟩)) "Less").run Try.prog W = .ok (80, .pointer (some ⟨g, 0, none⟩)) W := by kernel_rfl
theorem m_pop (g : Nat) (W : World) : (method 218 56 (.pointer (some ⟨g, 0, none⟩)) "Pop").run Try.prog W = .ok (81, .pointer (some ⟨g, 0, none⟩)) W := by kernel_rfl
theorem m_push (g : Nat) (W : World) : (method 218 56 (.pointer (some ⟨g, 0, none⟩)) "Push").run Try.prog W = .ok (82, .pointer (some ⟨g, 0, none⟩)) W := by kernel_rfl
theorem m_swap (g : Nat) (W : World) : (method 218 56 (.pointer (some ⟨g, 0, none⟩)) "Swap").run Try.prog W = .ok (83, .pointer (some ⟨g, 0, none⟩)) W := by kernel_rfl
theorem up_ok (g j n : Nat) (B a : Nat) (lf : Nat → Int) (tk : Int) (zs : List Int) (w : World) (h : QI w B a g lf tk zs) (hu : UpBut (kf lf) zs n j) (hj : j < n) (hn : n ≤ zs.length) (hm : zs.length ≤ 100) :
    Calls Try.prog 38 #[.iface 56 (.pointer (some ⟨g, 0, none⟩)), .int .i64 j] w fun e w' => e = .returned (.tuple #[]) ∧ ∃ zs', QI w' B a g lf tk zs' ∧ Fr a g w w' ∧ Heap (kf lf) zs' n ∧ zs'.Perm zs ∧ ∀ k, n ≤ k → el zs' k = el zs k := by
  have ml := m_less g
  have ms := m_swap g
  go_enter Try.func38, Try.ntmps38
  go_wp2_with fail
  go_loopw [1] (fun i wr => ∃ (k : Nat) (ys : List Int), i = .int .i64 k ∧ QI wr B a g lf tk ys ∧ Fr a g w wr ∧ UpBut (kf lf) ys n k ∧ k < n ∧ ys.Perm zs ∧ ∀ k, n ≤ k → el ys k = el zs k) (fun i _ => (intOf i).toNat)
  case atStart => exact ⟨j, zs, rfl, h, Fr.refl _ _ _, hu, hj, .refl _, fun _ _ => rfl⟩
  case round =>
    obtain ⟨k, ys, rfl, hq, hN, hu', hk, hp, he⟩ := hrel
    have hyl := hp.length_eq
    obtain ⟨p, hpk⟩ : ∃ p, p = (k - 1) / 2 := ⟨_, rfl⟩
    have hpi : ((k : Int) - 1).tdiv 2 = (p : Int) := by
      by_cases h0 : k = 0
      · subst h0; subst hpk; rfl
      · rw [Int.tdiv_eq_ediv_of_nonneg (by omega)]; omega
    have hkl : k < ys.length := by omega
    have hpl : p < ys.length := by omega
    have hp100 : p < 100 := by omega
    by_cases h0 : k = 0
    · have ht : ((p : Int) == (k : Int)) = true := by simp; omega
      have hh : Heap (kf lf) ys n := by subst h0; exact hu'.heap0
      clear h0 hpk
      go_wp2_with fail
      go_end0
      exact ⟨rfl, ys, hq, hN, hh, hp, he⟩
    · have ht : ((p : Int) == (k : Int)) = false := by simp; omega
      by_cases hlt : kf lf (el ys k) < kf lf (el ys p)
      · have hd : decide (kf lf (el ys k) < kf lf (el ys p)) = true := by simpa using hlt
        have hstep := hu'.step (by omega) hk (by omega) (by rw [← hpk]; exact hlt)
        rw [← hpk] at hstep
        have hpn : p < n := by omega
        have hpk' : p < k := by omega
        clear h0 hpk h hu
        go_wp2_with fail
        refine (qless k p B a g lf tk ys _ hq hkl hpl).mono ?_
        rintro e w1 ⟨rfl, rfl⟩
        go_wp2_with fail
        refine (qswap p k B a g lf tk ys _ hq.drew.drew hpl hkl).mono ?_
        rintro e w2 ⟨rfl, hq2, hN2⟩
        have hN3 := hN.drew.drew.trans hN2
        have hp3 := (swp_perm hpl hkl).trans hp
        have he3 : ∀ j, n ≤ j → el (swp ys p k) j = el zs j := fun j hj => by
          rw [el_swp hpl hkl, if_neg (by omega), if_neg (by omega)]; exact he j hj
        go_wp2_with fail
        go_roundw
        case rel => exact ⟨p, _, rfl, hq2, hN3, hstep, hpn, hp3, he3⟩
        case measure => simp [intOf]; omega
      · have hd : decide (kf lf (el ys k) < kf lf (el ys p)) = false := by simpa using hlt
        have hh : Heap (kf lf) ys n := hu'.heap (by rw [← hpk]; omega)
        clear h0 hpk h hu
        go_wp2_with fail
        refine (qless k p B a g lf tk ys _ hq hkl hpl).mono ?_
        rintro e w1 ⟨rfl, rfl⟩
        go_wp2_with fail
        go_end0
        exact ⟨rfl, ys, hq.drew.drew, hN.drew.drew, hh, hp, he⟩
theorem hany {lf : Nat → Int} {i0 k n : Nat} {zs ys : List Int} (h : (k = i0 ∧ ys = zs ∧ AnyBut (kf lf) ys n k) ∨ (i0 < k ∧ DownBut (kf lf) ys n k)) : AnyBut (kf lf) ys n k := by
  rcases h with ⟨_, _, h⟩ | ⟨_, h⟩
  · exact h
  · exact h.any
theorem fin_ {lf : Nat → Int} {i0 k n : Nat} {zs ys : List Int} (h : (k = i0 ∧ ys = zs ∧ AnyBut (kf lf) ys n k) ∨ (i0 < k ∧ DownBut (kf lf) ys n k)) (hc : ∀ i, 0 < i → i < n → (i - 1) / 2 = k → kf lf (el ys k) ≤ kf lf (el ys i)) :
    (decide (i0 < k) = false ∧ ys = zs ∧ UpBut (kf lf) zs n i0) ∨ (decide (i0 < k) = true ∧ Heap (kf lf) ys n) := by
  rcases h with ⟨rfl, rfl, h⟩ | ⟨h0, h⟩
  · exact .inl ⟨by simp, rfl, h.up hc⟩
  · exact .inr ⟨by simpa using h0, h.heap hc⟩
set_option maxHeartbeats 20000000 in
theorem down_ok (g i0 n : Nat) (B a : Nat) (lf : Nat → Int) (tk : Int) (zs : List Int) (w : World) (h : QI w B a g lf tk zs) (ha : AnyBut (kf lf) zs n i0) (hi : i0 ≤ n) (hn : n ≤ zs.length) (hm : zs.length ≤ 100) :
    Calls Try.prog 39 #[.iface 56 (.pointer (some ⟨g, 0, none⟩)), .int .i64 i0, .int .i64 n] w fun e w' => ∃ b zs', e = .returned (.bool b) ∧ QI w' B a g lf tk zs' ∧ Fr a g w w' ∧ zs'.Perm zs ∧ (∀ k, n ≤ k → el zs' k = el zs k) ∧
      ((b = false ∧ zs' = zs ∧ UpBut (kf lf) zs n i0) ∨ (b = true ∧ Heap (kf lf) zs' n)) := by
  have ml := m_less g
  have ms := m_swap g
  go_enter Try.func39, Try.ntmps39
  go_wp2_with fail
  go_loopw [7] (fun i wr => ∃ (k : Nat) (ys : List Int), i = .int .i64 k ∧ QI wr B a g lf tk ys ∧ Fr a g w wr ∧ ys.Perm zs ∧ (∀ k, n ≤ k → el ys k = el zs k) ∧ k ≤ n ∧ ((k = i0 ∧ ys = zs ∧ AnyBut (kf lf) ys n k) ∨ (i0 < k ∧ DownBut (kf lf) ys n k))) (fun i _ => n - (intOf i).toNat)
  case atStart => exact ⟨i0, zs, rfl, h, Fr.refl _ _ _, .refl _, fun _ _ => rfl, hi, .inl ⟨rfl, rfl, ha⟩⟩
  case round =>
    obtain ⟨k, ys, rfl, hq, hN, hp, he, hkn, hinv⟩ := hrel
    have hyl := hp.length_eq
    obtain ⟨J1, hJ⟩ : ∃ J1 : Nat, J1 = 2 * k + 1 := ⟨_, rfl⟩
    obtain ⟨J2, hJ2⟩ : ∃ J2 : Nat, J2 = J1 + 1 := ⟨_, rfl⟩
    have hj1 : 2 * (k : Int) + 1 = (J1 : Int) := by omega
    have hj2 : (J1 : Int) + 1 = (J2 : Int) := by omega
    have hb1 : J2 < 300 := by omega
    have hik : i0 ≤ k := by omega
    have hz1 : decide ((J1 : Int) < 0) = false := by simp
    by_cases hA : n ≤ J1
    · have hA' : decide ((n : Int) ≤ (J1 : Int)) = true := by simpa using hA
      have hf := fin_ hinv (fun i _ _ _ => by omega)
      clear hinv h ha hJ hJ2 hi hik
      go_wp2_with fail
      go_ret
      exact ⟨_, ys, rfl, hq, hN, hp, he, hf⟩
    · have hA' : decide ((n : Int) ≤ (J1 : Int)) = false := by simp; omega
      have hAn : decide (n ≤ J1) = false := by simp; omega
      have hkl : k < ys.length := by omega
      by_cases hB : J2 < n ∧ kf lf (el ys J2) < kf lf (el ys J1)
      · have hB1 : decide ((J2 : Int) < (n : Int)) = true := by simp; omega
        have hB1n : decide (J2 < n) = true := by simp; omega
        have hB2 : decide (kf lf (el ys J2) < kf lf (el ys J1)) = true := by simpa using hB.2
        have hmin : ∀ i, 0 < i → i < n → (i - 1) / 2 = k → kf lf (el ys J2) ≤ kf lf (el ys i) := fun i a b e => by
          rcases (show i = J1 ∨ i = J2 by omega) with rfl | rfl
          · omega
          · exact Int.le_refl _
        have hc1 : (J2 - 1) / 2 = k := by omega
        have hcn : J2 < n := hB.1
        have hcl : J2 < ys.length := by omega
        clear hB hA
        by_cases hlt : kf lf (el ys J2) < kf lf (el ys k)
        · have hd : decide (kf lf (el ys J2) < kf lf (el ys k)) = true := by simpa using hlt
          have hstep := (hany hinv).step hc1 (by omega) hcn (by omega) hlt hmin
          have hp3 := (swp_perm hkl hcl).trans hp
          have he3 : ∀ j, n ≤ j → el (swp ys k J2) j = el zs j := fun j hj => by
            rw [el_swp hkl hcl, if_neg (by omega), if_neg (by omega)]; exact he j hj
          have hkc : k < J2 := by omega
          have hi0 : i0 < J2 := by omega
          clear hlt hmin hinv h ha hc1 hik hJ hJ2
          go_wp2_with fail
          refine (qless J2 J1 B a g lf tk ys _ hq (by omega) (by omega)).mono ?_
          rintro e w1 ⟨rfl, rfl⟩
          go_wp2_with fail
          refine (qless J2 k B a g lf tk ys _ hq.drew.drew hcl hkl).mono ?_
          rintro e w1 ⟨rfl, rfl⟩
          go_wp2_with fail
          refine (qswap k J2 B a g lf tk ys _ hq.drew.drew.drew.drew hkl hcl).mono ?_
          rintro e w2 ⟨rfl, hq2, hN2⟩
          have hN3 := hN.drew.drew.drew.drew.trans hN2
          go_wp2_with fail
          go_roundw
          case rel => exact ⟨J2, _, rfl, hq2, hN3, hp3, he3, by omega, .inr ⟨hi0, hstep⟩⟩
          case measure => simp [intOf]; omega
        · have hd : decide (kf lf (el ys J2) < kf lf (el ys k)) = false := by simpa using hlt
          have hf := fin_ hinv (fun i a b e => Int.le_trans (show kf lf (el ys k) ≤ kf lf (el ys J2) by omega) (hmin i a b e))
          clear hlt hmin hinv h ha hc1 hik hJ hJ2
          go_wp2_with fail
          refine (qless J2 J1 B a g lf tk ys _ hq (by omega) (by omega)).mono ?_
          rintro e w1 ⟨rfl, rfl⟩
          go_wp2_with fail
          refine (qless J2 k B a g lf tk ys _ hq.drew.drew hcl hkl).mono ?_
          rintro e w1 ⟨rfl, rfl⟩
          go_wp2_with fail
          go_ret
          exact ⟨_, ys, rfl, hq.drew.drew.drew.drew, hN.drew.drew.drew.drew, hp, he, hf⟩
      · by_cases hB0 : J2 < n
        · have hB1 : decide ((J2 : Int) < (n : Int)) = true := by simp; omega
          have hB1n : decide (J2 < n) = true := by simp; omega
          have hB3 : ¬ (kf lf (el ys J2) < kf lf (el ys J1)) := fun e => hB ⟨hB0, e⟩
          have hB2 : decide (kf lf (el ys J2) < kf lf (el ys J1)) = false := by simpa using hB3
          have hmin : ∀ i, 0 < i → i < n → (i - 1) / 2 = k → kf lf (el ys J1) ≤ kf lf (el ys i) := fun i a b e => by
            rcases (show i = J1 ∨ i = J2 by omega) with rfl | rfl
            · exact Int.le_refl _
            · omega
          have hc1 : (J1 - 1) / 2 = k := by omega
          have hcn : J1 < n := by omega
          have hcl : J1 < ys.length := by omega
          clear hB hA hB3
          by_cases hlt : kf lf (el ys J1) < kf lf (el ys k)
          · have hd : decide (kf lf (el ys J1) < kf lf (el ys k)) = true := by simpa using hlt
            have hstep := (hany hinv).step hc1 (by omega) hcn (by omega) hlt hmin
            have hp3 := (swp_perm hkl hcl).trans hp
            have he3 : ∀ j, n ≤ j → el (swp ys k J1) j = el zs j := fun j hj => by
              rw [el_swp hkl hcl, if_neg (by omega), if_neg (by omega)]; exact he j hj
            have hkc : k < J1 := by omega
            have hi0 : i0 < J1 := by omega
            clear hlt hmin hinv h ha hc1 hik hJ hJ2
            go_wp2_with fail
            refine (qless J2 J1 B a g lf tk ys _ hq (by omega) (by omega)).mono ?_
            rintro e w1 ⟨rfl, rfl⟩
            go_wp2_with fail
            refine (qless J1 k B a g lf tk ys _ hq.drew.drew hcl hkl).mono ?_
            rintro e w1 ⟨rfl, rfl⟩
            go_wp2_with fail
            refine (qswap k J1 B a g lf tk ys _ hq.drew.drew.drew.drew hkl hcl).mono ?_
            rintro e w2 ⟨rfl, hq2, hN2⟩
            have hN3 := hN.drew.drew.drew.drew.trans hN2
            go_wp2_with fail
            go_roundw
            case rel => exact ⟨J1, _, rfl, hq2, hN3, hp3, he3, by omega, .inr ⟨hi0, hstep⟩⟩
            case measure => simp [intOf]; omega
          · have hd : decide (kf lf (el ys J1) < kf lf (el ys k)) = false := by simpa using hlt
            have hf := fin_ hinv (fun i a b e => Int.le_trans (show kf lf (el ys k) ≤ kf lf (el ys J1) by omega) (hmin i a b e))
            clear hlt hmin hinv h ha hc1 hik hJ hJ2
            go_wp2_with fail
            refine (qless J2 J1 B a g lf tk ys _ hq (by omega) (by omega)).mono ?_
            rintro e w1 ⟨rfl, rfl⟩
            go_wp2_with fail
            refine (qless J1 k B a g lf tk ys _ hq.drew.drew hcl hkl).mono ?_
            rintro e w1 ⟨rfl, rfl⟩
            go_wp2_with fail
            go_ret
            exact ⟨_, ys, rfl, hq.drew.drew.drew.drew, hN.drew.drew.drew.drew, hp, he, hf⟩
        · have hB1 : decide ((J2 : Int) < (n : Int)) = false := by simp; omega
          have hB1n : decide (J2 < n) = false := by simp; omega
          have hmin : ∀ i, 0 < i → i < n → (i - 1) / 2 = k → kf lf (el ys J1) ≤ kf lf (el ys i) := fun i a b e => by
            obtain rfl : i = J1 := by omega
            exact Int.le_refl _
          have hc1 : (J1 - 1) / 2 = k := by omega
          have hcn : J1 < n := by omega
          have hcl : J1 < ys.length := by omega
          clear hB hA hB0
          by_cases hlt : kf lf (el ys J1) < kf lf (el ys k)
          · have hd : decide (kf lf (el ys J1) < kf lf (el ys k)) = true := by simpa using hlt
            have hstep := (hany hinv).step hc1 (by omega) hcn (by omega) hlt hmin
            have hp3 := (swp_perm hkl hcl).trans hp
            have he3 : ∀ j, n ≤ j → el (swp ys k J1) j = el zs j := fun j hj => by
              rw [el_swp hkl hcl, if_neg (by omega), if_neg (by omega)]; exact he j hj
            have hkc : k < J1 := by omega
            have hi0 : i0 < J1 := by omega
            clear hlt hmin hinv h ha hc1 hik hJ hJ2
            go_wp2_with fail
            refine (qless J1 k B a g lf tk ys _ hq hcl hkl).mono ?_
            rintro e w1 ⟨rfl, rfl⟩
            go_wp2_with fail
            refine (qswap k J1 B a g lf tk ys _ hq.drew.drew hkl hcl).mono ?_
            rintro e w2 ⟨rfl, hq2, hN2⟩
            have hN3 := hN.drew.drew.trans hN2
            go_wp2_with fail
            go_roundw
            case rel => exact ⟨J1, _, rfl, hq2, hN3, hp3, he3, by omega, .inr ⟨hi0, hstep⟩⟩
            case measure => simp [intOf]; omega
          · have hd : decide (kf lf (el ys J1) < kf lf (el ys k)) = false := by simpa using hlt
            have hf := fin_ hinv (fun i a b e => Int.le_trans (show kf lf (el ys k) ≤ kf lf (el ys J1) by omega) (hmin i a b e))
            clear hlt hmin hinv h ha hc1 hik hJ hJ2
            go_wp2_with fail
            refine (qless J1 k B a g lf tk ys _ hq hcl hkl).mono ?_
            rintro e w1 ⟨rfl, rfl⟩
            go_wp2_with fail
            go_ret
            exact ⟨_, ys, rfl, hq.drew.drew, hN.drew.drew, hp, he, hf⟩
end Go.Proofs.Ytbmpocalapgmjac
