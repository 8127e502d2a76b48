/- The walk of the law IndexPlays. -/
import Derived.Test.YtbmpocalapgmjacIPair
import Derived.Deep.RegionHeld3
namespace Go.Proofs.Ytbmpocalapgmjac.indexPlays
open Go.RowKit index
set_option linter.unusedVariables false
/-- a slice of acts that came in -/
def ActRow (w : World) (A : Option Addr) (len : Nat) : Prop :=
  len = 0 ∨ ∃ b off, A = some ⟨b, off, none⟩ ∧ b < w.heap.size ∧ ∀ i, i < len → ∃ (k l s : Int), w.cell? ⟨b, off + i * 3, none⟩ = some (.int .i64 k) ∧ w.cell? ⟨b, off + i * 3 + 1, none⟩ = some (.int .i64 l) ∧
    w.cell? ⟨b, off + i * 3 + 2, none⟩ = some (.int .i64 s) ∧ (Lit.int .i64 l).wf = true
set_option maxRecDepth 100000 in
set_option maxHeartbeats 4000000 in
theorem walk (a0 : Option Addr) (len0 cap0 : Nat) (w : World) (h1 : ActRow w a0 len0) (hm1 : len0 ≤ 9223372036854775807) :
    Calls Try.prog 7 #[.slice a0 len0 cap0] w fun e w' => e = .returned (.bool true) ∧ Below w.heap.size w w' := by
  by_cases hl : len0 ≤ 200
  · go_enter Try.func7, Try.ntmps7
    go_wp2_with fail
    refine (new_st w).mono ?_
    rintro e w1 ⟨rfl, s1⟩
    have hP := pair_start s1
    obtain ⟨b, hb⟩ : ∃ b, b = w.heap.size := ⟨_, rfl⟩
    rw [← hb] at hP ⊢
    obtain ⟨q, hq⟩ : ∃ q, q = w1.heap.size := ⟨_, rfl⟩
    rw [← hq] at hP
    have HB := Lib.hid hb
    have HQ := Lib.hid hq
    clear hb hq s1
    go_wp2_with fail
    rw [← HQ.out]
    clear HQ
    go_loopw [5, 6, 7, 8, 9, 10] (fun i _ _ _ _ _ wr => ∃ (k : Nat) (S : Nat → Int), i = .int .i64 k ∧ k ≤ len0 ∧ PP w wr b (b + 1) q k S S) (fun i _ _ _ _ _ _ => len0 - (intOf i).toNat)
    case atStart => exact ⟨0, _, rfl, by omega, hP⟩
    case round =>
      obtain ⟨k, S, rfl, hk, hP0⟩ := hrel
      clear hP
      by_cases hlt : k < len0
      · obtain ⟨rb, off, rfl, hbl, hcs⟩ := h1.resolve_left (by omega)
        obtain ⟨kd, lb, sv, k0, k1, k2, hwf⟩ := hcs k hlt
        have hb0 := hP0.1.bel
        have j0 := (hb0.cell (p := ⟨rb, off + k * 3, none⟩) hbl).trans k0
        have j1 := (hb0.cell (p := ⟨rb, off + k * 3 + 1, none⟩) hbl).trans k1
        have j2 := (hb0.cell (p := ⟨rb, off + k * 3 + 2, none⟩) hbl).trans k2
        have hi0 : (0 : Int) ≤ (k : Int) := by omega
        have hi1 : (k : Int) < (len0 : Int) := by omega
        clear hcs h1 k0 k1 k2
        have hB0 := Blk.new wr 51 #[.int .i64 kd, .int .i64 lb, .int .i64 sv]
        have hPa := hP0.below_ ((Below.refl _ wr).alloc (Nat.le_refl _) (.cells #[.int .i64 kd, .int .i64 lb, .int .i64 sv] 51))
        have nb : wr.heap.size ≠ b := by have := hP0.1.1.ltb; omega
        have nq : wr.heap.size ≠ q := by have := hP0.2.1.1.lt; omega
        obtain ⟨c, hcc⟩ : ∃ c, c = wr.heap.size := ⟨_, rfl⟩
        rw [← hcc] at hB0 nb nq
        clear hP0 hb0
        by_cases hkd : kd = 1
        · subst hkd
          go_wp2_with fail
          rw [← hcc]
          clear hcc j0 j1 j2
          have hP := hPa.drew
          have hB := hB0.drew
          clear hPa hB0
          have hbb : (pb S lb sv != pb S lb sv) = false := by simp
          go_region_held3 (fun w' => w'.cell? ⟨c, 1, none⟩ = some (.int .i64 lb) ∧ w'.cell? ⟨c, 2, none⟩ = some (.int .i64 sv))
            (exact ⟨hB.cell_ 1 rfl, hB.cell_ 2 rfl⟩)
            (first | (go_at_call 19; refine (put_p w b (b + 1) q _ _ _ lb sv _ hP (by omega)).mono ?_; rintro e w8 ⟨rfl, hP', hK'⟩; replace hB := Blk.kp hB hK' nb nq; replace hP := hP'; clear hP' hK') | (go_at_call 24; refine (rput_p w b (b + 1) q _ _ _ lb sv _ hP).mono ?_; rintro e w9 ⟨rfl, hP', hK'⟩; replace hB := Blk.kp hB hK' nb nq; replace hP := hP'; clear hP' hK'))
          obtain ⟨S2, hS2⟩ : ∃ S2, S2 = pS S lb sv := ⟨_, rfl⟩
          rw [← hS2] at hP
          clear hS2 hB
          have hxs := slots_p w b (b + 1) q _ S2 S2 _ hP
          obtain ⟨L, hL⟩ : ∃ L, L = sl S2 := ⟨_, rfl⟩
          rw [← hL] at hxs
          have HL := Lib.hid hL
          clear hL
          go_wp2_with fail
          refine hxs.mono ?_
          rintro e w10 ⟨A1, c1, rfl, hP1, n1, I1, _⟩
          have hys := rslots_p w b (b + 1) q _ S2 S2 _ hP1
          rw [← HL.out] at hys
          clear hxs hP
          go_wp2_with fail
          refine hys.mono ?_
          rintro e w11 ⟨A2, c2, rfl, hP2, _, I2, hb2⟩
          have hsm := same_ok A1 A2 L.length c1 c2 _ _ n1 (I1.below_ hb2) I2
          clear hys hP1 I1 I2 hb2
          go_wp2_with fail
          refine hsm.mono ?_
          rintro e w12 ⟨rfl, hb3⟩
          have hP3 := hP2.below_ hb3
          have hln := ilen_ok b (b + 1) _ S2 _ hP3.1.1
          rw [← sl_len hP3.1.1.bnd, ← HL.out] at hln
          clear hsm hP2 hb3
          go_wp2_with fail
          refine hln.mono ?_
          rintro e w13 ⟨rfl, rfl⟩
          have hys := rslots_p w b (b + 1) q _ S2 S2 _ hP3
          rw [← HL.out] at hys
          clear hln hP3
          go_wp2_with fail
          refine hys.mono ?_
          rintro e w14 ⟨A3, c3, rfl, hP4, _, _, _⟩
          clear hys
          go_wp2_with fail
          go_roundw
          case rel => exact ⟨k + 1, S2, by go_num, by omega, hP4⟩
          case measure => simp [intOf]; omega
        · by_cases hkd2 : kd = 2
          · subst hkd2
            clear hkd
            go_wp2_with fail
            rw [← hcc]
            clear hcc j0 j1 j2
            have hP := hPa.drew
            have hB := hB0.drew
            clear hPa hB0
            have hbb : (gb S lb != gb S lb) = false := by simp
            go_region_held3 (fun w' => w'.cell? ⟨c, 1, none⟩ = some (.int .i64 lb))
              (exact hB.cell_ 1 rfl)
              (first | (go_at_call 25; refine (del_p w b (b + 1) q _ _ _ lb _ hP hwf).mono ?_; rintro e w8 ⟨rfl, hP', hK'⟩; replace hB := Blk.kp hB hK' nb nq; replace hP := hP'; clear hP' hK') | (go_at_call 26; refine (rdel_p w b (b + 1) q _ _ _ lb _ hP).mono ?_; rintro e w9 ⟨rfl, hP', hK'⟩; replace hB := Blk.kp hB hK' nb nq; replace hP := hP'; clear hP' hK'))
            obtain ⟨S2, hS2⟩ : ∃ S2, S2 = dS S lb := ⟨_, rfl⟩
            rw [← hS2] at hP
            clear hS2 hB
            have hxs := slots_p w b (b + 1) q _ S2 S2 _ hP
            obtain ⟨L, hL⟩ : ∃ L, L = sl S2 := ⟨_, rfl⟩
            rw [← hL] at hxs
            have HL := Lib.hid hL
            clear hL
            go_wp2_with fail
            refine hxs.mono ?_
            rintro e w10 ⟨A1, c1, rfl, hP1, n1, I1, _⟩
            have hys := rslots_p w b (b + 1) q _ S2 S2 _ hP1
            rw [← HL.out] at hys
            clear hxs hP
            go_wp2_with fail
            refine hys.mono ?_
            rintro e w11 ⟨A2, c2, rfl, hP2, _, I2, hb2⟩
            have hsm := same_ok A1 A2 L.length c1 c2 _ _ n1 (I1.below_ hb2) I2
            clear hys hP1 I1 I2 hb2
            go_wp2_with fail
            refine hsm.mono ?_
            rintro e w12 ⟨rfl, hb3⟩
            have hP3 := hP2.below_ hb3
            have hln := ilen_ok b (b + 1) _ S2 _ hP3.1.1
            rw [← sl_len hP3.1.1.bnd, ← HL.out] at hln
            clear hsm hP2 hb3
            go_wp2_with fail
            refine hln.mono ?_
            rintro e w13 ⟨rfl, rfl⟩
            have hys := rslots_p w b (b + 1) q _ S2 S2 _ hP3
            rw [← HL.out] at hys
            clear hln hP3
            go_wp2_with fail
            refine hys.mono ?_
            rintro e w14 ⟨A3, c3, rfl, hP4, _, _, _⟩
            clear hys
            go_wp2_with fail
            go_roundw
            case rel => exact ⟨k + 1, S2, by go_num, by omega, hP4.mono (Nat.le_succ k)⟩
            case measure => simp [intOf]; omega
          · have e1 : (kd == 1) = false := by simpa using hkd
            have e2 : (kd == 2) = false := by simpa using hkd2
            clear hkd hkd2
            have hget := iget_ok b (b + 1) k S lb _ hPa.1.1 hwf
            have hrget := rget_ok q S lb _ hPa.2.1
            have hbb : (gb S lb != gb S lb) = false := by simp
            have hvv : (gv S lb != gv S lb) = false := by simp
            go_wp2_with fail
            refine hget.mono ?_
            rintro e w8 ⟨rfl, rfl⟩
            have hB1 : (wr.alloc (.cells #[.int .i64 kd, .int .i64 lb, .int .i64 sv] 51)).cell? ⟨wr.heap.size, 1, none⟩ = some (.int .i64 lb) := by rw [← hcc]; exact hB0.cell_ 1 rfl
            clear hget
            go_wp2_with fail
            refine hrget.mono ?_
            rintro e w8 ⟨rfl, rfl⟩
            clear hrget hcc j0 j1 j2
            have hP := hPa
            have hB := hB0
            clear hPa hB0 hB1
            obtain ⟨S2, hS2⟩ : ∃ S2, S2 = S := ⟨_, rfl⟩
            rw [← hS2] at hP
            clear hS2 hB
            have hxs := slots_p w b (b + 1) q _ S2 S2 _ hP
            obtain ⟨L, hL⟩ : ∃ L, L = sl S2 := ⟨_, rfl⟩
            rw [← hL] at hxs
            have HL := Lib.hid hL
            clear hL
            go_wp2_with fail
            refine hxs.mono ?_
            rintro e w10 ⟨A1, c1, rfl, hP1, n1, I1, _⟩
            have hys := rslots_p w b (b + 1) q _ S2 S2 _ hP1
            rw [← HL.out] at hys
            clear hxs hP
            go_wp2_with fail
            refine hys.mono ?_
            rintro e w11 ⟨A2, c2, rfl, hP2, _, I2, hb2⟩
            have hsm := same_ok A1 A2 L.length c1 c2 _ _ n1 (I1.below_ hb2) I2
            clear hys hP1 I1 I2 hb2
            go_wp2_with fail
            refine hsm.mono ?_
            rintro e w12 ⟨rfl, hb3⟩
            have hP3 := hP2.below_ hb3
            have hln := ilen_ok b (b + 1) _ S2 _ hP3.1.1
            rw [← sl_len hP3.1.1.bnd, ← HL.out] at hln
            clear hsm hP2 hb3
            go_wp2_with fail
            refine hln.mono ?_
            rintro e w13 ⟨rfl, rfl⟩
            have hys := rslots_p w b (b + 1) q _ S2 S2 _ hP3
            rw [← HL.out] at hys
            clear hln hP3
            go_wp2_with fail
            refine hys.mono ?_
            rintro e w14 ⟨A3, c3, rfl, hP4, _, _, _⟩
            clear hys
            go_wp2_with fail
            go_roundw
            case rel => exact ⟨k + 1, S2, by go_num, by omega, hP4.mono (Nat.le_succ k)⟩
            case measure => simp [intOf]; omega
      · obtain rfl : k = len0 := by omega
        have hdk : decide ((k : Int) < (k : Int)) = false := by simp
        clear h1
        go_wp2_with fail
        refine (known_ok _).mono ?_
        rintro e w5 ⟨rfl, hb5⟩
        have hb0 := hP0.1.bel
        have hb6 := hb0.trans (hb5.mono hb0.size)
        go_wp2_with fail
        go_ret
        exact ⟨rfl, hb6⟩
  · have hgt : (200 : Int) < (len0 : Int) := by omega
    clear h1
    go_enter Try.func7, Try.ntmps7
    go_wp2_with fail
    go_ret
    exact ⟨rfl, Below.refl _ _⟩
end Go.Proofs.Ytbmpocalapgmjac.indexPlays
