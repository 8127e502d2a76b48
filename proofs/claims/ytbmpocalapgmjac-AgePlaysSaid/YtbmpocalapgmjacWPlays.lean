/- The walk of the law AgePlays. -/
import Derived.Test.YtbmpocalapgmjacAPair
namespace Go.Proofs.Ytbmpocalapgmjac.agePlays
open Go.RowKit
set_option linter.unusedVariables false
/-- a slice of acts that came in -/
def ActRow (w : World) (A : Option Addr) (len : Nat) : Prop :=
  len = 0 ∨ ∃ b off, A = some ⟨b, off, none⟩ ∧ b < w.heap.size ∧ ∀ i, i < len → ∃ (k l : Int), w.cell? ⟨b, off + i * 2, none⟩ = some (.int .i64 k) ∧ w.cell? ⟨b, off + i * 2 + 1, none⟩ = some (.int .i64 l)
set_option maxRecDepth 100000 in
set_option maxHeartbeats 4000000 in
theorem walk (a0 : Option Addr) (len0 cap0 : Nat) (w : World) (h1 : ActRow w a0 len0) (hm1 : len0 ≤ 9223372036854775807) :
    Calls Try.prog 3 #[.slice a0 len0 cap0] w fun e w' => e = .returned (.bool true) ∧ Below w.heap.size w w' := by
  by_cases hl : len0 ≤ 200
  · obtain ⟨a, hg⟩ : ∃ a, a = w.heap.size := ⟨_, rfl⟩
    have hnew := anew_ok w
    rw [← hg] at hnew ⊢
    have HG := Lib.hid hg
    clear hg
    go_enter Try.func3, Try.ntmps3
    go_wp2_with fail
    refine hnew.mono ?_
    rintro e w1 ⟨rfl, hA, hb⟩
    have haw : a ≤ w1.heap.size := by have := HG.out; have := hb.size; omega
    obtain ⟨hA2, hR2, hS2⟩ := pair_start hA haw
    have hb2 := hb.alloc haw (.cells #[.slice none 0 0] 28)
    obtain ⟨x, hx⟩ : ∃ x, x = w1.heap.size := ⟨_, rfl⟩
    rw [← hx] at hR2 hS2
    have HX := Lib.hid hx
    clear hnew hA hb hx haw
    go_wp2_with fail
    rw [← HX.out]
    clear HX
    go_loopw [5] (fun i wr => ∃ (k : Nat) (M : List Int), i = .int .i64 k ∧ k ≤ len0 ∧ AI wr a a (a + 1) k M ∧ RL wr a x M ∧ Sep wr a (a + 1) x ∧ Below a w wr) (fun i _ => len0 - (intOf i).toNat)
    case atStart => exact ⟨0, [], rfl, by omega, hA2, hR2, hS2, hb2⟩
    case round =>
      obtain ⟨k, M, rfl, hk, hA0, hR0, hS0, hb0⟩ := hrel
      clear hA2 hR2 hS2 hb2
      by_cases hlt : k < len0
      · obtain ⟨b, off, rfl, hbl, hcs⟩ := h1.resolve_left (by omega)
        obtain ⟨kd, sl, k0, k1⟩ := hcs k hlt
        have hba : b < a := by rw [HG.out]; exact hbl
        have j0 := (hb0.cell hba).trans k0
        have hi0 : (0 : Int) ≤ (k : Int) := by omega
        have hi1 : (k : Int) < (len0 : Int) := by omega
        have haw : a ≤ w.heap.size := by have := HG.out; omega
        have hnd := hA0.nodup
        have hlen := hA0.len
        clear hcs h1
        by_cases hkd : kd = 1
        · subst hkd
          go_wp2_with fail
          have hA := hA0.drew
          have hR := hR0.drew
          have hS : Sep wr.drew a (a + 1) x := hS0
          have hb := hb0.drew
          clear j0 hA0 hR0 hS0 hb0
          go_region_held3 (fun w' => w'.cell? ⟨b, off + k * 2 + 1, none⟩ = some (.int .i64 sl))
            (exact (hb.cell hba).trans k1)
            (first | (go_at_call 10; refine (touch_any a a (a + 1) k sl M _ hA (Nat.le_trans haw hb.size) (by omega)).mono ?_; rintro e w8 ⟨rfl, hA', hF'⟩; have hX := sep_age hA hR hS hF'; replace hb := hb.trans (hA.below hF' (Nat.le_trans haw hb.size)); replace hA := hA'; replace hR := hX.1; replace hS := hX.2) | (go_at_call 11; refine (rtouch_any a x sl M _ hR hnd (Nat.le_trans haw hb.size) (by omega)).mono ?_; rintro e w9 ⟨rfl, hR', hF2'⟩; have hX2 := sep_ref hA hR hS hF2'; replace hb := hb.trans (hR.below hF2' (Nat.le_trans haw hb.size)); replace hA := hX2.1; replace hR := hR'; replace hS := hX2.2))
          obtain ⟨M', hM'⟩ : ∃ M', M' = tc sl M := ⟨_, rfl⟩
          rw [← hM'] at hA hR
          clear hM' hX hX2 hA' hF' hR' hF2' hnd hlen
          have hAnd := hA.nodup
          obtain ⟨wq, hwq⟩ : ∃ wq : World, wq = w9 := ⟨_, rfl⟩
          have hold := old_ok a a (a + 1) (k + 1) M' w9 hA
          have hrold := rold_ok a x M' w9 hR
          have hR1' := hR
          obtain ⟨A, cap, hxb, _⟩ := hR1'
          have c0 : w9.cell? ⟨x, 0, none⟩ = some (.slice A M'.length cap) := hxb.cell_ 0 rfl
          have lx := hxb.lt
          obtain ⟨m, hm⟩ : ∃ m, m = om M' := ⟨_, rfl⟩
          obtain ⟨bb, hbb⟩ : ∃ bb : Bool, bb = !decide (M' = []) := ⟨_, rfl⟩
          rw [← hm, ← hbb] at hold hrold
          clear hm hbb hxb hwq
          go_wp2_with fail
          refine hold.mono ?_
          rintro e w10 ⟨rfl, rfl⟩
          go_wp2_with fail
          refine hrold.mono ?_
          rintro e w10 ⟨rfl, rfl⟩
          clear hold hrold
          go_wp2_with fail
          go_region_held3 (fun w' => w'.cell? ⟨x, 0, none⟩ = some (.slice A M'.length cap))
            (first | exact c0 | go_keep)
            (first | (go_at_call 16; refine (alen_ok a a (a + 1) (k + 1) M' _ hA.drew).mono ?_; rintro e w10 ⟨rfl, rfl⟩))
          go_wp2_with fail
          go_roundw
          case rel => exact ⟨k + 1, M', by go_num, by omega, hA.drew, hR.drew, hS, hb.drew⟩
          case measure => simp [intOf]; omega
        · have hkd' : (kd == 1) = false := by simpa using hkd
          clear hkd
          go_wp2_with fail
          have hA := hA0.drew
          have hR := hR0.drew
          have hS : Sep wr.drew a (a + 1) x := hS0
          have hb := hb0.drew
          clear j0 hA0 hR0 hS0 hb0
          go_region_held3 (fun w' => w'.cell? ⟨b, off + k * 2 + 1, none⟩ = some (.int .i64 sl))
            (exact (hb.cell hba).trans k1)
            (first | (go_at_call 12; refine (drop_ok a a (a + 1) k M sl _ hA).mono ?_; rintro e w8 ⟨rfl, hA', hF'⟩; have hX := sep_age hA hR hS hF'; replace hb := hb.trans (hA.below hF' (Nat.le_trans haw hb.size)); replace hA := hA'; replace hR := hX.1; replace hS := hX.2) | (go_at_call 13; refine (rdrop_ok a x M sl _ hR hnd (Nat.le_trans haw hb.size) (by omega)).mono ?_; rintro e w9 ⟨rfl, hR', hF2'⟩; have hX2 := sep_ref hA hR hS hF2'; replace hb := hb.trans (hR.below hF2' (Nat.le_trans haw hb.size)); replace hA := hX2.1; replace hR := hR'; replace hS := hX2.2))
          obtain ⟨M', hM'⟩ : ∃ M', M' = dl sl M := ⟨_, rfl⟩
          rw [← hM'] at hA hR
          replace hA := hA.mono (Nat.le_succ k)
          clear hM' hX hX2 hA' hF' hR' hF2' hnd hlen
          have hAnd := hA.nodup
          obtain ⟨wq, hwq⟩ : ∃ wq : World, wq = w9 := ⟨_, rfl⟩
          have hold := old_ok a a (a + 1) (k + 1) M' w9 hA
          have hrold := rold_ok a x M' w9 hR
          have hR1' := hR
          obtain ⟨A, cap, hxb, _⟩ := hR1'
          have c0 : w9.cell? ⟨x, 0, none⟩ = some (.slice A M'.length cap) := hxb.cell_ 0 rfl
          have lx := hxb.lt
          obtain ⟨m, hm⟩ : ∃ m, m = om M' := ⟨_, rfl⟩
          obtain ⟨bb, hbb⟩ : ∃ bb : Bool, bb = !decide (M' = []) := ⟨_, rfl⟩
          rw [← hm, ← hbb] at hold hrold
          clear hm hbb hxb hwq
          go_wp2_with fail
          refine hold.mono ?_
          rintro e w10 ⟨rfl, rfl⟩
          go_wp2_with fail
          refine hrold.mono ?_
          rintro e w10 ⟨rfl, rfl⟩
          clear hold hrold
          go_wp2_with fail
          go_region_held3 (fun w' => w'.cell? ⟨x, 0, none⟩ = some (.slice A M'.length cap))
            (first | exact c0 | go_keep)
            (first | (go_at_call 16; refine (alen_ok a a (a + 1) (k + 1) M' _ hA.drew).mono ?_; rintro e w10 ⟨rfl, rfl⟩))
          go_wp2_with fail
          go_roundw
          case rel => exact ⟨k + 1, M', by go_num, by omega, hA.drew, hR.drew, hS, hb.drew⟩
          case measure => simp [intOf]; omega
      · obtain rfl : k = len0 := by omega
        have hdk : decide ((k : Int) < (k : Int)) = false := by simp
        clear h1
        go_wp2_with fail
        refine (known_ok _).mono ?_
        rintro e w5 ⟨rfl, hb5⟩
        have hb6 := hb0.trans (hb5.mono (by have := HG.out; have := hb0.size; omega))
        go_wp2_with fail
        go_ret
        exact ⟨rfl, hb6⟩
  · have hgt : (200 : Int) < (len0 : Int) := by omega
    clear h1
    go_enter Try.func3, Try.ntmps3
    go_wp2_with fail
    go_ret
    exact ⟨rfl, Below.refl _ _⟩
end Go.Proofs.Ytbmpocalapgmjac.agePlays
