/- The walk of the law AgeOrder. -/
import Derived.Test.YtbmpocalapgmjacAPair
namespace Go.Proofs.Ytbmpocalapgmjac.ageOrder
open Go.RowKit
set_option linter.unusedVariables false
set_option maxHeartbeats 2000000 in
theorem walk (a0 : Option Addr) (len0 cap0 : Nat) (z0 : List Int) (w : World) (h0 : IsRow .i64 w a0 len0 cap0 z0) :
    Calls Try.prog 4 #[.slice a0 len0 cap0] w fun e w' => e = .returned (.bool true) ∧ Below w.heap.size w w' := by
  have hr := inRow h0
  have hmax := h0.open_.1
  clear h0
  by_cases hl : len0 ≤ 100
  · obtain ⟨ls, hls⟩ : ∃ ls, ls = (fun i => z0.getD i 0) := ⟨_, rfl⟩
    rw [← hls] at hr
    clear hls
    obtain ⟨a, hg⟩ : ∃ a, a = w.heap.size := ⟨_, rfl⟩
    have hnew := anew_ok w
    rw [← hg] at hnew ⊢
    have HG := Lib.hid hg
    clear hg
    go_enter Try.func4, Try.ntmps4
    go_wp2_with fail
    refine hnew.mono ?_
    rintro e w1 ⟨rfl, hA, hb⟩
    have haw : a ≤ w1.heap.size := by have := HG.out; have := hb.size; omega
    obtain ⟨hA2, hR2, hS2⟩ := pair_start hA haw
    have hb2 := hb.alloc haw (.cells #[.slice none 0 0] 28)
    obtain ⟨x, hx⟩ : ∃ x, x = w1.heap.size := ⟨_, rfl⟩
    rw [← hx] at hR2 hS2
    have HX := Lib.hid hx
    clear hnew hA hb hx haw
    go_wp2_with fail
    rw [← HX.out]
    clear HX
    go_loopw [5] (fun i wr => ∃ (j : Nat) (L : List Int), i = .int .i64 j ∧ j ≤ len0 ∧ AI wr a a (a + 1) j L ∧ RL wr a x L ∧ Sep wr a (a + 1) x ∧ Below a w wr) (fun i _ => len0 - (intOf i).toNat)
    case atStart => exact ⟨0, [], rfl, by omega, hA2, hR2, hS2, hb2⟩
    case round =>
      obtain ⟨j, L, rfl, hj, hA1, hR1, hS1, hb1⟩ := hrel
      clear hA2 hR2 hS2 hb2
      have hsz : a ≤ wr.heap.size := by have := HG.out; have := hb1.size; omega
      by_cases hlt : j < len0
      · obtain ⟨b, off, rfl, hbl, hc⟩ := hr.resolve_left (by omega)
        have hba : b < a := by rw [HG.out]; exact hbl
        have hcj := (hb1.cell hba).trans (hc j hlt)
        have hc0 := hc j hlt
        have i0 : (0 : Int) ≤ (j : Int) := by omega
        have i1 : (j : Int) < (len0 : Int) := by omega
        clear hc hr
        go_wp2_with fail
        refine (touch_any a a (a + 1) j (ls j) L _ hA1 hsz (by omega)).mono ?_
        rintro e w3 ⟨rfl, hA3, hF3⟩
        have hb3 := hb1.trans (hA1.below hF3 hsz)
        obtain ⟨hR3, hS3⟩ := sep_age hA1 hR1 hS1 hF3
        have hc3 := (hb3.cell hba).trans hc0
        have hsz3 : a ≤ w3.heap.size := by have := HG.out; have := hb3.size; omega
        have hnd := hA1.nodup
        have hlen := hA1.len
        clear hA1 hF3 hb1 hcj hR1 hS1
        go_wp2_with fail
        refine (rtouch_any a x (ls j) L _ hR3 hnd hsz3 (by omega)).mono ?_
        rintro e w4 ⟨rfl, hR4, hF4⟩
        have hb4 := hb3.trans (hR3.below hF4 hsz3)
        obtain ⟨hA4, hS4⟩ := sep_ref hA3 hR3 hS3 hF4
        clear hA3 hF4 hb3 hR3 hS3 hc3 hnd
        go_wp2_with fail
        go_roundw
        case rel => exact ⟨j + 1, _, by go_num, by omega, hA4, hR4, hS4, hb4⟩
        case measure => simp [intOf]; omega
      · obtain rfl : j = len0 := by omega
        have hdj : decide ((j : Int) < (j : Int)) = false := by simp
        have hnd := hA1.nodup
        have hlen := hA1.len
        obtain ⟨wo, hwo⟩ : ∃ wo : World, wo = wr := ⟨_, rfl⟩
        subst hwo
        clear hr
        go_wp2_with fail
        go_loopw [6] (fun i wr => ∃ (k : Nat), i = .int .i64 k ∧ k ≤ L.length ∧ AI wr a a (a + 1) j (L.drop k) ∧ RL wr a x L ∧ Sep wr a (a + 1) x ∧ Below a w wr) (fun i _ => L.length - (intOf i).toNat)
        case atStart => exact ⟨0, rfl, by omega, hA1, hR1, hS1, hb1⟩
        case round =>
          clear hA1 hR1 hS1 hb1 hdj hsz
          obtain ⟨k, rfl, hk, hA1, hR1, hS1, hb1⟩ := hrel
          have hsz : a ≤ wr.heap.size := by have := HG.out; have := hb1.size; omega
          by_cases hkl : k < L.length
          · obtain ⟨e1, e2, e3, e4, e5⟩ := drop_head hnd hkl
            obtain ⟨r, cap, hxb, _, _, lr, _, _, _, _, hc⟩ := hR1.row (by omega)
            have c0 : wr.cell? ⟨x, 0, none⟩ = some (.slice (some ⟨r, 0, none⟩) L.length cap) := hxb.cell_ 0 rfl
            have lx := hxb.lt
            have ck := hc k hkl
            have i0 : (0 : Int) ≤ (k : Int) := by omega
            have i1 : (k : Int) < (L.length : Int) := by omega
            have hold := old_ok a a (a + 1) j (L.drop k) wr hA1
            rw [e1, show (!decide (L.drop k = [])) = true by simpa using e2] at hold
            have hdr := drop_ok a a (a + 1) j (L.drop k) (el L k) wr hA1
            rw [decide_eq_true e3, e4] at hdr
            have hdr2 := fun W hW => drop_ok a a (a + 1) j (L.drop (k + 1)) (el L k) W hW
            rw [decide_eq_false e5, dl_not e5] at hdr2
            obtain ⟨z, hz⟩ : ∃ z, z = el L k := ⟨_, rfl⟩
            rw [← hz] at hold hdr hdr2 ck
            clear hxb hc e1 e2 e3 e4 e5 hz
            go_wp2_with fail
            refine hold.mono ?_
            rintro e w4 ⟨rfl, rfl⟩
            clear hold
            go_wp2_with fail
            refine hdr.mono ?_
            rintro e w5 ⟨rfl, hA5, hF5⟩
            have hb5 := hb1.trans (hA1.below hF5 hsz)
            obtain ⟨hR5, hS5⟩ := sep_age hA1 hR1 hS1 hF5
            have hsz5 : a ≤ w5.heap.size := by have := HG.out; have := hb5.size; omega
            clear hdr hA1 hF5 hR1 hS1 hb1 c0 ck
            go_wp2_with fail
            refine (hdr2 _ hA5).mono ?_
            rintro e w6 ⟨rfl, hA6, hF6⟩
            have hb6 := hb5.trans (hA5.below hF6 hsz5)
            obtain ⟨hR6, hS6⟩ := sep_age hA5 hR5 hS5 hF6
            clear hdr2 hA5 hF6 hR5 hS5 hb5
            go_wp2_with fail
            go_roundw
            case rel => exact ⟨k + 1, by go_num, by omega, hA6, hR6, hS6, hb6⟩
            case measure => simp [intOf]; omega
          · obtain rfl : k = L.length := by omega
            have hR1' := hR1
            obtain ⟨A, cap, hxb, _⟩ := hR1'
            have c0 : wr.cell? ⟨x, 0, none⟩ = some (.slice A L.length cap) := hxb.cell_ 0 rfl
            have lx := hxb.lt
            have hdk : decide ((L.length : Int) < (L.length : Int)) = false := by simp
            have hdr : L.drop L.length = [] := by simp
            rw [hdr] at hA1
            clear hdr hxb
            go_wp2_with fail
            refine (old_nil _).mono ?_
            rintro e w4 ⟨rfl, rfl⟩
            go_wp2_with fail
            refine (alen_ok a a (a + 1) j [] _ hA1).mono ?_
            rintro e w4 ⟨rfl, rfl⟩
            go_wp2_with fail
            refine (atouch_nil _ _).mono ?_
            rintro e w4 ⟨rfl, rfl⟩
            go_wp2_with fail
            refine (drop_nil _ _).mono ?_
            rintro e w4 ⟨rfl, rfl⟩
            go_wp2_with fail
            refine (alen_nil _).mono ?_
            rintro e w4 ⟨rfl, rfl⟩
            go_wp2_with fail
            refine (known_ok _).mono ?_
            rintro e w5 ⟨rfl, hb5⟩
            have hb6 := hb1.trans (hb5.mono hsz)
            go_wp2_with fail
            go_ret
            exact ⟨rfl, hb6⟩
  · have hgt : (100 : Int) < (len0 : Int) := by omega
    clear hr
    go_enter Try.func4, Try.ntmps4
    go_wp2_with fail
    go_ret
    exact ⟨rfl, Below.refl _ _⟩
end Go.Proofs.Ytbmpocalapgmjac.ageOrder
