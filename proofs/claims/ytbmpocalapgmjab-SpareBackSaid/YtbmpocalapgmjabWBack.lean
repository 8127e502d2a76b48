/- The walk of the law SpareBack. -/
import Derived.Test.YtbmpocalapgmjabSKnown
namespace Go.Proofs.Ytbmpocalapgmjab.spareBack
open Go.RowKit
set_option linter.unusedVariables false
theorem inRow {a0 : Option Addr} {len0 cap0 : Nat} {z0 : List Int} {w : World} (h : IsRow .i64 w a0 len0 cap0 z0) : InRow w a0 len0 (fun i => z0.getD i 0) := by
  obtain ⟨_, _, h⟩ := h.open_
  rcases h with h | ⟨b, off, h1, h2, _, h4, _⟩
  · exact .inl h
  · exact .inr ⟨b, off, h1, h2, h4⟩
set_option maxHeartbeats 2000000 in
theorem walk (a0 : Option Addr) (len0 cap0 : Nat) (z0 : List Int) (a1 : Int) (w : World) (h0 : IsRow .i64 w a0 len0 cap0 z0) (w1 : (Lit.int .i64 a1).wf = true) :
    Calls Try.prog 8 #[.slice a0 len0 cap0, .int .i64 a1] w fun e w' => e = .returned (.bool true) ∧ Below w.heap.size w w' := by
  have hr := inRow h0
  have hmax := h0.open_.1
  have b1 := bounds_i64 w1
  clear h0 w1
  by_cases hl : len0 ≤ 40
  · by_cases h1 : a1 < 0
    · clear hr
      have hx : decide ((40 : Int) < (len0 : Int)) = false := by simp; omega
      go_enter Try.func8, Try.ntmps8
      go_wp2_with fail
      go_ret
      exact ⟨rfl, Below.refl _ _⟩
    · by_cases h2 : 20 < a1
      · clear hr
        have hx : decide ((40 : Int) < (len0 : Int)) = false := by simp; omega
        have hy : decide (a1 < 0) = false := by simpa using h1
        clear h1
        go_enter Try.func8, Try.ntmps8
        go_wp2_with fail
        go_ret
        exact ⟨rfl, Below.refl _ _⟩
      · obtain ⟨t, rfl⟩ := Int.eq_ofNat_of_zero_le (show 0 ≤ a1 by omega)
        have ht20 : t ≤ 20 := by omega
        obtain ⟨g, hg⟩ : ∃ g, g = w.heap.size := ⟨_, rfl⟩
        have hnew := snew_ok a0 len0 cap0 _ w hr (by omega)
        rw [← hg] at hnew ⊢
        have hgw : g ≤ w.heap.size := by omega
        clear hg hr h1 h2 b1
        have hx : decide ((40 : Int) < (len0 : Int)) = false := by simp; omega
        have hy : decide ((t : Int) < 0) = false := by simp
        have hz : decide ((20 : Int) < (t : Int)) = false := by simp; omega
        go_enter Try.func8, Try.ntmps8
        go_wp2_with fail
        refine hnew.mono ?_
        rintro e w1 ⟨rfl, zs, hs, hN, _⟩
        clear hnew
        go_wp2_with fail
        refine (len_ok g g zs _ hs.1).mono ?_
        rintro e w2 ⟨rfl, rfl⟩
        have hn16 := hs.len
        obtain ⟨n, hn⟩ : ∃ n, n = zs.length := ⟨_, rfl⟩
        rw [← hn] at hn16 ⊢
        have hn0 : zs.length = n := by omega
        clear hn hx hy hz
        go_wp2_with fail
        go_loopw [7] (fun i wr => ∃ (j : Nat) (ys : List Int), i = .int .i64 j ∧ j ≤ t ∧ SI wr g g ys ∧ ys.length = n ∧ Near g w wr) (fun i _ => t - (intOf i).toNat)
        case atStart => exact ⟨0, zs, rfl, by omega, hs, hn0, hN⟩
        case round =>
          obtain ⟨j, ys, rfl, hjt, hs1, hj, hN1⟩ := hrel
          clear hs hN hn0
          have hsz := hN1.size
          by_cases hgo : j < t ∧ 0 < n
          · obtain ⟨hjt2, hn1⟩ := hgo
            have hA : (j : Int) < (t : Int) := by omega
            have hB : (0 : Int) < (n : Int) := by omega
            have hne : ys ≠ [] := by rintro rfl; simp at hj; omega
            have hm := el_mem (zs := ys) (k := 0) (by omega)
            obtain ⟨hm0, hm1⟩ := hs1.2.2.2 _ hm
            go_wp2_with fail
            refine (take_ok g g ys _ hs1 hne).mono ?_
            rintro e w3 ⟨rfl, ys', hs3, hN3, hp⟩
            have hnd := hp.symm.nodup hs1.2.2.1
            have hnm : el ys 0 ∉ ys' := fun hc => (List.nodup_append.1 hnd).2.2 _ hc _ (by simp) rfl
            obtain ⟨m, hmm⟩ : ∃ m, m = el ys 0 := ⟨_, rfl⟩
            rw [← hmm] at hm0 hm1 hnm ⊢
            have hlen : ys'.length + 1 = n := by
              have := hp.length_eq
              simp at this; omega
            have hL : (n : Int) - 1 = (ys'.length : Int) := by omega
            have hN4 := hN1.trans hN3
            have hf : decide (m ∈ ys') = false := by simpa using hnm
            have hs316 := hs3.len
            have hsz3 := hN4.size
            have HM := Lib.hid hnm
            clear hs1 hN1 hN3 hp hnd hm hne hj hmm hnm hsz
            go_wp2_with fail
            refine (has_ok g g ys' m _ hs3.1 (by omega)).mono ?_
            rintro e w4 ⟨rfl, rfl⟩
            go_wp2_with fail
            refine (len_ok g g ys' _ hs3.1).mono ?_
            rintro e w4 ⟨rfl, rfl⟩
            go_wp2_with fail
            refine (give_yes g g ys' m _ hs3 (by omega) hm0 hm1 HM.out).mono ?_
            rintro e w5 ⟨rfl, ys2, hs5, hN5, hp5⟩
            have hin : m ∈ ys2 := hp5.mem_iff.2 (by simp)
            have ht : decide (m ∈ ys2) = true := by simpa using hin
            have hl5 : ys2.length = n := by
              have := hp5.length_eq
              simp at this; omega
            have hN6 := hN4.trans hN5
            have hs516 := hs5.len
            have HI := Lib.hid hin
            clear hs3 hN4 hN5 hp5 hin hf HM
            go_wp2_with fail
            refine (give_no g g ys2 m _ hs5 (.inr (.inr HI.out))).mono ?_
            rintro e w6 ⟨rfl, rfl⟩
            go_wp2_with fail
            refine (has_ok g g ys2 m _ hs5.1 (by omega)).mono ?_
            rintro e w6 ⟨rfl, rfl⟩
            clear HI
            go_wp2_with fail
            go_roundw
            case rel => exact ⟨j + 1, ys2, by go_num, by omega, hs5, hl5, hN6⟩
            case measure => simp [intOf]; omega
          · have hE : ((ys.length : Int) == (n : Int)) = true := by simp; omega
            have hEn : (ys.length == n) = true := by simp; omega
            by_cases hjt2 : j < t
            · have hA : (j : Int) < (t : Int) := by omega
              have hn1 : n = 0 := by omega
              subst hn1
              clear hgo
              go_wp2_with fail
              refine (len_ok g g ys _ hs1.1).mono ?_
              rintro e w3 ⟨rfl, rfl⟩
              go_wp2_with fail
              refine (known_ok _).mono ?_
              rintro e w3 ⟨rfl, hN3⟩
              go_wp2_with fail
              go_ret
              exact ⟨rfl, (hN1.trans (hN3.mono (by omega))).1⟩
            · have hA : decide ((j : Int) < (t : Int)) = false := by simp; omega
              have hAn : decide (j < t) = false := by simp; omega
              clear hgo
              go_wp2_with fail
              refine (len_ok g g ys _ hs1.1).mono ?_
              rintro e w3 ⟨rfl, rfl⟩
              go_wp2_with fail
              refine (known_ok _).mono ?_
              rintro e w3 ⟨rfl, hN3⟩
              go_wp2_with fail
              go_ret
              exact ⟨rfl, (hN1.trans (hN3.mono (by omega))).1⟩
  · have hgt : (40 : Int) < (len0 : Int) := by omega
    clear hr
    go_enter Try.func8, Try.ntmps8
    go_wp2_with fail
    go_ret
    exact ⟨rfl, Below.refl _ _⟩
end Go.Proofs.Ytbmpocalapgmjab.spareBack
