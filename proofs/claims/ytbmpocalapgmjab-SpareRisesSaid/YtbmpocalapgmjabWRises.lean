/- The walk of the law SpareRises. -/
import Derived.Test.YtbmpocalapgmjabSKnown
namespace Go.Proofs.Ytbmpocalapgmjab.spareRises
open Go.RowKit
set_option linter.unusedVariables false
theorem inRow {a0 : Option Addr} {len0 cap0 : Nat} {z0 : List Int} {w : World} (h : IsRow .i64 w a0 len0 cap0 z0) : InRow w a0 len0 (fun i => z0.getD i 0) := by
  obtain ⟨_, _, h⟩ := h.open_
  rcases h with h | ⟨b, off, h1, h2, _, h4, _⟩
  · exact .inl h
  · exact .inr ⟨b, off, h1, h2, h4⟩
set_option maxHeartbeats 1000000 in
theorem walk (a0 : Option Addr) (len0 cap0 : Nat) (z0 : List Int) (w : World) (h0 : IsRow .i64 w a0 len0 cap0 z0) :
    Calls Try.prog 7 #[.slice a0 len0 cap0] w fun e w' => e = .returned (.bool true) ∧ Below w.heap.size w w' := by
  have hr := inRow h0
  have hmax := h0.open_.1
  clear h0
  by_cases hl : len0 ≤ 50
  · obtain ⟨g, hg⟩ : ∃ g, g = w.heap.size := ⟨_, rfl⟩
    have hnew := snew_ok a0 len0 cap0 _ w hr (by omega)
    rw [← hg] at hnew ⊢
    have hgw : g ≤ w.heap.size := by omega
    clear hg hr
    go_enter Try.func7, Try.ntmps7
    go_wp2_with fail
    refine hnew.mono ?_
    rintro e w1 ⟨rfl, zs, hs, hN, _⟩
    clear hnew
    go_wp2_with fail
    refine (len_ok g g zs _ hs.1).mono ?_
    rintro e w2 ⟨rfl, rfl⟩
    have hn16 := hs.len
    have hnn : ∀ z ∈ zs, (-1 : Int) < z := fun z hz => by have := (hs.2.2.2 z hz).1; omega
    obtain ⟨n, hn⟩ : ∃ n, n = zs.length := ⟨_, rfl⟩
    rw [← hn] at hn16 ⊢
    have hn0 : zs.length + 0 = n := by omega
    clear hn
    go_wp2_with fail
    go_loopw [6, 5] (fun i la wr => ∃ (j : Nat) (l : Int) (ys : List Int), i = .int .i64 j ∧ la = .int .i64 l ∧ SI wr g g ys ∧ ys.length + j = n ∧ Near g w wr ∧ ∀ z ∈ ys, l < z) (fun i _ _ => n - (intOf i).toNat)
    case atStart => exact ⟨0, -1, zs, rfl, rfl, hs, hn0, hN, hnn⟩
    case round =>
      obtain ⟨j, l, ys, rfl, rfl, hs1, hj, hN1, hlt⟩ := hrel
      clear hs hN hnn hn0
      have hsz := hN1.size
      by_cases hjn : j < n
      · have hne : ys ≠ [] := by rintro rfl; simp at hj; omega
        have hm := el_mem (zs := ys) (k := 0) (by omega)
        have hlm := hlt _ hm
        have hd : decide (el ys 0 ≤ l) = false := by simpa using hlm
        go_wp2_with fail
        refine (take_ok g g ys _ hs1 hne).mono ?_
        rintro e w3 ⟨rfl, ys', hs3, hN3, hp⟩
        have hnd := hp.symm.nodup hs1.2.2.1
        have hlt' : ∀ z ∈ ys', el ys 0 < z := fun z hz => by
          have a := hs1.least (hp.mem_iff.1 (List.mem_append_left _ hz))
          have b : z ≠ el ys 0 := (List.nodup_append.1 hnd).2.2 z hz _ (by simp)
          omega
        have hlen : ys'.length + (j + 1) = n := by
          have := hp.length_eq
          simp at this; omega
        have hN4 := hN1.trans hN3
        clear hs1 hN1 hN3 hp hnd hlt hm hlm hne hj
        go_wp2_with fail
        go_roundw
        case rel => exact ⟨j + 1, _, ys', by go_num, rfl, hs3, hlen, hN4, hlt'⟩
        case measure => simp [intOf]; omega
      · have hnil : ys = [] := List.length_eq_zero_iff.1 (by omega)
        subst hnil
        have hd : decide ((j : Int) < (n : Int)) = false := by simp; omega
        have hd2 : decide (j < n) = false := by simp; omega
        clear hlt
        go_wp2_with fail
        refine (take_no g g _ hs1.1).mono ?_
        rintro e w3 ⟨rfl, rfl⟩
        go_wp2_with fail
        refine (take_nil _).mono ?_
        rintro e w3 ⟨rfl, rfl⟩
        go_wp2_with fail
        refine (give_nil _ _).mono ?_
        rintro e w3 ⟨rfl, rfl⟩
        go_wp2_with fail
        refine (has_nil _ _).mono ?_
        rintro e w3 ⟨rfl, rfl⟩
        go_wp2_with fail
        refine (len_nil _).mono ?_
        rintro e w3 ⟨rfl, rfl⟩
        go_wp2_with fail
        refine (known_ok _).mono ?_
        rintro e w3 ⟨rfl, hN3⟩
        go_wp2_with fail
        go_ret
        exact ⟨rfl, (hN1.trans (hN3.mono (by omega))).1⟩
  · have hgt : (50 : Int) < (len0 : Int) := by omega
    clear hr
    go_enter Try.func7, Try.ntmps7
    go_wp2_with fail
    go_ret
    exact ⟨rfl, Below.refl _ _⟩
end Go.Proofs.Ytbmpocalapgmjab.spareRises
