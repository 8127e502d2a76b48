/- Spare in memory: container/heap's Push and Pop, slices.Index, and spare's own functions. -/
import Derived.Test.YtbmpocalapgmjabUpDown
namespace Go.Proofs.Ytbmpocalapgmjab
open Go.RowKit
set_option linter.unusedVariables false
theorem hpush (g B : Nat) (zs : List Int) (z : Int) (w : World) (h : QI w B g zs) (hh : Heap id zs zs.length) (hl : zs.length ≤ 90) (hB : B ≤ w.heap.size) :
    Calls Try.prog 32 #[.iface 74 (.pointer (some ⟨g, 0, none⟩)), .iface 3 (.int .i64 z)] w fun e w' => e = .returned (.tuple #[]) ∧ ∃ zs', QI w' B g zs' ∧ Near B w w' ∧ Heap id zs' zs'.length ∧ zs'.Perm (zs ++ [z]) := by
  have m1 := m_push g
  have m2 := m_len g
  have hup := hh.push z
  obtain ⟨ys, hys⟩ : ∃ ys, ys = zs ++ [z] := ⟨_, rfl⟩
  have hyl : ys.length = zs.length + 1 := by rw [hys]; simp
  have hyi : ((ys.length : Nat) : Int) - 1 = (zs.length : Int) := by omega
  rw [← hys] at hup ⊢
  go_enter Try.func32, Try.ntmps32
  go_wp2_with fail
  refine (qpush g B zs z _ h (by omega) hB).mono ?_
  rintro e w1 ⟨rfl, hq1, hN1⟩
  rw [← hys] at hq1
  clear hys h
  go_wp2_with fail
  refine (qlen g B ys _ hq1).mono ?_
  rintro e w2 ⟨rfl, rfl⟩
  go_wp2_with fail
  refine (up_ok g zs.length ys.length B ys _ hq1 (by rw [hyl]; exact hup) (by omega) (Nat.le_refl _) (by omega)).mono ?_
  rintro e w3 ⟨rfl, zs', hq3, hN3, hh3, hp3, _⟩
  have hl3 := hp3.length_eq
  go_wp2_with fail
  go_end0
  exact ⟨rfl, zs', hq3, hN1.trans hN3, by rw [hl3]; exact hh3, hp3⟩
set_option maxHeartbeats 1000000 in
theorem hpop (g B m : Nat) (zs : List Int) (w : World) (h : QI w B g zs) (hh : Heap id zs zs.length) (hm : zs.length = m + 1) (hl : zs.length ≤ 90) :
    Calls Try.prog 33 #[.iface 74 (.pointer (some ⟨g, 0, none⟩))] w fun e w' => e = .returned (.iface 3 (.int .i64 (el zs 0))) ∧ ∃ zs', QI w' B g zs' ∧ Near B w w' ∧ Heap id zs' zs'.length ∧ (zs' ++ [el zs 0]).Perm zs := by
  have m1 := m_pop g
  have m2 := m_len g
  have m3 := m_swap g
  have hmi : ((zs.length : Nat) : Int) - 1 = (m : Int) := by omega
  have hcut : AnyBut id (swp zs 0 m) m 0 := by
    by_cases h0 : m = 0
    · subst h0; exact ⟨fun i _ h => by omega, fun i _ h => by omega⟩
    · exact (show Heap id zs (m + 1) by rw [← hm]; exact hh).cut (by omega) (by omega)
  have hsl := swp_len zs 0 m
  have hsw := fun W hq => qswap g 0 m B zs W hq (by omega) (by omega)
  have hdn := fun W hq => down_ok g 0 m B (swp zs 0 m) W hq hcut (by omega) (by omega) (by omega)
  have hlast : el (swp zs 0 m) m = el zs 0 := by rw [el_swp (by omega) (by omega), if_pos rfl]
  have hperm := swp_perm (zs := zs) (i := 0) (j := m) (by omega) (by omega)
  go_enter Try.func33, Try.ntmps33
  go_wp2_with fail
  refine (qlen g B zs _ h).mono ?_
  rintro e w1 ⟨rfl, rfl⟩
  go_wp2_with fail
  refine (hsw _ h).mono ?_
  rintro e w2 ⟨rfl, hq2, hN2⟩
  go_wp2_with fail
  refine (hdn _ hq2).mono ?_
  rintro e w3 ⟨b, ys, rfl, hq3, hN3, hp3, he3, hd3⟩
  have hyl := hp3.length_eq
  have hh3 : Heap id ys m := by
    rcases hd3 with ⟨_, rfl, hu⟩ | ⟨_, hu⟩
    · exact hu.heap0
    · exact hu
  have hys := split_last (zs := ys) (m := m) (by omega)
  rw [he3 m (Nat.le_refl _), hlast] at hys
  have hp4 : (ys.take m ++ [el zs 0]).Perm zs := by rw [← hys]; exact hp3.trans hperm
  have hq4 : QI w3 B g (ys.take m ++ [el zs 0]) := by rw [← hys]; exact hq3
  have htl : (ys.take m).length = m := by rw [List.length_take]; omega
  have hh4 := hh3.take
  clear hsw hdn hcut hys hp3 he3 hd3 hq3 hh3 h hh hlast hperm hsl hyl
  go_wp2_with fail
  refine (qpop g B (ys.take m) (el zs 0) _ hq4).mono ?_
  rintro e w4 ⟨rfl, hq5, hN5⟩
  go_wp2_with fail
  go_ret
  exact ⟨rfl, _, hq5, (hN2.trans hN3).trans hN5, by rw [htl]; exact hh4, hp4⟩
/-- what slices.Index tells -/
def Idx (zs : List Int) (k r : Int) : Prop := (∃ j : Nat, r = (j : Int) ∧ j < zs.length ∧ el zs j = k) ∨ (r = -1 ∧ k ∉ zs)
theorem idx_ok (g B : Nat) (zs : List Int) (k : Int) (w : World) (A : Option Addr) (cap : Nat) (h : w.ownsRow B 3 1 (.slice A zs.length cap) zs.length (ivals zs)) (hl : zs.length ≤ 100) :
    Calls Try.prog 37 #[.slice A zs.length cap, .int .i64 k] w fun e w' => ∃ r, e = .returned (.int .i64 r) ∧ Idx zs k r ∧ w = w' := by
  by_cases h0 : zs = []
  · subst h0
    have hx : ((0 : Nat) : Int) = 0 := rfl
    clear h
    go_enter Try.func37, Try.ntmps37
    go_wp2_with fail
    go_loopw [8] (fun i wr => i = .int .i64 0 ∧ w = wr) (fun _ _ => 0)
    case atStart => exact ⟨rfl, rfl⟩
    case round =>
      obtain ⟨rfl, rfl⟩ := hrel
      go_wp2_with fail
      go_ret
      exact ⟨_, rfl, .inr ⟨rfl, by simp⟩, rfl⟩
  · obtain ⟨_, h1⟩ := h
    have hpos : 0 < zs.length := List.length_pos_iff.2 h0
    rcases h1 with ⟨_, h1⟩ | ⟨r, c, cur, a1, a2, a3, a4, a5, a6, a7⟩
    · omega
    · injection a1 with b1 b2 b3
      subst b1
      have hc : ∀ j, j < zs.length → w.cell? ⟨r, j, none⟩ = some (.int .i64 (el zs j)) := fun j hj => by
        rw [cell_of_row w r j cur 3 (0, 0) a3]
        have e : (cur.toList.take (zs.length * 1))[j]? = some (.int .i64 (el zs j)) := by
          rw [a7]; unfold ivals
          rw [List.getElem?_map, el_get hj]; rfl
        rw [List.getElem?_take, if_pos (by omega)] at e
        simpa using e
      clear a2 a3 a4 a5 a6 a7 b2 b3 h0
      go_enter Try.func37, Try.ntmps37
      go_wp2_with fail
      go_loopw [8] (fun i wr => ∃ j : Nat, i = .int .i64 j ∧ w = wr ∧ j ≤ zs.length ∧ ∀ i, i < j → el zs i ≠ k) (fun i _ => zs.length - (intOf i).toNat)
      case atStart => exact ⟨0, rfl, rfl, by omega, fun i hi => by omega⟩
      case round =>
        obtain ⟨j, rfl, rfl, hj, hne⟩ := hrel
        by_cases hlt : j < zs.length
        · have j0 : (0 : Int) ≤ (j : Int) := by omega
          have j1 : (j : Int) < (zs.length : Int) := by omega
          have hcj := hc j hlt
          by_cases he : k = el zs j
          · have hE : (k == el zs j) = true := by simpa using he
            have hfin : Idx zs k j := .inl ⟨j, rfl, hlt, he.symm⟩
            clear he hne hc
            go_wp2_with fail
            go_ret
            exact ⟨_, rfl, hfin, rfl⟩
          · have hE : (k == el zs j) = false := by simpa using he
            have hne2 : ∀ i, i < j + 1 → el zs i ≠ k := fun i hi => by
              by_cases e : i = j
              · rw [e]; exact fun e => he e.symm
              · exact hne i (by omega)
            clear he hne hc
            go_wp2_with fail
            go_roundw
            case rel => exact ⟨j + 1, by go_num, trivial, by omega, hne2⟩
            case measure => simp [intOf]; omega
        · have hd : decide (j < zs.length) = false := by simpa using hlt
          have hd2 : decide ((j : Int) < (zs.length : Int)) = false := by simp; omega
          have hfin : Idx zs k (-1) := .inr ⟨rfl, fun hm => by
            obtain ⟨i, hi, e⟩ := mem_el hm
            exact hne i (by omega) e⟩
          clear hne hc
          go_wp2_with fail
          go_ret
          exact ⟨_, rfl, hfin, rfl⟩
theorem Idx.iff {zs : List Int} {k r : Int} (h : Idx zs k r) : decide (0 ≤ r) = decide (k ∈ zs) := by
  rcases h with ⟨j, rfl, hj, rfl⟩ | ⟨rfl, hn⟩
  · have := el_mem hj
    simp [this]
  · simp [hn]
theorem cont_ok (g B : Nat) (zs : List Int) (k : Int) (w : World) (A : Option Addr) (cap : Nat) (h : w.ownsRow B 3 1 (.slice A zs.length cap) zs.length (ivals zs)) (hl : zs.length ≤ 100) :
    Calls Try.prog 34 #[.slice A zs.length cap, .int .i64 k] w fun e w' => e = .returned (.bool (decide (k ∈ zs))) ∧ w = w' := by
  go_enter Try.func34, Try.ntmps34
  go_wp2_with fail
  refine (idx_ok g B zs k _ A cap h hl).mono ?_
  rintro e w1 ⟨r, rfl, hr, rfl⟩
  have hi := hr.iff
  go_wp2_with fail
  go_ret
  exact ⟨rfl, rfl⟩
theorem has_ok (g B : Nat) (zs : List Int) (k : Int) (w : World) (h : QI w B g zs) (hl : zs.length ≤ 100) :
    Calls Try.prog 24 #[.pointer (some ⟨g, 0, none⟩), .int .i64 k] w fun e w' => e = .returned (.bool (decide (k ∈ zs))) ∧ w = w' := by
  obtain ⟨A, cap, hb, _, ho⟩ := h
  have c0 : w.cell? ⟨g, 0, none⟩ = some (.slice A zs.length cap) := hb.cell_ 0 rfl
  have l0 := hb.lt
  go_enter Try.func24, Try.ntmps24
  go_wp2_with fail
  refine (cont_ok g B zs k _ A cap ho hl).mono ?_
  rintro e w1 ⟨rfl, rfl⟩
  go_wp2_with fail
  go_ret
  exact ⟨rfl, rfl⟩
theorem has_nil (k : Int) (w : World) : Calls Try.prog 24 #[.pointer none, .int .i64 k] w fun e w' => e = .returned (.bool false) ∧ w = w' := by
  go_enter Try.func24, Try.ntmps24
  go_wp2_with fail
  go_ret
  exact ⟨rfl, rfl⟩
theorem len_ok (g B : Nat) (zs : List Int) (w : World) (h : QI w B g zs) :
    Calls Try.prog 26 #[.pointer (some ⟨g, 0, none⟩)] w fun e w' => e = .returned (.int .i64 zs.length) ∧ w = w' := by
  obtain ⟨A, cap, hb, _, ho⟩ := h
  have c0 : w.cell? ⟨g, 0, none⟩ = some (.slice A zs.length cap) := hb.cell_ 0 rfl
  have l0 := hb.lt
  go_enter Try.func26, Try.ntmps26
  go_wp2_with fail
  go_ret
  exact ⟨rfl, rfl⟩
theorem len_nil (w : World) : Calls Try.prog 26 #[.pointer none] w fun e w' => e = .returned (.int .i64 0) ∧ w = w' := by
  go_enter Try.func26, Try.ntmps26
  go_wp2_with fail
  go_ret
  exact ⟨rfl, rfl⟩
/-- how many of the first n are there -/
def cnt (S : Nat → Bool) (n : Nat) : Nat := ((List.range n).filter S).length
theorem cnt_succ (S : Nat → Bool) (n : Nat) : cnt S (n + 1) = cnt S n + if S n then 1 else 0 := by
  unfold cnt
  rw [List.range_succ, List.filter_append, List.length_append]
  congr 1
  by_cases h : S n <;> simp [h]
theorem cnt_le (S : Nat → Bool) (n : Nat) : cnt S n ≤ n := by
  unfold cnt
  have := List.length_filter_le S (List.range n)
  rwa [List.length_range] at this
theorem len_cnt {zs : List Int} (hn : zs.Nodup) (hr : ∀ z ∈ zs, 0 ≤ z ∧ z < 16) : zs.length = cnt (fun k : Nat => decide ((k : Int) ∈ zs)) 16 := by
  have hp : zs.Perm (((List.range 16).filter (fun k : Nat => decide ((k : Int) ∈ zs))).map (fun k : Nat => (k : Int))) := by
    refine (List.perm_ext_iff_of_nodup hn ?_).2 fun z => ?_
    · unfold List.Nodup
      rw [List.pairwise_map]
      exact ((List.nodup_range (n := 16)).filter _).imp (fun h e => h (by omega))
    · simp only [List.mem_map, List.mem_filter, List.mem_range, decide_eq_true_eq]
      constructor
      · intro h
        obtain ⟨a, b⟩ := hr z h
        exact ⟨z.toNat, ⟨by omega, by rwa [Int.toNat_of_nonneg a]⟩, Int.toNat_of_nonneg a⟩
      · rintro ⟨k, ⟨_, h⟩, rfl⟩
        exact h
  rw [hp.length_eq, List.length_map]
  rfl
/-- a spare in memory -/
def SI (w : World) (B g : Nat) (zs : List Int) : Prop := QI w B g zs ∧ Heap id zs zs.length ∧ zs.Nodup ∧ ∀ z ∈ zs, 0 ≤ z ∧ z < 16
section
variable {w w' : World} {B g : Nat} {zs : List Int}
theorem SI.len (h : SI w B g zs) : zs.length ≤ 16 := by
  rw [len_cnt h.2.2.1 h.2.2.2]; exact cnt_le _ _
theorem SI.drew (h : SI w B g zs) : SI w.drew B g zs := h
theorem SI.below (h : SI w B g zs) (hb : Below w.heap.size w w') : SI w' B g zs := ⟨h.1.below hb, h.2⟩
theorem SI.only {x : Nat} {cs : Array Value} (h : SI w B g zs) (hg : w.grownBy w' (some x)) (hx : Blk w x 55 cs) : SI w' B g zs := ⟨h.1.only hg hx, h.2⟩
theorem SI.least (h : SI w B g zs) {z : Int} (hz : z ∈ zs) : el zs 0 ≤ z := by
  obtain ⟨k, hk, rfl⟩ := mem_el hz
  exact h.2.1.least k hk
end
theorem give_yes (g B : Nat) (zs : List Int) (k : Int) (w : World) (h : SI w B g zs) (hB : B ≤ w.heap.size) (h0 : 0 ≤ k) (h1 : k < 16) (hk : k ∉ zs) :
    Calls Try.prog 21 #[.pointer (some ⟨g, 0, none⟩), .int .i64 k] w fun e w' => e = .returned (.bool true) ∧ ∃ zs', SI w' B g zs' ∧ Near B w w' ∧ zs'.Perm (zs ++ [k]) := by
  have hl := h.len
  have hd : decide (k ∈ zs) = false := by simpa using hk
  obtain ⟨hq, hh, hn, hr⟩ := h
  have hN : (zs ++ [k]).Nodup := by
    rw [List.nodup_append]
    exact ⟨hn, by simp, fun a ha b hb => by rw [List.mem_singleton] at hb; subst hb; rintro rfl; exact hk ha⟩
  have hR : ∀ z ∈ zs ++ [k], 0 ≤ z ∧ z < 16 := fun z hz => by
    rw [List.mem_append, List.mem_singleton] at hz
    rcases hz with hz | rfl
    · exact hr z hz
    · exact ⟨h0, h1⟩
  have hlt := hq.lt
  have hx : decide (16 ≤ k) = false := by simp; omega
  clear hn hr hk
  go_enter Try.func21, Try.ntmps21
  go_wp2_with fail
  refine (has_ok g B zs k _ hq (by omega)).mono ?_
  rintro e w1 ⟨rfl, rfl⟩
  go_wp2_with fail
  refine (hpush g B zs k _ hq hh (by omega) hB).mono ?_
  rintro e w1 ⟨rfl, zs', hq', hN', hh', hp⟩
  have hS : SI w1 B g zs' := ⟨hq', hh', hp.symm.nodup hN, fun z hz => hR z (hp.mem_iff.1 hz)⟩
  go_wp2_with fail
  go_ret
  exact ⟨rfl, zs', hS, hN', hp⟩
theorem give_no (g B : Nat) (zs : List Int) (k : Int) (w : World) (h : SI w B g zs) (hk : k < 0 ∨ 16 ≤ k ∨ k ∈ zs) :
    Calls Try.prog 21 #[.pointer (some ⟨g, 0, none⟩), .int .i64 k] w fun e w' => e = .returned (.bool false) ∧ w = w' := by
  have hl := h.len
  have hq := h.1
  rcases (show k < 0 ∨ (0 ≤ k ∧ 16 ≤ k) ∨ (0 ≤ k ∧ k < 16 ∧ k ∈ zs) by rcases hk with h | h | h; exact .inl h; exact .inr (.inl ⟨by omega, h⟩); exact .inr (.inr ⟨(‹SI w B g zs›.2.2.2 k h).1, (‹SI w B g zs›.2.2.2 k h).2, h⟩)) with h1 | ⟨h1, h2⟩ | ⟨h1, h2, h3⟩
  · clear hk h hq
    go_enter Try.func21, Try.ntmps21
    go_wp2_with fail
    go_ret
    exact ⟨rfl, rfl⟩
  · clear hk h hq
    go_enter Try.func21, Try.ntmps21
    go_wp2_with fail
    go_ret
    exact ⟨rfl, rfl⟩
  · have hd : decide (k ∈ zs) = true := by simpa using h3
    have hx : decide (16 ≤ k) = false := by simp; omega
    clear hk h3 h
    go_enter Try.func21, Try.ntmps21
    go_wp2_with fail
    refine (has_ok g B zs k _ hq (by omega)).mono ?_
    rintro e w1 ⟨rfl, rfl⟩
    go_wp2_with fail
    go_ret
    exact ⟨rfl, rfl⟩
theorem give_nil (k : Int) (w : World) : Calls Try.prog 21 #[.pointer none, .int .i64 k] w fun e w' => e = .returned (.bool false) ∧ w = w' := by
  go_enter Try.func21, Try.ntmps21
  go_wp2_with fail
  go_ret
  exact ⟨rfl, rfl⟩
theorem take_nil (w : World) : Calls Try.prog 22 #[.pointer none] w fun e w' => e = .returned (.tuple #[.int .i64 0, .bool false]) ∧ w = w' := by
  go_enter Try.func22, Try.ntmps22
  go_wp2_with fail
  refine (len_nil _).mono ?_
  rintro e w1 ⟨rfl, rfl⟩
  go_wp2_with fail
  go_ret2
  exact ⟨rfl, rfl⟩
theorem take_no (g B : Nat) (w : World) (h : QI w B g []) : Calls Try.prog 22 #[.pointer (some ⟨g, 0, none⟩)] w fun e w' => e = .returned (.tuple #[.int .i64 0, .bool false]) ∧ w = w' := by
  go_enter Try.func22, Try.ntmps22
  go_wp2_with fail
  refine (len_ok g B [] _ h).mono ?_
  rintro e w1 ⟨rfl, rfl⟩
  go_wp2_with fail
  go_ret2
  exact ⟨rfl, rfl⟩
theorem take_ok (g B : Nat) (zs : List Int) (w : World) (h : SI w B g zs) (h0 : zs ≠ []) :
    Calls Try.prog 22 #[.pointer (some ⟨g, 0, none⟩)] w fun e w' => e = .returned (.tuple #[.int .i64 (el zs 0), .bool true]) ∧ ∃ zs', SI w' B g zs' ∧ Near B w w' ∧ (zs' ++ [el zs 0]).Perm zs := by
  have hl := h.len
  have hpos : 0 < zs.length := List.length_pos_iff.2 h0
  obtain ⟨m, hm⟩ : ∃ m, zs.length = m + 1 := ⟨zs.length - 1, by omega⟩
  obtain ⟨hq, hh, hn, hr⟩ := h
  have hz : ((zs.length : Int) == 0) = false := by simp; omega
  have ha := assert_int (el zs 0)
  have hlt := hq.lt
  have HH := Lib.hid hh; have HM := Lib.hid hm
  clear h0 hh hm
  go_enter Try.func22, Try.ntmps22
  go_wp2_with fail
  refine (len_ok g B zs _ hq).mono ?_
  rintro e w1 ⟨rfl, rfl⟩
  go_wp2_with fail
  refine (hpop g B m zs _ hq HH.out HM.out (by omega)).mono ?_
  rintro e w1 ⟨rfl, zs', hq', hN', hh', hp⟩
  have hnd := hp.symm.nodup hn
  have hS : SI w1 B g zs' := ⟨hq', hh', (List.nodup_append.1 hnd).1, fun z hz => hr z (hp.mem_iff.1 (List.mem_append_left _ hz))⟩
  go_wp2_with fail
  go_ret2
  exact ⟨rfl, zs', hS, hN', hp⟩
end Go.Proofs.Ytbmpocalapgmjab
