/- The walk of the law SparePlays. -/
import Derived.Test.YtbmpocalapgmjabSAny
import Derived.Deep.RegionHeld3
namespace Go.Proofs.Ytbmpocalapgmjab.sparePlays
open Go.RowKit
set_option linter.unusedVariables false
/-- a slice of acts that came in -/
def ActRow (w : World) (A : Option Addr) (len : Nat) : Prop :=
  len = 0 ∨ ∃ b off, A = some ⟨b, off, none⟩ ∧ b < w.heap.size ∧ ∀ i, i < len → ∃ (k l : Int), w.cell? ⟨b, off + i * 2, none⟩ = some (.int .i64 k) ∧ w.cell? ⟨b, off + i * 2 + 1, none⟩ = some (.int .i64 l)
theorem inRow {a0 : Option Addr} {len0 cap0 : Nat} {z0 : List Int} {w : World} (h : IsRow .i64 w a0 len0 cap0 z0) : InRow w a0 len0 (fun i => z0.getD i 0) := by
  obtain ⟨_, _, h⟩ := h.open_
  rcases h with h | ⟨b, off, h1, h2, _, h4, _⟩
  · exact .inl h
  · exact .inr ⟨b, off, h1, h2, h4⟩
theorem near_only {g x : Nat} {w a b : World} (h : Near g w a) (hg : a.grownBy b (some x)) (hx : w.heap.size ≤ x) (hgw : g ≤ w.heap.size) : Near g w b :=
  ⟨below_only h.1 hg (Nat.le_trans hgw h.size) (Nat.le_trans hgw hx), fun y cs hy => (h.2 y cs hy).grown hg (fun e => by injection e with e; have := hy.lt; omega)⟩
theorem rgive_s (x : Nat) (k : Int) (S : Nat → Bool) (w : World) (h : RS w x S) :
    Calls Try.prog 20 #[.pointer (some ⟨x, 0, none⟩), .int .i64 k] w fun e w' => ∃ b, e = .returned (.bool b) ∧ ∃ S', RS w' x S' ∧ w.grownBy w' (some x) ∧ ∀ i, i < 16 → (S' i = true ↔ S i = true ∨ (i : Int) = k) := by
  obtain ⟨zs, hz⟩ : ∃ zs, zs = ((List.range 16).filter S).map (fun k : Nat => (k : Int)) := ⟨_, rfl⟩
  have hmem : ∀ i : Nat, i < 16 → ((i : Int) ∈ zs ↔ S i = true) := fun i hi => by
    rw [hz]
    simp only [List.mem_map, List.mem_filter, List.mem_range]
    constructor
    · rintro ⟨j, ⟨_, a⟩, e⟩
      obtain rfl : j = i := by omega
      exact a
    · intro a
      exact ⟨i, ⟨hi, a⟩, rfl⟩
  have hm : Match zs S := fun i hi => by rw [Bool.eq_iff_iff, decide_eq_true_eq, hmem i hi]
  refine (rgive_any x zs k S w h hm).mono ?_
  rintro e w' ⟨rfl, S', hs, hg, hi⟩
  refine ⟨_, rfl, S', hs, hg, fun i hi' => ?_⟩
  rw [hi i hi', hmem i hi']
  constructor
  · rintro (a | a)
    · exact .inl a
    · exact .inr a.1
  · rintro (a | a)
    · exact .inl a
    · exact .inr ⟨a, by omega, by omega⟩
set_option maxRecDepth 100000 in
set_option maxHeartbeats 4000000 in
theorem walk (a0 : Option Addr) (len0 cap0 : Nat) (z0 : List Int) (a1 : Option Addr) (len1 cap1 : Nat) (w : World) (h0 : IsRow .i64 w a0 len0 cap0 z0) (h1 : ActRow w a1 len1) (hm1 : len1 ≤ 9223372036854775807) :
    Calls Try.prog 6 #[.slice a0 len0 cap0, .slice a1 len1 cap1] w fun e w' => e = .returned (.bool true) ∧ Below w.heap.size w w' := by
  have hr := inRow h0
  have hmax := h0.open_.1
  clear h0
  by_cases hl : len1 ≤ 200
  · by_cases hl0 : len0 ≤ 40
    · obtain ⟨ls, hls⟩ : ∃ ls, ls = (fun i => z0.getD i 0) := ⟨_, rfl⟩
      rw [← hls] at hr
      clear hls
      obtain ⟨g, hg⟩ : ∃ g, g = w.heap.size := ⟨_, rfl⟩
      have hnew := snew_ok a0 len0 cap0 ls w hr (by omega)
      rw [← hg] at hnew ⊢
      have hgw : g = w.heap.size := hg
      have HG := Lib.hid hgw
      clear hg hgw
      have t1 : decide ((200 : Int) < (len1 : Int)) = false := by simp; omega
      have t2 : decide ((40 : Int) < (len0 : Int)) = false := by simp; omega
      go_enter Try.func6, Try.ntmps6
      go_wp2_with fail
      refine hnew.mono ?_
      rintro e w1 ⟨rfl, zs, hs, hN, hz⟩
      clear hnew t1 t2
      have hR0 : RS (w1.alloc (.cells (bls (fun _ => false)) 55)) w1.heap.size (fun _ => false) := Blk.new w1 55 _
      have hbel : Below w1.heap.size w1 (w1.alloc (.cells (bls (fun _ => false)) 55)) := (Below.refl _ _).alloc (Nat.le_refl _) _
      have hs0 := hs.below hbel
      have hN0 := hN.alloc (by rw [HG.out]; exact hN.size) (.cells (bls (fun _ => false)) 55)
      obtain ⟨x, hx⟩ : ∃ x, x = w1.heap.size := ⟨_, rfl⟩
      rw [← hx] at hR0
      have HX := Lib.hid hx
      have hgx : g ≤ x := by rw [HX.out, HG.out]; exact hN.size
      clear hs hN hbel hx
      go_wp2_with fail
      rw [← HX.out]
      have hxw : w.heap.size ≤ x := by have := HG.out; omega
      have hgw : g ≤ w.heap.size := by have := HG.out; omega
      clear HX
      go_loopw [7] (fun i wr => ∃ (j : Nat) (S : Nat → Bool), i = .int .i64 j ∧ j ≤ len0 ∧ SI wr g g zs ∧ RS wr x S ∧ Near g w wr ∧ ∀ k, k < 16 → (S k = true ↔ ∃ i, i < j ∧ ls i = (k : Int))) (fun i _ => len0 - (intOf i).toNat)
      case atStart => exact ⟨0, _, rfl, by omega, hs0, hR0, hN0, fun k _ => by simp⟩
      case round =>
        obtain ⟨j, S, rfl, hj, hs1, hR1, hN1, hS1⟩ := hrel
        clear hs0 hR0 hN0
        by_cases hlt : j < len0
        · obtain ⟨b, off, rfl, hbl, hc⟩ := hr.resolve_left (by omega)
          have hcj := (hN1.1.cell (by rw [HG.out]; exact hbl)).trans (hc j hlt)
          have i0 : (0 : Int) ≤ (j : Int) := by omega
          have i1 : (j : Int) < (len0 : Int) := by omega
          clear hc hr h1
          go_wp2_with fail
          refine (rgive_s x (ls j) S _ hR1).mono ?_
          rintro e w3 ⟨bb, rfl, S', hR3, hg3, hi3⟩
          have hs3 := hs1.only hg3 hR1
          have hN3 := near_only hN1 hg3 hxw hgw
          have hS3 : ∀ k, k < 16 → (S' k = true ↔ ∃ i, i < j + 1 ∧ ls i = (k : Int)) := fun k hk => by
            rw [hi3 k hk, hS1 k hk]
            constructor
            · rintro (⟨i, a, e⟩ | e)
              · exact ⟨i, by omega, e⟩
              · exact ⟨j, by omega, e.symm⟩
            · rintro ⟨i, a, e⟩
              by_cases hij : i = j
              · subst hij; exact .inr e.symm
              · exact .inl ⟨i, by omega, e⟩
          clear hs1 hR1 hN1 hS1 hg3 hi3 hcj
          go_wp2_with fail
          go_roundw
          case rel => exact ⟨j + 1, S', by go_num, by omega, hs3, hR3, hN3, hS3⟩
          case measure => simp [intOf]; omega
        · obtain rfl : j = len0 := by omega
          have hM : Match zs S := fun k hk => by
            rw [Bool.eq_iff_iff, decide_eq_true_eq, hS1 k hk, hz]
            exact ⟨fun a => ⟨by omega, by omega, a⟩, fun a => a.2.2⟩
          have hdj : decide ((j : Int) < (j : Int)) = false := by simp
          obtain ⟨wo, hwo⟩ : ∃ wo : World, wo = wr := ⟨_, rfl⟩
          subst hwo
          clear hS1 hz hr
          go_wp2_with fail
          go_loopw [8] (fun i wr => ∃ (k : Nat) (zs : List Int) (S : Nat → Bool), i = .int .i64 k ∧ k ≤ len1 ∧ SI wr g g zs ∧ RS wr x S ∧ Match zs S ∧ Near g w wr) (fun i _ => len1 - (intOf i).toNat)
          case atStart => exact ⟨0, zs, S, rfl, by omega, hs1, hR1, hM, hN1⟩
          case round =>
            clear hs1 hR1 hM hN1 hdj
            obtain ⟨k, zs, S, rfl, hk, hS0, hR0, hM, hN0⟩ := hrel
            by_cases hlt : k < len1
            · obtain ⟨b, off, rfl, hbl, hcs⟩ := h1.resolve_left (by omega)
              obtain ⟨kd, sl, k0, k1⟩ := hcs k hlt
              have hblg : b < g := by rw [HG.out]; exact hbl
              have j0 := (hN0.1.cell hblg).trans k0
              have hi0 : (0 : Int) ≤ (k : Int) := by omega
              have hi1 : (k : Int) < (len1 : Int) := by omega
              clear hcs h1
              by_cases hkd : kd = 1
              · subst hkd
                go_wp2_with fail
                have hS := hS0.drew
                have hR : RS wr.drew x S := hR0
                have hN := hN0.drew
                clear j0 hS0 hR0 hN0
                go_region_held3 (fun w' => w'.cell? ⟨b, off + k * 2 + 1, none⟩ = some (.int .i64 sl))
                  (exact (hN.1.cell hblg).trans k1)
                  (first | (go_at_call 21; refine (give_any g g zs sl _ hS (Nat.le_trans (Nat.le_of_eq HG.out) hN.size)).mono ?_; rintro e w8 ⟨rfl, zs', hS', hN', hZ⟩; replace hS := hS'; replace hR := hR.near hN'; replace hN := hN.trans hN') | (go_at_call 20; refine (rgive_any x zs sl S _ hR hM).mono ?_; rintro e w9 ⟨rfl, S', hR', hg', hZ2⟩; replace hS := hS.only hg' hR; replace hN := near_only hN hg' hxw hgw; replace hR := hR'))
                have hM9 : Match zs' S' := fun i hi => by rw [Bool.eq_iff_iff, decide_eq_true_eq, hZ2 i hi, hZ]
                have hs9 := hS
                have hR9 := hR
                have hN9 := hN
                clear hZ hZ2 hg' hR' hN' hS' hM hS hR hN
                go_wp2_with fail
                go_loopw [13] (fun i wr => ∃ j : Nat, i = .int .i64 ((j : Int) - 1) ∧ w9 = wr ∧ j ≤ 18) (fun i _ => 18 - (intOf i + 1).toNat)
                case atStart => exact ⟨0, rfl, rfl, by omega⟩
                case round =>
                  obtain ⟨j, rfl, rfl, hj18⟩ := hrel
                  by_cases hjl : j < 18
                  · have hA : (j : Int) - 1 ≤ 16 := by omega
                    go_wp2_with fail
                    refine (has_ok g g zs' _ _ hs9.1 (by have := hs9.len; omega)).mono ?_
                    rintro e w10 ⟨rfl, rfl⟩
                    go_wp2_with fail
                    refine (rhas_any x g g zs' _ S' _ _ hR9 hM9 hs9).mono ?_
                    rintro e w10 ⟨rfl, rfl⟩
                    go_wp2_with fail
                    go_roundw
                    case rel => exact ⟨j + 1, by go_num, trivial, by omega⟩
                    case measure => simp [intOf]; omega
                  · have hA : decide ((j : Int) - 1 ≤ 16) = false := by simp; omega
                    go_wp2_with fail
                    refine (len_ok g g zs' _ hs9.1).mono ?_
                    rintro e w10 ⟨rfl, rfl⟩
                    go_wp2_with fail
                    refine (rlen_any x g g zs' S' _ _ hR9 hM9 hs9).mono ?_
                    rintro e w10 ⟨rfl, rfl⟩
                    go_wp2_with fail
                    exact ⟨⟨k + 1, zs', S', by go_num, by omega, hs9, hR9, hM9, hN9⟩, by simp [intOf]; omega⟩
              · have hkd' : (kd == 1) = false := by simpa using hkd
                clear hkd
                go_wp2_with fail
                refine (take_any g g zs _ hS0).mono ?_
                rintro e w8 ⟨rfl, zs', hs8, hN8, hZ⟩
                have hR8 := hR0.near hN8
                have hN8' := hN0.trans hN8
                clear j0
                go_wp2_with fail
                refine (rtake_any x g g zs S _ _ hR8 hM hS0).mono ?_
                rintro e w9 ⟨rfl, S', hR9, hg9, hZ2⟩
                have hM9 : Match zs' S' := fun i hi => by rw [Bool.eq_iff_iff, decide_eq_true_eq, hZ2 i hi, hZ]
                have hs9 := hs8.only hg9 hR8
                have hN9 := near_only hN8' hg9 hxw hgw
                clear hS0 hR0 hM hN0 hs8 hN8 hZ hR8 hN8' hg9 hZ2
                go_wp2_with fail
                go_loopw [13] (fun i wr => ∃ j : Nat, i = .int .i64 ((j : Int) - 1) ∧ w9 = wr ∧ j ≤ 18) (fun i _ => 18 - (intOf i + 1).toNat)
                case atStart => exact ⟨0, rfl, rfl, by omega⟩
                case round =>
                  obtain ⟨j, rfl, rfl, hj18⟩ := hrel
                  by_cases hjl : j < 18
                  · have hA : (j : Int) - 1 ≤ 16 := by omega
                    go_wp2_with fail
                    refine (has_ok g g zs' _ _ hs9.1 (by have := hs9.len; omega)).mono ?_
                    rintro e w10 ⟨rfl, rfl⟩
                    go_wp2_with fail
                    refine (rhas_any x g g zs' _ S' _ _ hR9 hM9 hs9).mono ?_
                    rintro e w10 ⟨rfl, rfl⟩
                    go_wp2_with fail
                    go_roundw
                    case rel => exact ⟨j + 1, by go_num, trivial, by omega⟩
                    case measure => simp [intOf]; omega
                  · have hA : decide ((j : Int) - 1 ≤ 16) = false := by simp; omega
                    go_wp2_with fail
                    refine (len_ok g g zs' _ hs9.1).mono ?_
                    rintro e w10 ⟨rfl, rfl⟩
                    go_wp2_with fail
                    refine (rlen_any x g g zs' S' _ _ hR9 hM9 hs9).mono ?_
                    rintro e w10 ⟨rfl, rfl⟩
                    go_wp2_with fail
                    exact ⟨⟨k + 1, zs', S', by go_num, by omega, hs9, hR9, hM9, hN9⟩, by simp [intOf]; omega⟩
            · obtain rfl : k = len1 := by omega
              have hdk : decide ((k : Int) < (k : Int)) = false := by simp
              clear h1
              go_wp2_with fail
              refine (known_ok _).mono ?_
              rintro e w3 ⟨rfl, hN3⟩
              have hsz := hN0.size
              go_wp2_with fail
              go_ret
              exact ⟨rfl, HG.out ▸ (hN0.trans (hN3.mono (by omega))).1⟩
    · have hx : decide ((200 : Int) < (len1 : Int)) = false := by simp; omega
      have hgt : (40 : Int) < (len0 : Int) := by omega
      clear hr h1
      go_enter Try.func6, Try.ntmps6
      go_wp2_with fail
      go_ret
      exact ⟨rfl, Below.refl _ _⟩
  · have hgt : (200 : Int) < (len1 : Int) := by omega
    clear hr h1
    go_enter Try.func6, Try.ntmps6
    go_wp2_with fail
    go_ret
    exact ⟨rfl, Below.refl _ _⟩
end Go.Proofs.Ytbmpocalapgmjab.sparePlays
