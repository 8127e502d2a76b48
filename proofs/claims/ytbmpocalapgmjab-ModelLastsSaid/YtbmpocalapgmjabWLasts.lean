/- The walk of the law ModelLasts. -/
import Derived.Test.YtbmpocalapgmjabMi
import Derived.Deep.RegionWith
namespace Go.Proofs.Ytbmpocalapgmjab.modelLasts
open Go.RowKit
set_option linter.unusedVariables false
set_option maxHeartbeats 2000000 in
theorem walk (a0 : Int) (a1 : Int) (a2 : Int) (w0 : (Lit.int .i64 a0).wf = true) (w1 : (Lit.int .i64 a1).wf = true) (w2 : (Lit.int .u8 a2).wf = true) (w : World) :
    Calls Try.prog 3 #[.int .i64 a0, .int .i64 a1, .int .u8 a2] w fun e w' => e = .returned (.bool true) ∧ Below w.heap.size w w' := by
  have b0 := bounds_i64 w0
  have b1 := bounds_i64 w1
  have b2 := bounds_u8 w2
  clear w0 w1 w2
  by_cases hb : (0 ≤ a0 ∧ a0 < 32) ∧ (0 ≤ a1 ∧ a1 < 32) ∧ a0 ≠ a1 ∧ a2 ≠ 0
  · obtain ⟨⟨p0, p1⟩, ⟨q0, q1⟩, hne, hd⟩ := hb
    obtain ⟨a, rfl⟩ := Int.eq_ofNat_of_zero_le p0
    obtain ⟨b, rfl⟩ := Int.eq_ofNat_of_zero_le q0
    have g1 : decide ((32 : Int) ≤ (a : Int)) = false := by simp; omega
    have g2 : decide ((32 : Int) ≤ (b : Int)) = false := by simp; omega
    have g3 : ((a : Int) == (b : Int)) = false := by simp; omega
    have g4 : (a2 == 0) = false := by simpa using hd
    have hab : b ≠ a := by omega
    have ha : a < 32 := by omega
    have hbb : b < 32 := by omega
    have hm := make32
    have hset : (bcells zeros).setIfInBounds 0 (.int .u8 a2) = bcells (one 0 a2) := one_cells 0 a2 b2.1 b2.2
    have hz0 : (bcells zeros)[0]? = some (.int .u8 0) := rfl
    clear hne hd
    go_enter Try.func3, Try.ntmps3
    go_wp2_with fail
    refine (new_ok _).mono ?_
    rintro e w1 ⟨rfl, m1, bl1⟩
    go_wp2_with fail
    have hl1 : (one 0 a2).length = 32 := by simp [one, zeros]
    have x2 : Has (w1.alloc (.cells (bcells (one 0 a2)) 5)) (.slice (some ⟨w1.heap.size, 0, none⟩) 32 32) (one 0 a2) := Has.made w1 _ hl1 32
    have m2 := m1.below ((Below.refl _ _).alloc (Nat.le_refl _) (.cells (bcells (one 0 a2)) 5))
    have bel2 := bl1.alloc bl1.size (.cells (bcells (one 0 a2)) 5)
    have hl2 : w.heap.size ≤ (w1.alloc (.cells (bcells (one 0 a2)) 5)).heap.size := bel2.size
    refine (do_write w.heap.size a _ 32 (one 0 a2) _ _ _ m2 ha x2.data).mono ?_
    rintro e w3 ⟨rfl, m3, o3⟩
    have x3 := x2.mi m2 o3
    have bel3 := below_only bel2 o3 hl2 (Nat.le_refl _)
    clear m2 o3 x2 bel2 hl2 hset hz0
    go_wp2_with fail
    refine (do_flush w.heap.size 3 0 none 0 0 _ _ _ m3 (.inl rfl)).mono ?_
    rintro e w4 ⟨rfl, m4, o4⟩
    have x4 := x3.mi m3 o4
    have bel4 := below_only bel3 o4 bel3.size (Nat.le_refl _)
    clear m3 o4 x3 bel3
    go_wp2_with fail
    refine (do_write w.heap.size b _ 32 (one 0 a2) _ _ _ m4 hbb x4.data).mono ?_
    rintro e w5 ⟨rfl, m5, o5⟩
    have x5 := x4.mi m4 o5
    have bel5 := below_only bel4 o5 bel4.size (Nat.le_refl _)
    clear m4 o5 x4 bel4
    go_wp2_with fail
    refine (do_discard w.heap.size a none 0 0 _ _ _ m5 ha).mono ?_
    rintro e w6 ⟨rfl, m6, o6⟩
    have x6 := x5.mi m5 o6
    have bel6 := below_only bel5 o6 bel5.size (Nat.le_refl _)
    clear m5 o6 x5 bel5
    go_wp2_with fail
    refine (crash_ok w.heap.size _ _ _ m6).mono ?_
    rintro e w7 ⟨rfl, m7, o7⟩
    have x7 := x6.mi m6 o7
    have bel7 := below_only bel6 o7 bel6.size (Nat.le_refl _)
    clear m6 o7 x6 bel6
    go_wp2_with fail
    refine (do_read w.heap.size a none 0 0 _ _ _ m7 ha).mono ?_
    rintro e w8 ⟨pa, rfl, p8, b8, hpa⟩
    have ea : upd (fun _ => zeros) a (one 0 a2) a = one 0 a2 := by unfold upd; rw [if_pos rfl]
    have eb : upd (fun _ => zeros) a (one 0 a2) b = zeros := by unfold upd; rw [if_neg hab]
    rw [ea] at p8
    have x8 := x7.below b8
    have m8 := m7.below b8
    have bel8 := bel7.trans (b8.mono bel7.size)
    clear m7 x7 bel7 b8
    go_wp2_with fail
    have m9 := m8.below ((Below.refl _ _).alloc (Nat.le_refl _) (.cells #[.int .i64 0, .slice (some ⟨pa, 0, none⟩) 32 32] 27))
    have p9 := p8.alloc (.cells #[.int .i64 0, .slice (some ⟨pa, 0, none⟩) 32 32] 27)
    have x9 := x8.alloc (.cells #[.int .i64 0, .slice (some ⟨pa, 0, none⟩) 32 32] 27)
    have k9 := Blk.new w8 27 #[.int .i64 0, .slice (some ⟨pa, 0, none⟩) 32 32]
    have bel9 := bel8.alloc bel8.size (.cells #[.int .i64 0, .slice (some ⟨pa, 0, none⟩) 32 32] 27)
    refine (do_read w.heap.size b none 0 0 _ _ _ m9 hbb).mono ?_
    rintro e w10 ⟨qa, rfl, q10, b10, hqa⟩
    rw [eb] at q10
    have x10 := x9.below b10
    have p10 := p9.below b10
    have k10 := k9.below_ b10
    have bel10 := bel9.trans (b10.mono bel9.size)
    clear m8 m9 p8 p9 x8 x9 k9 bel8 bel9 b10 hm ea eb
    have hs10 := bel10.size
    have x11 := x10.alloc (.cells #[.int .i64 0, .slice (some ⟨qa, 0, none⟩) 32 32] 27)
    have p11 := p10.alloc (.cells #[.int .i64 0, .slice (some ⟨qa, 0, none⟩) 32 32] 27)
    have q11 := q10.alloc (.cells #[.int .i64 0, .slice (some ⟨qa, 0, none⟩) 32 32] 27)
    have k11 := k10.alloc (.cells #[.int .i64 0, .slice (some ⟨qa, 0, none⟩) 32 32] 27)
    have j11 := Blk.new w10 27 #[.int .i64 0, .slice (some ⟨qa, 0, none⟩) 32 32]
    have bel11 := bel10.alloc hs10 (.cells #[.int .i64 0, .slice (some ⟨qa, 0, none⟩) 32 32] 27)
    obtain ⟨w11, hw⟩ : ∃ w11, w11 = w10.alloc (.cells #[.int .i64 0, .slice (some ⟨qa, 0, none⟩) 32 32] 27) := ⟨_, rfl⟩
    rw [← hw] at x11 p11 q11 k11 j11 bel11
    have W11 := Lib.hid hw; clear hw x10 p10 q10 k10 bel10
    have c0 : w11.cell? ⟨w8.heap.size, 0, none⟩ = some (.int .i64 0) := k11.cell_ 0 rfl
    have c1 : w11.cell? ⟨w8.heap.size, 1, none⟩ = some (.slice (some ⟨pa, 0, none⟩) 32 32) := k11.cell_ 1 rfl
    have d0 : w11.cell? ⟨w10.heap.size, 0, none⟩ = some (.int .i64 0) := j11.cell_ 0 rfl
    have d1 : w11.cell? ⟨w10.heap.size, 1, none⟩ = some (.slice (some ⟨qa, 0, none⟩) 32 32) := j11.cell_ 1 rfl
    have l0 := k11.lt
    have l1 := j11.lt
    go_wp2_with fail
    rw [← W11.out]
    have hmk := make32
    have tok1 : True := trivial
    go_region_with (first | (go_at_call 12; have _t := tok1; refine (same_data pa 32 w1.heap.size 32 (one 0 a2) 0 _ p11.drew x11.drew).mono ?_; rintro e w12 ⟨rfl, hb12⟩; clear tok1; have e0 : w12.cell? ⟨w10.heap.size, 0, none⟩ = some (.int .i64 0) := (hb12.cell (by simpa using l1)).trans d0; have e1 : w12.cell? ⟨w10.heap.size, 1, none⟩ = some (.slice (some ⟨qa, 0, none⟩) 32 32) := (hb12.cell (by simpa using l1)).trans d1; have q12 := q11.drew.below hb12; have l2 : w10.heap.size < w12.heap.size := Nat.lt_of_lt_of_le l1 hb12.size) | (go_at_call 12; refine (same_data qa 32 w12.heap.size 32 zeros 0 _ (q12.alloc _) (Has.made w12 zeros (by simp [zeros]) 32)).mono ?_; rintro e w13 ⟨rfl, hb13⟩) | (go_at_call 13; refine (mknown_ok _).mono ?_; rintro e w14 ⟨rfl, hb14⟩))
    all_goals
      go_wp2_with fail
      go_ret
      have s11 := bel11.size
      have s12 := hb12.size
      simp only [World.size_drew] at s12
      have s13 := hb13.size
      simp only [World.size_alloc] at s13
      exact ⟨rfl, (((bel11.drew.trans (hb12.mono (by simpa using s11))).alloc (by omega) _).trans (hb13.mono (by simp; omega))).trans (hb14.mono (by omega))⟩
  · by_cases h0 : 0 ≤ a0 ∧ a0 < 32
    · by_cases h1 : 0 ≤ a1 ∧ a1 < 32
      · obtain ⟨p0, p1⟩ := h0
        obtain ⟨q0, q1⟩ := h1
        have g1 : decide ((32 : Int) ≤ a0) = false := by simp; omega
        have g2 : decide ((32 : Int) ≤ a1) = false := by simp; omega
        by_cases h2 : a0 = a1
        · have g3 : (a0 == a1) = true := by simpa using h2
          clear hb h2
          go_enter Try.func3, Try.ntmps3
          go_wp2_with fail
          go_ret
          exact ⟨rfl, Below.refl _ _⟩
        · have g3 : (a0 == a1) = false := by simpa using h2
          have h3 : a2 = 0 := by omega
          subst h3
          clear hb h2
          go_enter Try.func3, Try.ntmps3
          go_wp2_with fail
          go_ret
          exact ⟨rfl, Below.refl _ _⟩
      · obtain ⟨p0, p1⟩ := h0
        have g1 : decide ((32 : Int) ≤ a0) = false := by simp; omega
        rcases (by omega : a1 < 0 ∨ (0 ≤ a1 ∧ 32 ≤ a1)) with h2 | ⟨h2, h3⟩
        all_goals
          clear hb h1
          go_enter Try.func3, Try.ntmps3
          go_wp2_with fail
          go_ret
          exact ⟨rfl, Below.refl _ _⟩
    · rcases (by omega : a0 < 0 ∨ (0 ≤ a0 ∧ 32 ≤ a0)) with h2 | ⟨h2, h3⟩
      all_goals
        clear hb h0
        go_enter Try.func3, Try.ntmps3
        go_wp2_with fail
        go_ret
        exact ⟨rfl, Below.refl _ _⟩
end Go.Proofs.Ytbmpocalapgmjab.modelLasts
