/- The walk of the law ModelOwn. -/
import Derived.Test.YtbmpocalapgmjabOwn2
import Derived.Deep.RegionWith
namespace Go.Proofs.Ytbmpocalapgmjab.modelOwn
open Go.RowKit
set_option linter.unusedVariables false
theorem fld (a : Nat) (w : World) : (Instr.field 27 (.agg #[.int .i64 0, .slice (some ⟨a, 0, none⟩) 32 32]) 1).run Try.prog w = .ok (.slice (some ⟨a, 0, none⟩) 32 32) w := by kernel_rfl
theorem one5 (b : Int) (h0 : 0 ≤ b) (h1 : b ≤ 255) : (bcells (one 5 b))[5]? = some (.int .u8 b) := by
  rw [← one_cells 5 b h0 h1]; rfl
set_option maxHeartbeats 2000000 in
theorem walk (a0 : Int) (a1 : Int) (w0 : (Lit.int .i64 a0).wf = true) (w1 : (Lit.int .u8 a1).wf = true) (w : World) :
    Calls Try.prog 5 #[.int .i64 a0, .int .u8 a1] w fun e w' => e = .returned (.bool true) ∧ Below w.heap.size w w' := by
  have b0 := bounds_i64 w0
  have b1 := bounds_u8 w1
  clear w0 w1
  by_cases hb : 0 ≤ a0 ∧ a0 < 32
  · obtain ⟨p0, p1⟩ := hb
    obtain ⟨k, rfl⟩ := Int.eq_ofNat_of_zero_le p0
    have hk : k < 32 := by omega
    have g1 : decide ((32 : Int) ≤ (k : Int)) = false := by simp; omega
    have hm := make32
    have hset : (bcells zeros).setIfInBounds 5 (.int .u8 a1) = bcells (one 5 a1) := one_cells 5 a1 b1.1 b1.2
    have hz0 : (bcells zeros)[5]? = some (.int .u8 0) := rfl
    have ho := one5 a1 b1.1 b1.2
    have hl1 : (one 5 a1).length = 32 := by simp [one, zeros]
    go_enter Try.func5, Try.ntmps5
    go_wp2_with fail
    refine (new_own _).mono ?_
    rintro e w1 ⟨rfl, m1, bl1⟩
    go_wp2_with fail
    have x2 : Has (w1.alloc (.cells (bcells (one 5 a1)) 5)) (.slice (some ⟨w1.heap.size, 0, none⟩) 32 32) (one 5 a1) := Has.made w1 _ hl1 32
    have d2 := Blk.new w1 5 (bcells (one 5 a1))
    have m2 := m1.alloc (.cells (bcells (one 5 a1)) 5)
    have bel2 := bl1.alloc bl1.size (.cells (bcells (one 5 a1)) 5)
    have hl2 : w.heap.size ≤ (w1.alloc (.cells (bcells (one 5 a1)) 5)).heap.size := bel2.size
    have hgd : w.heap.size < w1.heap.size := m1.lt
    refine (do_write_own w.heap.size k _ 32 (one 5 a1) nils nils _ m2 (by simp [nils]) (fun v hv => by rw [List.eq_of_mem_replicate hv]; rfl) hk x2.data).mono ?_
    rintro e w3 ⟨rfl, g', c', m3, v3, hg3, o3⟩
    have e3 : EI w3 w.heap.size k g' c' (one 5 a1) := ⟨m3, v3⟩
    have d3 := d2.grown o3 (by intro e; injection e; omega)
    have bel3 := below_only bel2 o3 hl2 (Nat.le_refl _)
    have hdg : w1.heap.size < g' := by simp at hg3; omega
    have s3 := o3.size
    clear m2 o3 x2 bel2 hl2 hset hz0 m1 bl1 m3 v3 d2 hg3
    have c3 : w3.cell? ⟨w1.heap.size, 5, none⟩ = some (.int .u8 a1) := d3.cell_ 5 ho
    have f3 := d3.frozen 5
    have l3 := d3.lt
    go_wp2_with fail
    have e4 := e3.far (p := ⟨w1.heap.size, 5, none⟩) (by simp; omega) (by simp; omega) (Value.int IntKind.u8 ((a1 + 1) % 256))
    have bel4 := bel3.setCell (p := ⟨w1.heap.size, 5, none⟩) (by simp; omega) (Value.int IntKind.u8 ((a1 + 1) % 256))
    generalize w3.setCell ⟨w1.heap.size, 5, none⟩ (Value.int IntKind.u8 ((a1 + 1) % 256)) = w4 at e4 bel4 ⊢
    clear e3 d3 bel3 c3 f3 l3 hm
    refine (do_read_own w.heap.size k none 0 0 _ _ _ (e4.mi hk) hk).mono ?_
    rintro e w5 ⟨a, rfl, x5, b5, hla⟩
    have eu : upd (fun _ => zeros) k (one 5 a1) k = one 5 a1 := by unfold upd; rw [if_pos rfl]
    rw [eu] at x5
    have e5 := e4.below b5
    have bel5 := bel4.trans (b5.mono bel4.size)
    have s4 := e4.lt
    have s4' := e4.1.lt
    have c5 : w5.cell? ⟨a, 5, none⟩ = some (.int .u8 a1) := x5.cell_ 5 ho
    have f5 := x5.frozen 5
    have l5 := x5.lt
    have hf := fld a
    clear e4 bel4 b5
    go_wp2_with fail
    have e6 := e5.far (p := ⟨a, 5, none⟩) (by simp; omega) (by simp; omega) (Value.int IntKind.u8 ((a1 + 1) % 256))
    have bel6 := bel5.setCell (p := ⟨a, 5, none⟩) (by simp; omega) (Value.int IntKind.u8 ((a1 + 1) % 256))
    generalize w5.setCell ⟨a, 5, none⟩ (Value.int IntKind.u8 ((a1 + 1) % 256)) = w6 at e6 bel6 ⊢
    clear e5 bel5 c5 f5 l5 hf x5
    refine (do_read_own w.heap.size k none 0 0 _ _ _ (e6.mi hk) hk).mono ?_
    rintro e w7 ⟨q, rfl, x7, b7, hlq⟩
    rw [eu] at x7
    have bel7 := bel6.trans (b7.mono bel6.size)
    have c7 : w7.cell? ⟨q, 5, none⟩ = some (.int .u8 a1) := x7.cell_ 5 ho
    have l7 := x7.lt
    have hf := fld q
    have he := field_err
    clear e6 bel6 b7
    go_wp2_with fail
    refine (crash_nil _).mono ?_
    rintro e w8 ⟨rfl, rfl⟩
    go_wp2_with fail
    refine (do_nil _ _ _ _ _ _).mono ?_
    rintro e w9 ⟨rfl, b9⟩
    have bel9 := bel7.trans (b9.mono bel7.size)
    go_wp2_with fail
    refine (last_nil _ _).mono ?_
    rintro e w10 ⟨rfl, rfl⟩
    go_wp2_with fail
    refine (mknown_ok _).mono ?_
    rintro e w11 ⟨rfl, b11⟩
    have bel11 := bel9.trans (b11.mono bel9.size)
    go_wp2_with fail
    go_ret
    exact ⟨rfl, bel11⟩
  · rcases (by omega : a0 < 0 ∨ (0 ≤ a0 ∧ 32 ≤ a0)) with h2 | ⟨h2, h3⟩
    all_goals
      clear hb
      go_enter Try.func5, Try.ntmps5
      go_wp2_with fail
      go_ret
      exact ⟨rfl, Below.refl _ _⟩
end Go.Proofs.Ytbmpocalapgmjab.modelOwn
