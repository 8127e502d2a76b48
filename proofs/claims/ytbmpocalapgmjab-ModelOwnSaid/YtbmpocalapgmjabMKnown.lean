/- The law's small example of the model. -/
import Derived.Test.YtbmpocalapgmjabSame
import Derived.Deep.RegionWith
namespace Go.Proofs.Ytbmpocalapgmjab
open Go.RowKit
set_option linter.unusedVariables false
theorem field_err (w : World) : (Instr.field 27 (.agg #[.int .i64 1, .slice none 0 0]) 0).run Try.prog w = .ok (.int .i64 1) w := by kernel_rfl
set_option maxHeartbeats 2000000 in
theorem mknown_ok (w : World) : Calls Try.prog 13 #[] w fun e w' => e = .returned (.bool true) ∧ Below w.heap.size w w' := by
  have hm := make32
  have hconv : ∀ W : World, (convert 24 9 (.slice (some ⟨W.heap.size, 0, none⟩) 32 32)).run Try.prog (W.alloc (.cells (bcells zeros) 5)).drew = .ok (.string (str zeros)) (W.alloc (.cells (bcells zeros) 5)).drew := conv_made zeros (by simp [zeros])
  have ho : ¬ okc 0 0 0 := by unfold okc; omega
  have H := Lib.hid ho; clear ho
  go_enter Try.func13, Try.ntmps13
  go_wp2_with fail
  refine (new_ok _).mono ?_
  rintro e w1 ⟨rfl, m1, b1⟩
  go_wp2_with fail
  refine (do_read w.heap.size 3 none 0 0 _ _ _ m1 (by omega)).mono ?_
  rintro e w2 ⟨a, rfl, h2, b2, ha⟩
  have hs1 := b1.size
  have hs2 := b2.size
  have lm := m1.lt
  have bel2 : Below w.heap.size w w2 := b1.trans (b2.mono hs1)
  have k3 := Blk.new w2 27 #[.int .i64 0, .slice (some ⟨a, 0, none⟩) 32 32]
  have h3 := h2.alloc (.cells #[.int .i64 0, .slice (some ⟨a, 0, none⟩) 32 32] 27)
  have bel3 : Below w.heap.size w (w2.alloc (.cells #[.int .i64 0, .slice (some ⟨a, 0, none⟩) 32 32] 27)) := bel2.alloc (by omega) _
  have hs3 : (w2.alloc (.cells #[.int .i64 0, .slice (some ⟨a, 0, none⟩) 32 32] 27)).heap.size = w2.heap.size + 1 := by simp
  obtain ⟨w3, hw3⟩ : ∃ w3, w3 = w2.alloc (.cells #[.int .i64 0, .slice (some ⟨a, 0, none⟩) 32 32] 27) := ⟨_, rfl⟩
  rw [← hw3] at k3 h3 bel3 hs3
  have c0 : w3.cell? ⟨w2.heap.size, 0, none⟩ = some (.int .i64 0) := k3.cell_ 0 rfl
  have c1 : w3.cell? ⟨w2.heap.size, 1, none⟩ = some (.slice (some ⟨a, 0, none⟩) 32 32) := k3.cell_ 1 rfl
  have hl : w2.heap.size < w3.heap.size := by omega
  have hq := h3.conv
  have W3 := Lib.hid hw3; clear hw3
  have HS3 := Lib.hid hs3; clear hs3
  go_wp2_with fail
  rw [← W3.out]
  have q0 := h3.drew.conv
  have hfd := field_err
  have q1 := (h3.alloc (.cells (bcells zeros) 5)).drew.conv
  go_region_with (first | (go_at_call 10; refine (do_bad w.heap.size 0 0 none 0 0 _ H.out (some ⟨w.heap.size, 0, none⟩) (.inl rfl)).mono ?_; rintro e w5 ⟨rfl, hb5⟩))
  all_goals
    go_wp2_with fail
    go_ret
    exact ⟨rfl, (bel3.alloc (by omega) _).drew.trans (hb5.mono (by simp; omega))⟩
end Go.Proofs.Ytbmpocalapgmjab
