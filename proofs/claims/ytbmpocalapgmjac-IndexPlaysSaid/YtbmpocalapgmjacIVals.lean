/- maps.Values and its iterator at index's map: each value once, in some order. -/
import Derived.Test.YtbmpocalapgmjacIx
import Derived.Shelf.SlIterI.Sorted
import Derived.Maps.OwnIn
namespace Go.Proofs.Ytbmpocalapgmjac.index
open Go.RowKit Go.Maps Go.Sort Go.Shelf
set_option linter.unusedVariables false
/-- a block's slot -/
def vf (S : Nat → Int) (x : Int) : Int := S x.toNat - 1
set_option maxRecDepth 100000 in
set_option maxHeartbeats 1000000 in
theorem vals_in (F : Fence) (n : Nat) (h10 : F.fn 42) (hro : F.round = none) (hn : 1 ≤ n) (l Bm b nn : Nat) (D0 : DataW Unit) (S : Nat → Int) (hI : IX D0 S) (J : List Int → World → Prop)
    (hY : ∀ pre x W, J pre W → pre.length < Maps.size D0 → YieldAt F (n - 1) Try.prog l #[encZ x] W fun e W' => e = .returned (.bool true) ∧ J (pre ++ [x]) W' ∧ KeepsWalks W W')
    (W : World) (hJ : AbidesFrom W.heap.size J) (hm : W.cell? ⟨Bm, 0, none⟩ = some (.map (some b))) (hown : W.ownsMap Try.prog 3 (plainElem (H := Unit) Try.prog 3) b nn D0) (h0 : J [] W) :
    CallsIn F n Try.prog 42 #[.func (.yield l) #[] #[], .pointer (some ⟨Bm, 0, none⟩)] W fun e W' => (∃ v, e = .returned v) ∧ ∃ ss : List Int, (∃ ks : List Int, ks.Perm (intKeys D0) ∧ ss = ks.map (vf S)) ∧ J ss W' := by
  have u0 := run_underlying Try.underlying0; have u4 := run_underlying Try.underlying4; have u64 := run_underlying Try.underlying64; have u3 := run_underlying Try.underlying3; have u31 := run_underlying Try.underlying31
  refine callsIn_of_wp Try.func42 rfl h10 ?_ hro
  simp only [Try.ntmps42, List.size_toArray, List.length_cons, List.length_nil, Nat.reduceAdd, Nat.reduceSub, Array.replicate_succ, Array.replicate_zero, List.push_toArray, List.append_toArray, List.nil_append, List.cons_append]
  gi_wp2_with (first
    | (gi_at_range; refine wpListIn_range_own _ rfl _ 64 rfl 3 3 kd Try.underlying64 _ b nn _ rfl hown ?_; intro w0 hrg0 hg0 hs0)
    | gi_in)
  go_frame
  gi_loopw [4] (fun _ wr => ∃ (left : Lit → Bool) (cnt : Nat) (ks : List Int), wr.ranges Try.prog 3 (plainElem (H := Unit) Try.prog 3) b W.heap.size nn D0 left cnt ∧ ks.length + cnt ≤ Maps.size D0 ∧ CollectedI D0 left ks ∧ J (ks.map (vf S)) wr)
    (fun _ wr => wr.rangeLeft b W.heap.size)
  case atStart =>
    exact ⟨_, _, [], hrg0, by simp, CollectedI.start D0, hJ [] W w0 none h0 hg0 (fun r e => by cases e)⟩
  case round =>
    obtain ⟨left, cnt, ks, hrg, hcs, hC, hJs⟩ := hrel
    gi_wp2_with (first
      | (gi_at_next; refine wpListIn_next_ranges_ii _ rfl _ rfl 3 3 .i64 .i64 kd Try.underlying3 Try.underlying3 b W.heap.size nn _ _ _ rfl hrg ?_ ?_)
      | gi_in)
    · intro hc0 hl0
      gi_wp2
      go_end0
      exact ⟨⟨_, rfl⟩, _, ⟨ks, hC.perm hown kd Try.underlying3 hl0, rfl⟩, hJs⟩
    · intro x c w2 cnt2 hwx hwc hlk hat hrg2 hlt hg2 hs2 hen
      have hv := ent_val hI hat
      obtain rfl : c = vf S x := by unfold vf; omega
      have hJ2 : J (ks.map (vf S)) w2 := hJ _ wr w2 (some W.heap.size) hJs hg2 (fun r e => by cases e; exact ⟨Nat.le_refl _, hrg.iter_walk⟩)
      have hl2 : (ks.map (vf S)).length < Maps.size D0 := by rw [List.length_map]; omega
      clear hs2 hv
      obtain ⟨fn, tmps, assign, body, hy, hR⟩ := hY _ (vf S x) w2 hJ2 hl2
      clear hl2
      gi_wp2
      refine hR.mono ?_
      rintro e W3 ⟨rfl, hJ3, hk3⟩
      gi_wp2
      have hrg3 := hrg2.of_walks hk3
      go_roundw
      case rel => exact ⟨_, cnt2, ks ++ [x], hrg3, by simp; omega, hC.step hlk hat, by rw [List.map_append, List.map_singleton]; exact hJ3⟩
      case measure => rw [hrg3.left_eq, hrg.left_eq]; exact hlt
theorem vals_call (F : Fence) (n : Nat) (h36 : F.fn 36) (hro : F.round = none) (mb : Option Nat) (w : World) :
    CallsIn F n Try.prog 36 #[.map mb] w fun e w' => e = .returned (.func (.func 42) #[] #[.pointer (some ⟨w.heap.size, 0, none⟩)]) ∧ w' = w.alloc (.cells #[.map mb] 64) := by
  refine callsIn_of_wp Try.func36 rfl h36 ?_ hro
  simp only [Try.ntmps36, List.size_toArray, List.length_cons, List.length_nil, Nat.reduceAdd, Nat.reduceSub, Array.replicate_succ, Array.replicate_zero, List.push_toArray, List.append_toArray, List.nil_append, List.cons_append]
  gi_wp2
  go_ret
  exact ⟨rfl, rfl⟩
theorem vals_gives (F : Fence) (n : Nat) (h10 : F.fn 42) (hro : F.round = none) (hn : 1 ≤ n) (Bm b nn : Nat) (D0 : DataW Unit) (S : Nat → Int) (hI : IX D0 S) (w : World) (hBm : Bm < w.heap.size)
    (hm : w.cell? ⟨Bm, 0, none⟩ = some (.map (some b))) (hown : w.ownsMap Try.prog 3 (plainElem (H := Unit) Try.prog 3) b nn D0) :
    SeqGives F n Try.prog 42 #[.pointer (some ⟨Bm, 0, none⟩)] encZ (fun ss => ∃ ks : List Int, ks.Perm (intKeys D0) ∧ ss = ks.map (vf S)) (Maps.size D0) w := fun l J W hW hJ hY h0 => by
  have hown' : W.ownsMap Try.prog 3 (plainElem (H := Unit) Try.prog 3) b nn D0 := by
    have hbl := hown.lt
    obtain ⟨es, clock, hb, Ft, hs, hD⟩ := hown
    exact ⟨es, clock, (hW.block b hbl).trans hb, Ft, hs, hD⟩
  exact vals_in F n h10 hro hn l Bm b nn D0 S hI J hY W hJ ((hW.cell (p := ⟨Bm, 0, none⟩) hBm).trans hm) hown' h0
end Go.Proofs.Ytbmpocalapgmjac.index
