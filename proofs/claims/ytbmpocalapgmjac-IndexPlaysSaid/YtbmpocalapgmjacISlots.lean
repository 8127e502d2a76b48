/- index's Slots by contract: the slots that blocks have, sorted, in a new slice. -/
import Derived.Test.YtbmpocalapgmjacIVals
import Derived.Test.YtbmpocalapgmjacISl
import Derived.Test.YtbmpocalapgmjacLay
import Derived.Shelf.SortM.Plain
import Derived.Shelf.SortM.SortNone
namespace Go.Proofs.Ytbmpocalapgmjac.index
open Go.RowKit Go.Maps Go.Sort Go.Shelf
set_option linter.unusedVariables false
theorem sorts (m : Nat) : AnyZI.SortsIn Try.prog sortedL_ren Fence.wide m :=
  ⟨fun blk off cap ss W hH hblk hsz => callsIn_wide.2 (AnyM.slices_Sort_int sortL blk off cap ss W hH hblk hsz),
   fun p cap W => callsIn_wide.2 (AnyM.slices_Sort_int_none sortL p cap W)⟩
set_option maxHeartbeats 1000000 in
theorem islots_ok (b g T : Nat) (S : Nat → Int) (w : World) (h : II w b g T S) :
    Calls Try.prog 22 #[.pointer (some ⟨g, 0, none⟩)] w fun e w' => ∃ v, e = .returned v ∧ w'.ownsRow w.heap.size 3 1 v (sl S).length ((sl S).map encZ) ∧ Below w.heap.size w w' := by
  obtain ⟨hb, n, D, hm, hn, hI, hbd⟩ := h
  have h0 := hb.cell_ 0 rfl
  have f0 := hb.frozen 0
  have hg := hb.lt
  have hbl := hm.lt
  have hsz : Maps.size D ≤ 32 := by rw [size_cnt hm hI]; exact cnt_le S
  have hso : ∀ ks : List Int, ks.Perm (intKeys D) → (ks.map (vf S)).mergeSort (fun x y => decide (x ≤ y)) = sl S ∧ (ks.map (vf S)).length = (sl S).length := fun ks hks => by
    have e : (ks.map (vf S)).mergeSort (fun x y => decide (x ≤ y)) = sl S := by
      refine sort_sl hbd ?_
      have h1 := (hks.trans (keys_perm hm hI).symm).map (vf S)
      rw [List.map_map] at h1
      exact h1
    exact ⟨e, by rw [← e, List.length_mergeSort]⟩
  refine (callsIn_wide (n := 6)).1 ?_
  have hseq : SeqGives Fence.wide 2 Try.prog 42 #[.pointer (some ⟨w.heap.size, 0, none⟩)] encZ (fun ss => ∃ ks : List Int, ks.Perm (intKeys D) ∧ ss = ks.map (vf S)) (Maps.size D) (w.alloc (.cells #[.map (some b)] 64)) :=
    vals_gives Fence.wide 2 trivial rfl (by omega) w.heap.size b n D S hI _ (by simp) (by simp) (hm.alloc _)
  have cK := fun mb W => vals_call Fence.wide 5 trivial rfl mb W
  have cS := AnyZI.sorted_in sortedL Fence.wide 5 trivial trivial trivial trivial rfl (by omega) (sorts _) (enters_of Try.func41 (by kernel_rfl) rfl) 42 #[.pointer (some ⟨w.heap.size, 0, none⟩)] trivial (enters_of Try.func42 (by kernel_rfl) rfl) _ (Maps.size D) (by unfold maxLen; omega) (by omega) _ hseq
  change CallsIn _ _ Try.prog 35 _ _ _ at cS
  have hfK : Fence.wide.fn 36 := trivial
  have hfS : Fence.wide.fn 35 := trivial
  clear hseq hI hsz hbd
  refine callsIn_of_wp Try.func22 rfl trivial ?_ rfl
  simp only [Try.ntmps22, List.size_toArray, List.length_cons, List.length_nil, Nat.reduceAdd, Nat.reduceSub, Array.replicate_succ, Array.replicate_zero, List.push_toArray, List.append_toArray, List.nil_append, List.cons_append]
  gi_wp2_with (first
    | (gi_at_call 36; refine (cK _ _).mono ?_; rintro e w' ⟨rfl, rfl⟩)
    | (gi_at_call 35; refine cS.mono ?_; rintro e w' ⟨v, ss, rfl, hS, hrow, hnil, hbe⟩))
  go_ret
  obtain ⟨ks, hks, rfl⟩ := hS
  obtain ⟨e1, e2⟩ := hso ks hks
  rw [e1, e2] at hrow
  exact ⟨v, rfl, ownsRow_base_a hrow (by simp), ((Below.refl _ w).alloc (Nat.le_refl _) _).trans (hbe.mono (by simp))⟩
end Go.Proofs.Ytbmpocalapgmjac.index
