/- Age beside its reference: the beginning, and a touch of both. -/
import Derived.Test.YtbmpocalapgmjacWLast
namespace Go.Proofs.Ytbmpocalapgmjac
open Go.RowKit
set_option linter.unusedVariables false
theorem pair_start {w : World} {B a g T : Nat} {L : List Int} (h : AI w B a g T L) (hB : B ≤ w.heap.size) :
    AI (w.alloc (.cells #[.slice none 0 0] 28)) B a g T L ∧ RL (w.alloc (.cells #[.slice none 0 0] 28)) B w.heap.size [] ∧ Sep (w.alloc (.cells #[.slice none 0 0] 28)) a g w.heap.size := by
  obtain ⟨⟨ca, ha⟩, ⟨cg, hg⟩, _⟩ := h.blks
  have la := ha.lt
  have lg := hg.lt
  refine ⟨h.same fun y hy => ?_, ⟨none, 0, Blk.new w 28 _, hB, World.ownsRow_nil _ _ _ _⟩, by omega, by omega, fun s ⟨_, A, n, c, hs, _⟩ => ?_⟩
  · have : y < w.heap.size := by
      rcases hy with rfl | rfl | hy
      · exact la
      · exact lg
      · exact (h.rows y hy).2.1
    exact Below.heap_alloc w _ y this
  · rw [(Blk.new w 28 #[.slice none 0 0]).cell_ 0 rfl] at hs
    injection hs with hs
    injection hs with hs
    cases hs
theorem rtouch_any (B x : Nat) (k : Int) (L : List Int) (w : World) (h : RL w B x L) (hn : L.Nodup) (hB : B ≤ w.heap.size) (hl : L.length ≤ 90) :
    Calls Try.prog 11 #[.pointer (some ⟨x, 0, none⟩), .int .i64 k] w fun e w' => e = .returned (.bool (inr k)) ∧ RL w' B x (tc k L) ∧ Fr x x w w' := by
  by_cases hk : 0 ≤ k ∧ k < 16
  · obtain ⟨n, rfl⟩ := Int.eq_ofNat_of_zero_le hk.1
    have e : inr (n : Int) = true := by unfold inr; rw [decide_eq_true hk]
    unfold tc
    rw [e, if_pos rfl]
    exact rtouch_ok B x n L w h hn hB hl (by omega)
  · have e : inr k = false := by unfold inr; rw [decide_eq_false hk]
    unfold tc
    rw [e, if_neg (by simp)]
    refine (rtouch_no x k w (by omega)).mono ?_
    rintro e w' ⟨rfl, rfl⟩
    exact ⟨rfl, h, Fr.refl _ _ _⟩
theorem drop_head {L : List Int} (hn : L.Nodup) {j : Nat} (hj : j < L.length) : om (L.drop j) = el L j ∧ L.drop j ≠ [] ∧ el L j ∈ L.drop j ∧ dl (el L j) (L.drop j) = L.drop (j + 1) ∧ el L j ∉ L.drop (j + 1) := by
  have h1 : L.drop j = el L j :: L.drop (j + 1) := by rw [List.drop_eq_getElem_cons hj, el_at hj]
  have hn2 : (L.drop j).Nodup := hn.sublist (List.drop_sublist j L)
  have h2 : el L j ∉ L.drop (j + 1) := by
    rw [h1, List.nodup_cons] at hn2
    exact hn2.1
  refine ⟨?_, ?_, ?_, ?_, h2⟩
  · rw [h1]; simp [om, el]
  · rw [h1]; simp
  · rw [h1]; simp
  · rw [h1]
    have : dl (el L j) (el L j :: L.drop (j + 1)) = dl (el L j) (L.drop (j + 1)) := by unfold dl; simp
    rw [this, dl_not h2]
end Go.Proofs.Ytbmpocalapgmjac
