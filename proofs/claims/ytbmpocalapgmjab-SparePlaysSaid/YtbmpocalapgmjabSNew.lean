/- spare.New. -/
import Derived.Test.YtbmpocalapgmjabSpare
namespace Go.Proofs.Ytbmpocalapgmjab
open Go.RowKit
set_option linter.unusedVariables false
/-- a row of integers that came in -/
def InRow (w : World) (A : Option Addr) (n : Nat) (ls : Nat → Int) : Prop :=
  n = 0 ∨ ∃ b off, A = some ⟨b, off, none⟩ ∧ b < w.heap.size ∧ ∀ i, i < n → w.cell? ⟨b, off + i, none⟩ = some (.int .i64 (ls i))
theorem snew_ok (A : Option Addr) (n cap : Nat) (ls : Nat → Int) (w : World) (h : InRow w A n ls) (hn : n ≤ 100) :
    Calls Try.prog 19 #[.slice A n cap] w fun e w' => e = .returned (.pointer (some ⟨w.heap.size, 0, none⟩)) ∧
      ∃ zs, SI w' w.heap.size w.heap.size zs ∧ Near w.heap.size w w' ∧ ∀ z, z ∈ zs ↔ 0 ≤ z ∧ z < 16 ∧ ∃ i, i < n ∧ ls i = z := by
  obtain ⟨g, hg⟩ : ∃ g, g = w.heap.size := ⟨_, rfl⟩
  have hS : SI (w.alloc (.cells #[.slice none 0 0] 72)) g g [] := by
    subst hg
    exact ⟨⟨none, 0, Blk.new w 72 _, Nat.le_refl _, World.ownsRow_nil _ _ _ _⟩, fun i a b => by simp at b, .nil, fun z hz => by simp at hz⟩
  have hN : Near g w (w.alloc (.cells #[.slice none 0 0] 72)) := (Near.refl g w).alloc (by omega) _
  have HG := Lib.hid hg
  have hgw : g ≤ w.heap.size := by omega
  rw [← hg]
  clear hg
  go_enter Try.func19, Try.ntmps19
  go_wp2_with fail
  rw [← HG.out]
  go_loopw [10] (fun i wr => ∃ (j : Nat) (zs : List Int), i = .int .i64 j ∧ j ≤ n ∧ SI wr g g zs ∧ Near g w wr ∧ ∀ z, z ∈ zs ↔ 0 ≤ z ∧ z < 16 ∧ ∃ i, i < j ∧ ls i = z) (fun i _ => n - (intOf i).toNat)
  case atStart => exact ⟨0, [], rfl, by omega, hS, hN, fun z => by simp⟩
  case round =>
    obtain ⟨j, zs, rfl, hj, hs, hN1, hz⟩ := hrel
    clear hS hN
    by_cases hlt : j < n
    · obtain ⟨b, off, rfl, hbl, hc⟩ := h.resolve_left (by omega)
      have hcj := (hN1.1.cell (by rw [HG.out]; exact hbl)).trans (hc j hlt)
      have hsz := hN1.size
      have j0 : (0 : Int) ≤ (j : Int) := by omega
      have j1 : (j : Int) < (n : Int) := by omega
      by_cases hk : 0 ≤ ls j ∧ ls j < 16 ∧ ls j ∉ zs
      · clear hc h
        go_wp2_with fail
        refine (give_yes g g zs (ls j) _ hs (by omega) hk.1 hk.2.1 hk.2.2).mono ?_
        rintro e w1 ⟨rfl, zs', hs', hN', hp⟩
        have hz' : ∀ z, z ∈ zs' ↔ 0 ≤ z ∧ z < 16 ∧ ∃ i, i < j + 1 ∧ ls i = z := fun z => by
          rw [hp.mem_iff, List.mem_append, List.mem_singleton, hz]
          constructor
          · rintro (⟨a, b, i, hi, e⟩ | rfl)
            · exact ⟨a, b, i, by omega, e⟩
            · exact ⟨hk.1, hk.2.1, j, by omega, rfl⟩
          · rintro ⟨a, b, i, hi, e⟩
            by_cases hij : i = j
            · subst hij; exact .inr e.symm
            · exact .inl ⟨a, b, i, by omega, e⟩
        have hN2 := hN1.trans hN'
        clear hs hN1 hN' hcj hk hz hp
        go_wp2_with fail
        go_roundw
        case rel => exact ⟨j + 1, zs', by go_num, by omega, hs', hN2, hz'⟩
        case measure => simp [intOf]; omega
      · clear hc h
        go_wp2_with fail
        refine (give_no g g zs (ls j) _ hs (by
          by_cases a : 0 ≤ ls j
          · by_cases b : ls j < 16
            · exact .inr (.inr (Decidable.byContradiction fun c => hk ⟨a, b, c⟩))
            · exact .inr (.inl (by omega))
          · exact .inl (by omega))).mono ?_
        rintro e w1 ⟨rfl, rfl⟩
        have hz' : ∀ z, z ∈ zs ↔ 0 ≤ z ∧ z < 16 ∧ ∃ i, i < j + 1 ∧ ls i = z := fun z => by
          constructor
          · intro h
            obtain ⟨a, b, i, hi, e⟩ := (hz z).1 h
            exact ⟨a, b, i, by omega, e⟩
          · rintro ⟨a, b, i, hi, e⟩
            by_cases hij : i = j
            · subst hij; subst e
              exact Decidable.byContradiction fun c => hk ⟨a, b, c⟩
            · exact (hz z).2 ⟨a, b, i, by omega, e⟩
        clear hcj hk hz
        go_wp2_with fail
        go_roundw
        case rel => exact ⟨j + 1, zs, by go_num, by omega, hs, hN1, hz'⟩
        case measure => simp [intOf]; omega
    · obtain rfl : j = n := by omega
      have hd : decide ((j : Int) < (j : Int)) = false := by simp
      clear h
      go_wp2_with fail
      go_ret
      exact ⟨rfl, zs, hs, hN1, hz⟩
end Go.Proofs.Ytbmpocalapgmjab
