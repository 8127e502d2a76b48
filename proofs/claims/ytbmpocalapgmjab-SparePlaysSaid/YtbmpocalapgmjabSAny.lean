/- Spare and its reference side by side. -/
import Derived.Test.YtbmpocalapgmjabSKnown
namespace Go.Proofs.Ytbmpocalapgmjab
open Go.RowKit
set_option linter.unusedVariables false
def gv (zs : List Int) (k : Int) : Bool := decide (0 ≤ k ∧ k < 16 ∧ k ∉ zs)
def tm (zs : List Int) : Int := if zs = [] then 0 else el zs 0
def tb (zs : List Int) : Bool := !decide (zs = [])
def Match (zs : List Int) (S : Nat → Bool) : Prop := ∀ i, i < 16 → S i = decide ((i : Int) ∈ zs)
theorem give_any (g B : Nat) (zs : List Int) (k : Int) (w : World) (h : SI w B g zs) (hB : B ≤ w.heap.size) :
    Calls Try.prog 21 #[.pointer (some ⟨g, 0, none⟩), .int .i64 k] w fun e w' => e = .returned (.bool (gv zs k)) ∧ ∃ zs', SI w' B g zs' ∧ Near B w w' ∧ ∀ z, z ∈ zs' ↔ z ∈ zs ∨ (z = k ∧ 0 ≤ k ∧ k < 16) := by
  by_cases hk : 0 ≤ k ∧ k < 16 ∧ k ∉ zs
  · refine (give_yes g B zs k w h hB hk.1 hk.2.1 hk.2.2).mono ?_
    rintro e w' ⟨rfl, zs', hs, hN, hp⟩
    refine ⟨by unfold gv; rw [decide_eq_true hk], zs', hs, hN, fun z => ?_⟩
    rw [hp.mem_iff, List.mem_append, List.mem_singleton]
    constructor
    · rintro (a | a)
      · exact .inl a
      · exact .inr ⟨a, hk.1, hk.2.1⟩
    · rintro (a | a)
      · exact .inl a
      · exact .inr a.1
  · refine (give_no g B zs k w h (by
      by_cases a : 0 ≤ k
      · by_cases b : k < 16
        · exact .inr (.inr (Decidable.byContradiction fun c => hk ⟨a, b, c⟩))
        · exact .inr (.inl (by omega))
      · exact .inl (by omega))).mono ?_
    rintro e w' ⟨rfl, rfl⟩
    refine ⟨by unfold gv; rw [decide_eq_false hk], zs, h, Near.refl _ _, fun z => ⟨.inl, ?_⟩⟩
    rintro (a | ⟨rfl, a, b⟩)
    · exact a
    · exact Decidable.byContradiction fun c => hk ⟨a, b, c⟩
theorem rgive_any (x : Nat) (zs : List Int) (k : Int) (S : Nat → Bool) (w : World) (h : RS w x S) (hm : Match zs S) :
    Calls Try.prog 20 #[.pointer (some ⟨x, 0, none⟩), .int .i64 k] w fun e w' => e = .returned (.bool (gv zs k)) ∧ ∃ S', RS w' x S' ∧ w.grownBy w' (some x) ∧ ∀ i, i < 16 → (S' i = true ↔ (i : Int) ∈ zs ∨ ((i : Int) = k ∧ 0 ≤ k ∧ k < 16)) := by
  by_cases hk : 0 ≤ k ∧ k < 16 ∧ k ∉ zs
  · obtain ⟨n, rfl⟩ := Int.eq_ofNat_of_zero_le hk.1
    have hn : n < 16 := by omega
    refine (rgive_yes x n S w h hn (by rw [hm n hn]; simpa using hk.2.2)).mono ?_
    rintro e w' ⟨rfl, hs, hg⟩
    refine ⟨by unfold gv; rw [decide_eq_true hk], _, hs, hg, fun i hi => ?_⟩
    by_cases e : i = n
    · subst e; exact ⟨fun _ => .inr ⟨rfl, by omega, by omega⟩, fun _ => by simp⟩
    · simp only [if_neg e, hm i hi, decide_eq_true_eq]
      constructor
      · exact .inl
      · rintro (a | ⟨a, _⟩)
        · exact a
        · omega
  · refine (rgive_no x k S w h (by
      by_cases a : 0 ≤ k
      · by_cases b : k < 16
        · obtain ⟨n, rfl⟩ := Int.eq_ofNat_of_zero_le a
          exact .inr (.inr ⟨n, rfl, by omega, by rw [hm n (by omega)]; simpa using Decidable.byContradiction fun c => hk ⟨a, b, c⟩⟩)
        · exact .inr (.inl (by omega))
      · exact .inl (by omega))).mono ?_
    rintro e w' ⟨rfl, rfl⟩
    refine ⟨by unfold gv; rw [decide_eq_false hk], S, h, only_refl _ _, fun i hi => ?_⟩
    rw [hm i hi, decide_eq_true_eq]
    refine ⟨.inl, ?_⟩
    rintro (a | ⟨rfl, a, b⟩)
    · exact a
    · exact Decidable.byContradiction fun c => hk ⟨a, b, c⟩
theorem take_any (g B : Nat) (zs : List Int) (w : World) (h : SI w B g zs) :
    Calls Try.prog 22 #[.pointer (some ⟨g, 0, none⟩)] w fun e w' => e = .returned (.tuple #[.int .i64 (tm zs), .bool (tb zs)]) ∧ ∃ zs', SI w' B g zs' ∧ Near B w w' ∧ ∀ z, z ∈ zs' ↔ z ∈ zs ∧ z ≠ el zs 0 := by
  by_cases h0 : zs = []
  · subst h0
    refine (take_no g B w h.1).mono ?_
    rintro e w' ⟨rfl, rfl⟩
    exact ⟨rfl, [], h, Near.refl _ _, fun z => by simp⟩
  · refine (take_ok g B zs w h h0).mono ?_
    rintro e w' ⟨rfl, zs', hs, hN, hp⟩
    have hnd := hp.symm.nodup h.2.2.1
    refine ⟨by simp [tm, tb, h0], zs', hs, hN, fun z => ?_⟩
    rw [← hp.mem_iff, List.mem_append, List.mem_singleton]
    constructor
    · intro a
      exact ⟨.inl a, (List.nodup_append.1 hnd).2.2 z a _ (by simp)⟩
    · rintro ⟨a | a, b⟩
      · exact a
      · exact absurd a b
theorem rtake_any (x B g : Nat) (zs : List Int) (S : Nat → Bool) (w W : World) (h : RS w x S) (hm : Match zs S) (hs : SI W B g zs) :
    Calls Try.prog 23 #[.pointer (some ⟨x, 0, none⟩)] w fun e w' => e = .returned (.tuple #[.int .i64 (tm zs), .bool (tb zs)]) ∧ ∃ S', RS w' x S' ∧ w.grownBy w' (some x) ∧ ∀ i, i < 16 → (S' i = true ↔ (i : Int) ∈ zs ∧ (i : Int) ≠ el zs 0) := by
  by_cases h0 : zs = []
  · subst h0
    refine (rtake_no x S w h (fun k hk => by rw [hm k hk]; simp)).mono ?_
    rintro e w' ⟨rfl, rfl⟩
    exact ⟨rfl, S, h, only_refl _ _, fun i hi => by rw [hm i hi]; simp⟩
  · have hin := el_mem (zs := zs) (k := 0) (List.length_pos_iff.2 h0)
    obtain ⟨a, b⟩ := hs.2.2.2 _ hin
    obtain ⟨m, hmm⟩ := Int.eq_ofNat_of_zero_le a
    have hm16 : m < 16 := by omega
    refine (rtake_ok x m S w h hm16 (by rw [hm m hm16, ← hmm]; simpa using hin) (fun k hk => by
      rw [hm k (by omega), decide_eq_false_iff_not]
      intro c
      have := hs.least c
      omega)).mono ?_
    rintro e w' ⟨rfl, hs', hg⟩
    refine ⟨by simp [tm, tb, h0, hmm], _, hs', hg, fun i hi => ?_⟩
    rw [hmm]
    by_cases e : i = m
    · subst e; simp
    · simp only [if_neg e, hm i hi, decide_eq_true_eq]
      exact ⟨fun c => ⟨c, by omega⟩, fun c => c.1⟩
theorem rhas_any (x B g : Nat) (zs : List Int) (k : Int) (S : Nat → Bool) (w W : World) (h : RS w x S) (hm : Match zs S) (hs : SI W B g zs) :
    Calls Try.prog 25 #[.pointer (some ⟨x, 0, none⟩), .int .i64 k] w fun e w' => e = .returned (.bool (decide (k ∈ zs))) ∧ w = w' := by
  by_cases hk : 0 ≤ k ∧ k < 16
  · obtain ⟨n, rfl⟩ := Int.eq_ofNat_of_zero_le hk.1
    have := rhas_yes x n S w h (by omega)
    rwa [hm n (by omega)] at this
  · have hn : decide (k ∈ zs) = false := by
      rw [decide_eq_false_iff_not]
      intro c
      exact hk (hs.2.2.2 k c)
    rw [hn]
    exact rhas_no x k w (by omega)
theorem rlen_any (x B g : Nat) (zs : List Int) (S : Nat → Bool) (w W : World) (h : RS w x S) (hm : Match zs S) (hs : SI W B g zs) :
    Calls Try.prog 27 #[.pointer (some ⟨x, 0, none⟩)] w fun e w' => e = .returned (.int .i64 zs.length) ∧ w = w' := by
  have e : cnt S 16 = zs.length := by
    rw [len_cnt hs.2.2.1 hs.2.2.2]
    unfold cnt
    congr 1
    exact List.filter_congr fun i hi => hm i (List.mem_range.1 hi)
  have := rlen_ok x S w h
  rwa [e] at this
end Go.Proofs.Ytbmpocalapgmjab
