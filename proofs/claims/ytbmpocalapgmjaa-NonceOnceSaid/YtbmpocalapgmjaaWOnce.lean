/- The walk of the law NonceOnce. -/
import Derived.Test.YtbmpocalapgmjaaNonce
import Derived.Deep.QuietTactic
import Derived.BigQuiet
import Derived.Deep.AppendLies
namespace Go.Proofs.Ytbmpocalapgmjaa.nonceOnce
open Go.RowKit
set_option linter.unusedVariables false

/-- the version of the number that stands at place i: the boots in turn, each counted from 1 on -/
def ver (a b : Int) (i : Nat) : Int := (if i % 2 = 0 then a else b) * 4294967296 + ((i / 2 : Nat) + 1)
def one (a b ep sl : Int) (i : Nat) : List Value := [.int .u32 ep, .int .u32 sl, .int .u64 (ver a b i)]
def all (a b ep sl : Int) (k : Nat) : List Value := (List.range (2 * k)).flatMap (one a b ep sl)
theorem all_succ (a b ep sl : Int) (k : Nat) : all a b ep sl (k + 1) = all a b ep sl k ++ [.int .u32 ep, .int .u32 sl, .int .u64 (a * 4294967296 + ((k : Int) + 1)), .int .u32 ep, .int .u32 sl, .int .u64 (b * 4294967296 + ((k : Int) + 1))] := by
  unfold all
  have h : 2 * (k + 1) = 2 * k + 1 + 1 := by omega
  have e1 : ver a b (2 * k) = a * 4294967296 + ((k : Int) + 1) := by
    unfold ver; rw [if_pos (by omega), show 2 * k / 2 = k from by omega]
  have e2 : ver a b (2 * k + 1) = b * 4294967296 + ((k : Int) + 1) := by
    unfold ver; rw [if_neg (by omega), show (2 * k + 1) / 2 = k from by omega]
  rw [h, List.range_succ, List.range_succ]
  simp only [List.flatMap_append, List.flatMap_cons, List.flatMap_nil, List.append_nil, List.append_assoc, one, e1, e2]
  rfl
theorem len3 (a b ep sl : Int) (n : Nat) : ((List.range n).flatMap (one a b ep sl)).length = n * 3 := by
  induction n with
  | zero => rfl
  | succ n ih => rw [List.range_succ, List.flatMap_append, List.length_append, ih]; simp [one]; omega
theorem all_length (a b ep sl : Int) (k : Nat) : (all a b ep sl k).length = 2 * k * 3 := by
  unfold all; exact len3 _ _ _ _ _
theorem all_at (a b ep sl : Int) (k i j : Nat) (hi : i < 2 * k) (hj : j < 3) : (all a b ep sl k)[i * 3 + j]? = (one a b ep sl i)[j]? := by
  unfold all
  generalize 2 * k = n at hi
  induction n with
  | zero => omega
  | succ n ih =>
    rw [List.range_succ, List.flatMap_append]
    have hl := len3 a b ep sl n
    by_cases hn : i < n
    · rw [List.getElem?_append_left (by rw [hl]; omega)]
      exact ih hn
    · obtain rfl : i = n := by omega
      rw [List.getElem?_append_right (by rw [hl]; omega), hl]
      simp
theorem ver_ne {a b : Int} (h : a ≠ b) (a0 : 0 ≤ a) (a1 : a < 4294967296) (b0 : 0 ≤ b) (b1 : b < 4294967296) {i j : Nat} (hi : i < 80) (hj : j < 80) (hij : i ≠ j) : ver a b i ≠ ver a b j := by
  unfold ver
  by_cases e1 : i % 2 = 0 <;> by_cases e2 : j % 2 = 0 <;> simp only [e1, e2, if_true, if_false] <;> omega
theorem info34 : (Try.prog.info? 34).map (fun i => (i.zero, i.size, i.bytes)) = some (some (.agg #[.int .u32 0, .int .u32 0, .int .u64 0]), 3, 16) := by kernel_rfl
theorem own_below {w w' : World} {base e size : Nat} {v : Value} {n : Nat} {xs : List Value} (h : w.ownsRow base e size v n xs) (hb : Below w.heap.size w w') : w'.ownsRow base e size v n xs :=
  h.kept (only_of_below hb none) (by by_cases c : v.ownBlock = none; exact .inl c; exact .inr c)
theorem own_ne {w : World} {base e size : Nat} {v : Value} {n : Nat} {xs : List Value} (h : w.ownsRow base e size v n xs) {g : Nat} (hg : g < base) : v.ownBlock ≠ some g := fun c => by
  have := (h.lt _ c).1
  omega
theorem own_grown {w w' : World} {base e size : Nat} {v : Value} {n : Nat} {xs : List Value} (h : w.ownsRow base e size v n xs) {g : Nat} (hg : g < base) (hw : w.grownBy w' (some g)) : w'.ownsRow base e size v n xs :=
  h.kept hw (.inr (own_ne h hg))
set_option maxRecDepth 100000 in
set_option maxHeartbeats 1000000 in
theorem walk (a0 : Int) (a1 : Int) (a2 : Int) (a3 : Int) (a4 : Int) (w0 : (Lit.int .u64 a0).wf = true) (w1 : (Lit.int .u64 a1).wf = true) (w2 : (Lit.int .i64 a2).wf = true) (w3 : (Lit.int .u32 a3).wf = true) (w4 : (Lit.int .i64 a4).wf = true) (w : World) :
    Calls Try.prog 5 #[.int .u64 a0, .int .u64 a1, .int .i64 a2, .int .u32 a3, .int .i64 a4] w fun e w' => e = .returned (.bool true) ∧ Below w.heap.size w w' := by
  have b0 := bounds_u64 w0
  have b1 := bounds_u64 w1
  have b2 := bounds_i64 w2
  have b3 := bounds_u32 w3
  have b4 := bounds_i64 w4
  clear w0 w1 w2 w3 w4
  by_cases hb : a0 ≠ a1 ∧ a0 < 4294967296 ∧ a1 < 4294967296 ∧ 0 ≤ a2 ∧ a2 ≤ 40 ∧ 0 ≤ a4 ∧ a4 ≤ 65535
  · obtain ⟨x0, x1, x2, x3, x4, x5, x6⟩ := hb
    obtain ⟨q, rfl⟩ := Int.eq_ofNat_of_zero_le x3
    have hne : (a0 == a1) = false := by simpa using x0
    have hb1 : Blk (w.alloc (.cells #[.int .u64 a0, .int .i64 0] 59)) w.heap.size 59 #[.int .u64 a0, .int .i64 0] := Blk.new _ _ _
    have bel1 : Below w.heap.size w (w.alloc (.cells #[.int .u64 a0, .int .i64 0] 59)) := (Below.refl _ _).alloc (Nat.le_refl _) _
    have hb2 : Blk ((w.alloc (.cells #[.int .u64 a0, .int .i64 0] 59)).alloc (.cells #[.int .u64 a1, .int .i64 0] 59)) (w.heap.size + 1) 59 #[.int .u64 a1, .int .i64 0] := by
      have := Blk.new (w.alloc (.cells #[.int .u64 a0, .int .i64 0] 59)) 59 #[.int .u64 a1, .int .i64 0]
      rwa [World.size_alloc] at this
    obtain ⟨i0, hi, hz0, hz1, hz2⟩ := info_parts info34
    go_enter Try.func5, Try.ntmps5
    go_wp2_with fail
    refine (new_ok a0 _ (by omega) (by omega)).mono ?_
    rintro e w1 ⟨rfl, rfl⟩
    go_wp2_with fail
    refine (new_ok a1 _ (by omega) (by omega)).mono ?_
    rintro e w1 ⟨rfl, rfl⟩
    go_wp2_with fail
    go_loopw [15, 16] (fun v i wr => ∃ (k : Nat) (A : Option Addr) (cap : Nat), k ≤ q ∧ i = .int .i64 k ∧ v = .slice A (2 * k) cap ∧ wr.ownsRow (w.heap.size + 2) 34 3 v (2 * k) (all a0 a1 a3 a4 k) ∧ Blk wr w.heap.size 59 #[.int .u64 a0, .int .i64 k] ∧ Blk wr (w.heap.size + 1) 59 #[.int .u64 a1, .int .i64 k] ∧ Below w.heap.size w wr) (fun _ i _ => q - (intOf i).toNat)
    case atStart => exact ⟨0, none, 0, by omega, rfl, rfl, World.ownsRow_nil _ _ _ _, hb1.alloc _, hb2, bel1.alloc (by simp) _⟩
    case round =>
      obtain ⟨k, A, cp, hk, rfl, rfl, hown, hbk, hck, bel⟩ := hrel
      have bs := bel.size
      by_cases hlt : k < q
      · go_wp2_with fail
        refine (next_ok w.heap.size a0 k a3 a4 _ (by omega) (by omega) (by omega) (by omega) (by omega) (by omega) (by omega) (by omega) hbk).mono ?_
        rintro e w2 ⟨rfl, hg2, hbk2⟩
        have hs2 := hg2.size
        have hck2 := hck.grown hg2 (by simp)
        go_wp2_with fail
        refine (next_ok (w.heap.size + 1) a1 k a3 a4 _ (by omega) (by omega) (by omega) (by omega) (by omega) (by omega) (by omega) (by omega) (hck2.alloc _)).mono ?_
        rintro e w3 ⟨rfl, hg3, hck3⟩
        have hs3 := hg3.size
        simp only [World.size_alloc] at hs3
        have l2 := hck2.lt
        have bp3 : Blk w3 w2.heap.size 34 #[.int .u32 a3, .int .u32 a4, .int .u64 (a0 * 4294967296 + ((k : Int) + 1))] := (Blk.new w2 34 _).grown hg3 (by simp; omega)
        have hbk3 := (hbk2.alloc (.cells #[.int .u32 a3, .int .u32 a4, .int .u64 (a0 * 4294967296 + ((k : Int) + 1))] 34)).grown hg3 (by simp)
        have p30 : w3.cell? ⟨w2.heap.size, 0, none⟩ = some (.int .u32 a3) := bp3.cell_ 0 rfl
        have p31 : w3.cell? ⟨w2.heap.size, 1, none⟩ = some (.int .u32 a4) := bp3.cell_ 1 rfl
        have p32 : w3.cell? ⟨w2.heap.size, 2, none⟩ = some (.int .u64 (a0 * 4294967296 + ((k : Int) + 1))) := bp3.cell_ 2 rfl
        have l3 := bp3.lt
        go_wp2_with fail
        refine (boot_ok a0 (k + 1) _ _ _ (by omega) (by omega) (by omega) (by omega)).mono ?_
        rintro e w4 ⟨rfl, hg4⟩
        have hs4 := hg4.size
        simp only [World.size_alloc] at hs4
        have bp4 := (bp3.alloc (.cells #[.int .u32 a3, .int .u32 a4, .int .u64 (a1 * 4294967296 + ((k : Int) + 1))] 34)).below_ hg4
        have bq4 := (Blk.new w3 34 #[.int .u32 a3, .int .u32 a4, .int .u64 (a1 * 4294967296 + ((k : Int) + 1))]).below_ hg4
        have hbk4 := (hbk3.alloc (.cells #[.int .u32 a3, .int .u32 a4, .int .u64 (a1 * 4294967296 + ((k : Int) + 1))] 34)).below_ hg4
        have hck4 := (hck3.alloc (.cells #[.int .u32 a3, .int .u32 a4, .int .u64 (a1 * 4294967296 + ((k : Int) + 1))] 34)).below_ hg4
        have q40 : w4.cell? ⟨w3.heap.size, 0, none⟩ = some (.int .u32 a3) := bq4.cell_ 0 rfl
        have q41 : w4.cell? ⟨w3.heap.size, 1, none⟩ = some (.int .u32 a4) := bq4.cell_ 1 rfl
        have q42 : w4.cell? ⟨w3.heap.size, 2, none⟩ = some (.int .u64 (a1 * 4294967296 + ((k : Int) + 1))) := bq4.cell_ 2 rfl
        have l4 := bq4.lt
        go_wp2_with fail
        refine (boot_ok a1 (k + 1) _ _ _ (by omega) (by omega) (by omega) (by omega)).mono ?_
        rintro e w5 ⟨rfl, hg5⟩
        have hs5 := hg5.size
        have bp5 := bp4.below_ hg5
        have bq5 := bq4.below_ hg5
        have hbk5 := hbk4.below_ hg5
        have hck5 := hck4.below_ hg5
        have p50 : w5.cell? ⟨w2.heap.size, 0, none⟩ = some (.int .u32 a3) := bp5.cell_ 0 rfl
        have p51 : w5.cell? ⟨w2.heap.size, 1, none⟩ = some (.int .u32 a4) := bp5.cell_ 1 rfl
        have p52 : w5.cell? ⟨w2.heap.size, 2, none⟩ = some (.int .u64 (a0 * 4294967296 + ((k : Int) + 1))) := bp5.cell_ 2 rfl
        have q50 : w5.cell? ⟨w3.heap.size, 0, none⟩ = some (.int .u32 a3) := bq5.cell_ 0 rfl
        have q51 : w5.cell? ⟨w3.heap.size, 1, none⟩ = some (.int .u32 a4) := bq5.cell_ 1 rfl
        have q52 : w5.cell? ⟨w3.heap.size, 2, none⟩ = some (.int .u64 (a1 * 4294967296 + ((k : Int) + 1))) := bq5.cell_ 2 rfl
        have l5 := bp5.lt
        have l5' := bq5.lt
        have own2 := (own_grown hown (by omega) hg2).alloc (.cells #[.int .u32 a3, .int .u32 a4, .int .u64 (a0 * 4294967296 + ((k : Int) + 1))] 34)
        have own3 := (own_grown own2 (by omega) hg3).alloc (.cells #[.int .u32 a3, .int .u32 a4, .int .u64 (a1 * 4294967296 + ((k : Int) + 1))] 34)
        have own5 := own_below (own_below own3 hg4) hg5
        have bel2 := (below_only bel hg2 bs (Nat.le_refl _)).alloc (by omega) (.cells #[.int .u32 a3, .int .u32 a4, .int .u64 (a0 * 4294967296 + ((k : Int) + 1))] 34)
        have bel3 := (below_only bel2 hg3 (by simp; omega) (by omega)).alloc (by omega) (.cells #[.int .u32 a3, .int .u32 a4, .int .u64 (a1 * 4294967296 + ((k : Int) + 1))] 34)
        have bel5 := (bel3.trans (hg4.mono (by simp; omega))).trans (hg5.mono (by omega))
        clear own2 own3 hown bel2 bel3 bel1 bel
        go_wp2_with (at_builtin; refine wpList_append_lies _ rfl _ _ 45 rfl (w.heap.size + 2) 34 i0 (.agg #[.int .u32 0, .int .u32 0, .int .u64 0]) 3 16 Try.underlying45 hi hz0 hz1 hz2 rfl (by decide) _ _ _ rfl (own5.alloc _) ⟨w5.heap.size, 0, none⟩ 2 2 [.int .u32 a3, .int .u32 a4, .int .u64 (a0 * 4294967296 + ((k : Int) + 1)), .int .u32 a3, .int .u32 a4, .int .u64 (a1 * 4294967296 + ((k : Int) + 1))] rfl rfl ?c1 ?c2 (by omega) (by unfold maxLen; omega) (by omega) (by simp; omega) (w5.heap.size + 1) (by simp) ?_)
        case c1 => exact World.news_of_block (Blk.new w5 34 _)
        case c2 => intro u hu; simp at hu; rcases hu with rfl | rfl | rfl | rfl | rfl | rfl <;> rfl
        intro g cap w6 own6 hg6 hat hlt6
        have hs6 := hg6.size
        simp only [World.size_alloc] at hs6
        have nb : ∀ b, b < w.heap.size + 2 → some b ≠ (Value.slice A (2 * k) cp).ownBlock := fun b hb => (own_ne own5 hb).symm
        have hbk6 := (hbk5.alloc _).grown hg6 (nb _ (by omega))
        have hck6 := (hck5.alloc _).grown hg6 (nb _ (by omega))
        have bel6 := (bel5.alloc (by omega) _).grown hg6 (by simp; omega) (fun b hb => by have := (own5.lt b hb).1; omega)
        rw [← all_succ] at own6
        have e2 : 2 * k + 2 = 2 * (k + 1) := by omega
        go_wp2_with fail
        refine ⟨⟨k + 1, some ⟨g, 0, none⟩, cap, by omega, by go_num, by rw [e2], by rw [e2] at own6; exact own6, hbk6, hck6, bel6⟩, ?_⟩
        simp [intOf]; omega
      · have hk40 : 2 * k ≤ 80 := by omega
        obtain ⟨wo, hwo⟩ : ∃ wo : World, wo = wr := ⟨_, rfl⟩
        subst hwo
        go_wp2_with fail
        go_loopw [21] (fun i wr => ∃ (i' d : Nat), i' ≤ 2 * k ∧ i = .int .i64 i' ∧ wr = wo.drewN d) (fun i _ => 2 * k - (intOf i).toNat)
        case atStart => exact ⟨0, 0, by omega, rfl, rfl⟩
        case round =>
          obtain ⟨i, d, hi', rfl, rfl⟩ := hrel
          by_cases hlti : i < 2 * k
          · obtain ⟨g, rfl, hcell⟩ : ∃ g, A = some ⟨g, 0, none⟩ ∧ ∀ n j : Nat, n < 2 * k → j < 3 → wo.cell? ⟨g, n * 3 + j, none⟩ = (one a0 a1 a3 a4 n)[j]? := by
              obtain ⟨g, cap, hv, _, _⟩ := hown.form (by omega)
              injection hv with hA
              refine ⟨g, hA, fun n j hn hj => ?_⟩
              subst hA
              rw [← all_at a0 a1 a3 a4 k n j hn hj]
              exact hown.cellAt (n * 3 + j) (by omega)
            have f0 : wo.cell? ⟨g, i * 3, none⟩ = some (.int .u32 a3) := hcell i 0 hlti (by omega)
            have f1 : wo.cell? ⟨g, i * 3 + 1, none⟩ = some (.int .u32 a4) := hcell i 1 hlti (by omega)
            have f2 : wo.cell? ⟨g, i * 3 + 2, none⟩ = some (.int .u64 (ver a0 a1 i)) := hcell i 2 hlti (by omega)
            go_wp2_with fail
            go_loopw [22] (fun j wr => ∃ (j' d : Nat), j' ≤ i ∧ j = .int .i64 j' ∧ wr = wo.drewN d) (fun j _ => i - (intOf j).toNat)
            case atStart => exact ⟨0, d, by omega, rfl, rfl⟩
            case round =>
              obtain ⟨j, d', hj', rfl, rfl⟩ := hrel
              by_cases hltj : j < i
              · have g0 : wo.cell? ⟨g, j * 3, none⟩ = some (.int .u32 a3) := hcell j 0 (by omega) (by omega)
                have g1 : wo.cell? ⟨g, j * 3 + 1, none⟩ = some (.int .u32 a4) := hcell j 1 (by omega) (by omega)
                have g2 : wo.cell? ⟨g, j * 3 + 2, none⟩ = some (.int .u64 (ver a0 a1 j)) := hcell j 2 (by omega) (by omega)
                have hv : (ver a0 a1 i == ver a0 a1 j) = false := by simpa using ver_ne x0 b0.1 x1 b1.1 x2 (by omega) (by omega) (by omega)
                clear hcell
                go_wp2_with fail
                go_quiet (fail)
                go_wp2_with fail
                exact ⟨⟨j + 1, d' + nq, by omega, by go_num, rfl⟩, by simp [intOf]; omega⟩
              · clear hcell
                go_wp2_with fail
                exact ⟨⟨i + 1, d', by omega, by go_num, rfl⟩, by simp [intOf]; omega⟩
          · go_wp2_with fail
            refine (known_ok _).mono ?_
            rintro e w4 ⟨rfl, hg4⟩
            go_wp2_with fail
            go_ret
            exact ⟨rfl, (below_drewN bel d).trans (hg4.mono (by simp; omega))⟩
  · by_cases c : a0 = a1
    · have hne : (a0 == a1) = true := by simpa using c
      clear hb c
      go_enter Try.func5, Try.ntmps5
      go_wp2
      go_ret
      exact ⟨rfl, Below.refl _ _⟩
    · have hne : (a0 == a1) = false := by simpa using c
      have hb' : 4294967296 ≤ a0 ∨ (a0 < 4294967296 ∧ 4294967296 ≤ a1) ∨ (a0 < 4294967296 ∧ a1 < 4294967296 ∧ a2 < 0) ∨ (a0 < 4294967296 ∧ a1 < 4294967296 ∧ 0 ≤ a2 ∧ 40 < a2) ∨
          (a0 < 4294967296 ∧ a1 < 4294967296 ∧ 0 ≤ a2 ∧ a2 ≤ 40 ∧ a4 < 0) ∨ (a0 < 4294967296 ∧ a1 < 4294967296 ∧ 0 ≤ a2 ∧ a2 ≤ 40 ∧ 0 ≤ a4 ∧ 65535 < a4) := by omega
      clear hb c
      rcases hb' with h | ⟨h, h1⟩ | ⟨h, h1, h2⟩ | ⟨h, h1, h2, h3⟩ | ⟨h, h1, h2, h3, h4⟩ | ⟨h, h1, h2, h3, h4, h5⟩
      all_goals
        go_enter Try.func5, Try.ntmps5
        go_wp2
        go_ret
        exact ⟨rfl, Below.refl _ _⟩
end Go.Proofs.Ytbmpocalapgmjaa.nonceOnce
