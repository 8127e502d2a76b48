/- The reference's Touch; age and its reference side by side. -/
import Derived.Test.YtbmpocalapgmjacARef
namespace Go.Proofs.Ytbmpocalapgmjac
open Go.RowKit
set_option linter.unusedVariables false
theorem rtouch_no (x : Nat) (k : Int) (w : World) (hk : k < 0 ∨ 16 ≤ k) : Calls Try.prog 11 #[.pointer (some ⟨x, 0, none⟩), .int .i64 k] w fun e w' => e = .returned (.bool false) ∧ w = w' := by
  rcases (show k < 0 ∨ (0 ≤ k ∧ 16 ≤ k) by omega) with h | ⟨h, h2⟩
  all_goals
    clear hk
    go_enter Try.func11, Try.ntmps11
    go_wp2_with fail
    go_ret
    exact ⟨rfl, rfl⟩
theorem rtouch_ok (B x k : Nat) (L : List Int) (w : World) (h : RL w B x L) (hn : L.Nodup) (hB : B ≤ w.heap.size) (hl : L.length ≤ 90) (hk : k < 16) :
    Calls Try.prog 11 #[.pointer (some ⟨x, 0, none⟩), .int .i64 k] w fun e w' => e = .returned (.bool true) ∧ RL w' B x (dl k L ++ [(k : Int)]) ∧ Fr x x w w' := by
  have i0 : (0 : Int) ≤ (k : Int) := by omega
  have i2 : decide ((16 : Int) ≤ (k : Int)) = false := by simp; omega
  have hdl : (dl k L).length ≤ 90 := Nat.le_trans (List.length_filter_le _ _) hl
  obtain ⟨L', hL'⟩ : ∃ L', L' = dl k L := ⟨_, rfl⟩
  have hdrop := rdrop_ok B x L k w h hn hB (by omega)
  rw [← hL'] at hdl hdrop ⊢
  have HE := Lib.hid hdrop
  clear hL' hdrop
  go_enter Try.func11, Try.ntmps11
  go_wp2_with fail
  refine HE.out.mono ?_
  rintro e w1 ⟨rfl, hR, hF⟩
  have hrows := hR.rows
  obtain ⟨A, cap, hb, hx, ho⟩ := hR
  obtain ⟨j0, hi, hz0, hz1, hz2⟩ := info_parts info3
  have c0 : w1.cell? ⟨x, 0, none⟩ = some (.slice A L'.length cap) := hb.cell_ 0 rfl
  have l0 := hb.lt
  have hsz := hF.1.size
  have hown : (w1.alloc (.cells #[.int .i64 k] 3)).ownsRow B 3 1 (.slice A L'.length cap) L'.length (ivals L') := ho.alloc _
  have hat : ∀ k, (Value.slice A L'.length cap).ownBlock = some k → At w1 x k := fun k hk => by
    cases A with
    | none => simp [Value.ownBlock] at hk
    | some y =>
      simp only [Value.ownBlock] at hk
      injection hk with hk
      exact ⟨_, _, _, c0, hk⟩
  have hneb : some x ≠ (Value.slice A L'.length cap).ownBlock := fun e => by
    obtain ⟨_, _, cs', hs⟩ := hrows x (hat x e.symm)
    exact (hb.ne_ hs (by decide)) rfl
  have HAT := Lib.hid (And.intro hat hneb)
  clear hat hneb hrows h
  go_wp2_with (at_builtin; refine wpList_append_lies _ rfl _ _ 26 rfl B 3 j0 (.int .i64 0) 1 8 Try.underlying26 hi hz0 hz1 hz2 rfl (by decide) _ _ _ rfl hown ⟨w1.heap.size, 0, none⟩ 1 1 [.int .i64 k] rfl (by simp) (cell_one_new _ _ _) (fun v hv => by rw [List.mem_singleton.1 hv]; rfl) (by omega) (by unfold maxLen; omega) (by omega) (by simp; omega) _ rfl ?_)
  obtain ⟨hat, hneb⟩ := HAT.out
  intro g' cap' w2 hown1 hgrow hlies hlt1
  have hb1 : Blk w2 x 28 #[.slice A L'.length cap] := (hb.alloc _).grown hgrow hneb
  have c1 : w2.cell? ⟨x, 0, none⟩ = some (.slice A L'.length cap) := hb1.cell_ 0 rfl
  have f1 := hb1.frozen 0
  have l1 := hb1.lt
  have hF2 : Fr x x w1 (w2.setCell ⟨x, 0, none⟩ (.slice (some ⟨g', 0, none⟩) (L'.length + 1) cap')) := by
    refine ⟨(((Below.refl 0 w1).alloc (Nat.zero_le _) _).grown hgrow (Nat.zero_le _) (fun _ _ => Nat.zero_le _)).setCell (Nat.zero_le _) _, fun b hbl h1 h2 h3 => (Below.heap_setCell w2 _ _ b h2).trans ((hgrow.block b (by simp; omega) (fun e => h3 (hat b e.symm))).trans (Below.heap_alloc w1 _ b hbl)), fun s ⟨A', n', c', hs, e⟩ => ?_⟩
    have := (hb1.set_ 0 (.slice (some ⟨g', 0, none⟩) (L'.length + 1) cap')).cell 0
    rw [hs] at this
    simp at this
    obtain ⟨rfl, _⟩ := this
    rcases hlies with hl | hl
    · exact .inl (e ▸ hat _ hl)
    · right
      rw [← e]
      simp only
      rw [hl]; simp
  have hb2 := hb1.set_to 0 (.slice (some ⟨g', 0, none⟩) (L'.length + 1) cap') (cs' := #[.slice (some ⟨g', 0, none⟩) (L'.length + 1) cap']) rfl
  have hq : RL (w2.setCell ⟨x, 0, none⟩ (.slice (some ⟨g', 0, none⟩) (L'.length + 1) cap')) B x (L' ++ [(k : Int)]) := by
    refine ⟨some ⟨g', 0, none⟩, cap', by simpa using hb2, hx, ?_⟩
    obtain ⟨h1, h2⟩ := hown1
    rw [List.length_append, List.length_singleton]
    refine ⟨by simp [ivals], ?_⟩
    rcases h2 with ⟨_, h0⟩ | ⟨r, c, cur, a1, a2, a3, a4⟩
    · omega
    · refine .inr ⟨r, c, cur, a1, a2, ((show Blk w2 r 3 cur from a3).far (p := ⟨x, 0, none⟩) ((show Blk w2 r 3 cur from a3).ne_ hb1 (by decide)) _), ?_⟩
      simpa [ivals] using a4
  have HQ := Lib.hid hq; have HN := Lib.hid (hF.trans hF2)
  clear hown hgrow hb1 hown1 hF hF2 hb2 hq hb ho c0 l0 hi hz0 hz1 hz2 hlies hlt1 hat hneb HAT HE hsz
  go_wp2_with fail
  go_ret
  exact ⟨rfl, HQ.out, HN.out⟩
/-- age and reference lie apart -/
def Sep (w : World) (a g x : Nat) : Prop := a ≠ x ∧ g ≠ x ∧ ∀ s, ¬ (At w g s ∧ At w x s)
section
variable {w w' : World} {B a g x T : Nat} {L M : List Int}
theorem AI.blks (h : AI w B a g T L) : (∃ cs, Blk w a 58 cs) ∧ (∃ cs, Blk w g 60 cs) ∧ B ≤ a ∧ B ≤ g := by
  obtain ⟨lf, tk, zs, ⟨A, cap, h1, h2, _, h4, h5, _⟩, _⟩ := h
  exact ⟨⟨_, h4⟩, ⟨_, h1⟩, h5, h2⟩
theorem AI.below (h : AI w B a g T L) (hF : Fr a g w w') (hB : B ≤ w.heap.size) : Below B w w' := by
  obtain ⟨_, _, h1, h2⟩ := h.blks
  exact hF.below h1 h2 (fun s hs => (h.rows s hs).1) hB
theorem RL.blk (h : RL w B x L) : (∃ cs, Blk w x 28 cs) ∧ B ≤ x := by
  obtain ⟨A, cap, h1, h2, _⟩ := h
  exact ⟨⟨_, h1⟩, h2⟩
theorem RL.below (h : RL w B x L) (hF : Fr x x w w') (hB : B ≤ w.heap.size) : Below B w w' :=
  hF.below h.blk.2 h.blk.2 (fun s hs => (h.rows s hs).1) hB
theorem at_keep {y s : Nat} (h : At w' y s) (hk : w'.heap[y]? = w.heap[y]?) : At w y s := by
  obtain ⟨A, n, c, hs, e⟩ := h
  exact ⟨A, n, c, (World.cell?_of_block (a := ⟨y, 0, none⟩) hk).symm.trans hs, e⟩
theorem sep_age (hA : AI w B a g T M) (hR : RL w B x L) (hs : Sep w a g x) (hF : Fr a g w w') : RL w' B x L ∧ Sep w' a g x := by
  obtain ⟨⟨ca, ha⟩, ⟨cg, hg⟩, _⟩ := hA.blks
  obtain ⟨⟨cx, hx⟩, _⟩ := hR.blk
  have kx : w'.heap[x]? = w.heap[x]? := hF.2.1 x hx.lt (Ne.symm hs.1) (Ne.symm hs.2.1) (fun c => by
    obtain ⟨_, _, cs, hc⟩ := hA.rows x c
    exact hc.ne_ hx (by decide) rfl)
  have kr : ∀ y, At w x y → w'.heap[y]? = w.heap[y]? := fun y hy => by
    obtain ⟨_, hlt, cs, hc⟩ := hR.rows y hy
    exact hF.2.1 y hlt (hc.ne_ ha (by decide)) (hc.ne_ hg (by decide)) (fun c => hs.2.2 y ⟨c, hy⟩)
  refine ⟨hR.same fun y hy => ?_, hs.1, hs.2.1, fun s ⟨c1, c2⟩ => ?_⟩
  · rcases hy with rfl | hy
    · exact kx
    · exact kr y hy
  · have c3 := at_keep c2 kx
    rcases hF.2.2 s c1 with c | c
    · exact hs.2.2 s ⟨c, c3⟩
    · have := (hR.rows s c3).2.1
      omega
theorem sep_ref (hA : AI w B a g T M) (hR : RL w B x L) (hs : Sep w a g x) (hF : Fr x x w w') : AI w' B a g T M ∧ Sep w' a g x := by
  obtain ⟨⟨ca, ha⟩, ⟨cg, hg⟩, _⟩ := hA.blks
  obtain ⟨⟨cx, hx⟩, _⟩ := hR.blk
  have no : ∀ (y t : Nat) (cs : Array Value), Blk w y t cs → t ≠ 3 → ¬ At w x y := fun y t cs hy ht c => by
    obtain ⟨_, _, cs', hc⟩ := hR.rows y c
    exact hc.ne_ hy (Ne.symm ht) rfl
  have ka : w'.heap[a]? = w.heap[a]? := hF.2.1 a ha.lt hs.1 hs.1 (no a 58 ca ha (by decide))
  have kg : w'.heap[g]? = w.heap[g]? := hF.2.1 g hg.lt hs.2.1 hs.2.1 (no g 60 cg hg (by decide))
  have kr : ∀ y, At w g y → w'.heap[y]? = w.heap[y]? := fun y hy => by
    obtain ⟨_, hlt, cs, hc⟩ := hA.rows y hy
    exact hF.2.1 y hlt (hc.ne_ hx (by decide)) (hc.ne_ hx (by decide)) (fun c => hs.2.2 y ⟨hy, c⟩)
  refine ⟨hA.same fun y hy => ?_, hs.1, hs.2.1, fun s ⟨c1, c2⟩ => ?_⟩
  · rcases hy with rfl | rfl | hy
    · exact ka
    · exact kg
    · exact kr y hy
  · have c3 := at_keep c1 kg
    rcases hF.2.2 s c2 with c | c
    · exact hs.2.2 s ⟨c3, c⟩
    · have := (hA.rows s c3).2.1
      omega
end
theorem known_ok (w : World) : Calls Try.prog 17 #[] w fun e w' => e = .returned (.bool true) ∧ Below w.heap.size w w' := by
  go_enter Try.func17, Try.ntmps17
  go_wp2_with fail
  refine (anew_ok _).mono ?_
  rintro e w1 ⟨rfl, hA, hb⟩
  go_wp2_with fail
  refine (touch_ok w.heap.size w.heap.size (w.heap.size + 1) 0 1 [] _ hA hb.size (by omega) (by omega)).mono ?_
  rintro e w2 ⟨rfl, hA2, hF2⟩
  have hb2 := hb.trans (hA.below hF2 hb.size)
  clear hA hF2 hb
  go_wp2_with fail
  refine (touch_ok w.heap.size w.heap.size (w.heap.size + 1) (0 + 1) 2 _ _ hA2 hb2.size (by omega) (by omega)).mono ?_
  rintro e w3 ⟨rfl, hA3, hF3⟩
  have hb3 := hb2.trans (hA2.below hF3 hb2.size)
  clear hA2 hF3 hb2
  go_wp2_with fail
  refine (touch_ok w.heap.size w.heap.size (w.heap.size + 1) (0 + 1 + 1) 1 _ _ hA3 hb3.size (by omega) (by omega)).mono ?_
  rintro e w4 ⟨rfl, hA4, hF4⟩
  have hb4 := hb3.trans (hA3.below hF4 hb3.size)
  have hL : dl ((1 : Nat) : Int) (dl ((2 : Nat) : Int) (dl ((1 : Nat) : Int) [] ++ [((1 : Nat) : Int)]) ++ [((2 : Nat) : Int)]) ++ [((1 : Nat) : Int)] = [2, 1] := by decide
  rw [hL] at hA4
  clear hA3 hF4 hb3 hL
  go_wp2_with fail
  refine (old_ok w.heap.size w.heap.size (w.heap.size + 1) _ [2, 1] _ hA4).mono ?_
  rintro e w5 ⟨rfl, rfl⟩
  have ho : om [2, 1] = 2 := by decide
  have hn : (!decide (([2, 1] : List Int) = [])) = true := by decide
  have hl2 : (([2, 1] : List Int).length : Int) = 2 := by decide
  rw [ho, hn]
  go_wp2_with fail
  refine (alen_ok w.heap.size w.heap.size (w.heap.size + 1) _ [2, 1] _ hA4).mono ?_
  rintro e w6 ⟨rfl, rfl⟩
  go_wp2_with fail
  go_ret
  exact ⟨rfl, hb4⟩
end Go.Proofs.Ytbmpocalapgmjac
