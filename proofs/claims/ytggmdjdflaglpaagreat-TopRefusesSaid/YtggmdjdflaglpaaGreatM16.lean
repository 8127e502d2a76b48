/- The lock: ideal; its piece of the world; Sum, Open. The lock: Open. Structs and arrays whole: loaded, stored, returned out of a block. Leaves: as cells, as bytes; leaf.Is. -/
import Derived.Test.YtggmdjdflaglpaaGreatM15
import Derived.Deep.RegionHeld3
import Derived.Test.YtggmdjdflaglpaaGreatM14
namespace Go.Proofs.YtggmdjdflaglpaaGreat
open Go.RowKit Go.Maps
set_option linter.unusedVariables false
theorem onew_ok (w : World) : Calls Tryz.prog 56 #[] w fun e w' => e = .returned (.pointer (some ⟨w.heap.size + 1, 0, Option.none⟩)) ∧ (∀ ρ : Rl, OrcR ((ρ.set w.heap.size rSum).set (w.heap.size + 1) rOrc) w' (w.heap.size + 1) ⟨[], [], 0⟩) ∧ w'.heap.size = w.heap.size + 2 ∧ Below w.heap.size w w' := by
  have hmk : ∀ W, (Instr.makeMap 172 none).run Tryz.prog W = .ok (.map (some W.heap.size)) (W.alloc (.map #[] 0)) := fun _ => rfl
  go_enter Tryz.func56, Tryz.ntmps56
  go_wp2_with fail
  go_ret
  have hs : (w.alloc (.map #[] 0)).heap.size = w.heap.size + 1 := by simp
  refine ⟨by simp, fun ρ => ⟨.slice none 0 0, w.heap.size, [], 0, .map [], ?_, Rl.set_same _ _ _, World.ownsRow_nil _ _ _ _, fun g e => by simp [Value.ownBlock] at e, RowV.nil _ _, ?_, ?_, Nat.le_refl _, SX.start, by simp, by simp, by simp⟩, by simp, ?_⟩
  · have := Blk.new (w.alloc (.map #[] 0)) 174 #[.slice none 0 0, .map (some w.heap.size)]
    rw [hs] at this
    exact this
  · exact (World.ownsMap_made w Tryz.prog 9 _).alloc _
  · rw [Rl.set_other _ (by omega)]; exact Rl.set_same _ _ _
  · exact ((Below.refl _ w).alloc (Nat.le_refl _) _).alloc (by simp) _
/-- the ideal lock's cells: five calls of the oracle -/
def lcells (o : Nat) : Array Value := #[.func (.func 57) #[.pointer (some ⟨o, 0, Option.none⟩)] #[], .func (.func 58) #[.pointer (some ⟨o, 0, Option.none⟩)] #[], .func (.func 59) #[.pointer (some ⟨o, 0, Option.none⟩)] #[], .func (.func 54) #[.pointer (some ⟨o, 0, Option.none⟩)] #[], .func (.func 55) #[.pointer (some ⟨o, 0, Option.none⟩)] #[]]
def LckR (ρ : Rl) (w : World) (l o : Nat) (O : Orc) : Prop := Blk w l 130 (lcells o) ∧ ρ l = rLck ∧ OrcR ρ w o O
def rsLck (r : Nat) : Prop := r = rLck ∨ rsOrc r
theorem LckR.keep {ρ ρ' : Rl} {w w' : World} {l o : Nat} {O : Orc} (h : LckR ρ w l o O) (hs : w.heap.size ≤ w'.heap.size) (hk : ∀ b, b < w.heap.size → rsLck (ρ b) → w'.heap[b]? = w.heap[b]? ∧ ρ' b = ρ b) : LckR ρ' w' l o O := by
  obtain ⟨h1, h2, h3⟩ := h
  have k1 := hk l h1.lt (.inl h2)
  exact ⟨k1.1.trans h1, k1.2.trans h2, h3.keep hs (fun b hb e => hk b hb (.inr e))⟩
theorem lideal_ok (w : World) : Calls Tryz.prog 29 #[] w fun e w' => e = .returned (.pointer (some ⟨w.heap.size + 2, 0, Option.none⟩)) ∧ (∀ ρ : Rl, LckR (((ρ.set w.heap.size rSum).set (w.heap.size + 1) rOrc).set (w.heap.size + 2) rLck) w' (w.heap.size + 2) (w.heap.size + 1) ⟨[], [], 0⟩) ∧ w'.heap.size = w.heap.size + 3 ∧ Below w.heap.size w w' := by
  have hmf : ∀ (fn : Fn) (first cap : Array Value) (w : World), (Instr.makeFunc fn first cap).run Tryz.prog w = .ok (.func fn first cap) w := fun _ _ _ _ => rfl
  go_enter Tryz.func29, Tryz.ntmps29
  go_wp2_with fail
  refine (onew_ok _).mono ?_
  rintro e w1 ⟨rfl, h1, h2, h3⟩
  go_wp2_with fail
  go_ret
  refine ⟨rfl, fun ρ => ⟨?_, Rl.set_same _ _ _, ?_⟩, by simp [h2], h3.alloc (by omega) _⟩
  · have := Blk.new w1 130 (lcells (w.heap.size + 1))
    rw [h2] at this
    exact this
  · exact (h1 ρ).keep (by simp) (fun b hb _ => ⟨Below.heap_alloc w1 _ b hb, Rl.set_other _ (by omega)⟩)
def rtLck (r : Nat) : Prop := rtOrc r
set_option maxHeartbeats 4000000 in
set_option maxRecDepth 100000 in
theorem lsum_ok (ρ : Rl) (l o : Nat) (O : Orc) (v : Value) (Ls : List By) (w : World) (hf : Fresh ρ w) (h : LckR ρ w l o O) (hR : Rows w v Ls) (ht : total Ls ≤ 100000) (hc : O.sums.length < 1000000) :
    Calls Tryz.prog 168 #[.pointer (some ⟨l, 0, Option.none⟩), v] w fun e w' => e = .returned (.agg #[.int .u64 kSum, .int .u64 ((O.sums.idxOf Ls.flatten : Int) + 1)]) ∧ LckR ρ w' l o (osum O Ls.flatten) ∧ Ste rtOrc ρ w ρ w' := by
  obtain ⟨W, hW⟩ : ∃ W, W = w.alloc (.cells #[.int .u64 0, .int .u64 0] 101) := ⟨_, rfl⟩
  have hB : Blk W w.heap.size 101 #[.int .u64 0, .int .u64 0] := by rw [hW]; exact Blk.new w 101 _
  have hbw : Below w.heap.size w W := by rw [hW]; exact (Below.refl _ _).alloc (Nat.le_refl _) _
  have hfW : Fresh ρ W := fun i hi => hf i (Nat.le_trans hbw.size hi)
  have hL : LckR ρ W l o O := h.keep hbw.size (fun b hb _ => ⟨hbw.block b hb, rfl⟩)
  have hs := osum_ok ρ o O v Ls W hfW hL.2.2 (hR.below_ hbw) ht hc
  obtain ⟨k, hk⟩ : ∃ k : Int, k = (O.sums.idxOf Ls.flatten : Int) + 1 := ⟨_, rfl⟩
  obtain ⟨k2, hk2⟩ : ∃ k2 : Int, k2 = kSum := ⟨_, rfl⟩
  rw [← hk, ← hk2] at hs ⊢
  have HK := Lib.hid (And.intro hk hk2)
  have c2 : W.cell? ⟨l, 2, Option.none⟩ = some (.func (.func 59) #[.pointer (some ⟨o, 0, Option.none⟩)] #[]) := hL.1.cell_ 2 rfl
  have hl := hL.1.lt
  have HL := Lib.hid hL
  have hl0 := hL.2.1
  have HB := Lib.hid (And.intro hB hbw)
  clear hk hk2 hL hR h hB hbw
  subst hW
  go_enter Tryz.func168, Tryz.ntmps168
  go_wp2_with fail
  refine hs.mono ?_
  rintro e w1 ⟨rfl, hO1, hst⟩
  obtain ⟨hB, hbw⟩ := HB.out
  have hB1 : Blk w1 w.heap.size 101 #[.int .u64 0, .int .u64 0] := hB.ch hst.ch (by rw [hf _ (Nat.le_refl _)]; unfold rtOrc; decide)
  have f0 := hB1.frozen 0
  have f1 := hB1.frozen 1
  have b0 := hB1.cell_ 0 rfl
  have b1 := hB1.cell_ 1 rfl
  have lb := hB1.lt
  have HB1 := Lib.hid hB1
  have HO := Lib.hid (And.intro hO1 (And.intro hst hbw))
  clear hB1 hO1 hst hbw hs hB
  go_wp2_with fail
  have hf2 := (HB1.out.set_ 0 (.int .u64 k2)).set_ 1 (.int .u64 k)
  have ra : ((w1.setCell ⟨w.heap.size, 0, Option.none⟩ (.int .u64 k2)).setCell ⟨w.heap.size, 1, Option.none⟩ (.int .u64 k)).cell? ⟨w.heap.size, 0, Option.none⟩ = some (.int .u64 k2) := hf2.cell_ 0 rfl
  have rb : ((w1.setCell ⟨w.heap.size, 0, Option.none⟩ (.int .u64 k2)).setCell ⟨w.heap.size, 1, Option.none⟩ (.int .u64 k)).cell? ⟨w.heap.size, 1, Option.none⟩ = some (.int .u64 k) := hf2.cell_ 1 rfl
  obtain ⟨hO1, hst, hbw⟩ := HO.out
  have hg23 := only_set2 w1 w.heap.size 0 1 (.int .u64 k2) (.int .u64 k)
  refine bodyPost_ret (v := .agg #[.int .u64 k2, .int .u64 k]) (by simp [results, Tryz.results168, go_sem, ra, rb]) rfl ⟨by first | rfl | rw [HK.out.1, HK.out.2], ?_, ?_⟩
  · have hkp : ∀ b, b < w1.heap.size → ρ b ≠ 0 → ((w1.setCell ⟨w.heap.size, 0, Option.none⟩ (.int .u64 k2)).setCell ⟨w.heap.size, 1, Option.none⟩ (.int .u64 k)).heap[b]? = w1.heap[b]? := fun b hb e => hg23.block b hb (fun c => by injection c with c; rw [c] at e; exact e (hf _ (Nat.le_refl _)))
    refine ⟨?_, HL.out.2.1, hO1.keep hg23.size (fun b hb e => ⟨hkp b hb (fun c => by rw [c] at e; unfold rsOrc at e; revert e; decide), rfl⟩)⟩
    exact (hkp l (Nat.lt_of_lt_of_le hl hst.size) (by rw [hl0]; decide)).trans (HL.out.1.ch hst.ch (by rw [hl0]; unfold rtOrc; decide))
  · have hch : Ch (fun i => rtOrc (ρ i)) w _ := ((Ch.of_below hbw).trans hst.ch).then_only hg23 (Nat.le_refl _)
    exact ⟨hch, fun _ _ => rfl, fun i hi => hf i (Nat.le_trans hch.size hi)⟩
end Go.Proofs.YtggmdjdflaglpaaGreat
namespace Go.Proofs.YtggmdjdflaglpaaGreat
open Go.RowKit
set_option linter.unusedVariables false
set_option maxHeartbeats 4000000 in
set_option maxRecDepth 100000 in
theorem lopen_ok (ρ : Rl) (p q : Nat → Prop) (l o : Nat) (O : Orc) (key : Two) (n : Nce) (vh : Value) (head : By) (vb : Value) (b : By) (tag : Two) (w : World) (h : LckR ρ w l o O) (hh : HasP p w vh head) (hb : HasP q w vb b) :
    Calls Tryz.prog 137 #[.pointer (some ⟨l, 0, none⟩), pv key, nv n, vh, .agg #[vb, .int .u64 tag.1, .int .u64 tag.2]] w fun e w' =>
      ∃ v, e = .returned (.tuple #[v, .bool (oopen O.iss key n head b tag).isSome]) ∧ OwnB w.heap.size w' v ((oopen O.iss key n head b tag).getD []) ∧ Below w.heap.size w w' := by
  obtain ⟨A, cap, rfl⟩ := hb.slice
  have hcall := fun W h1 h2 h3 => oopen_ok ρ p q o O key n vh head (.slice A b.length cap) b tag W h1 h2 h3
  unfold pv nv at hcall ⊢
  obtain ⟨ka, kb⟩ := key
  obtain ⟨ne, ns, nr⟩ := n
  obtain ⟨ta, tb⟩ := tag
  simp only at hcall ⊢
  obtain ⟨m, hm⟩ : ∃ m, m = b.length := ⟨_, rfl⟩
  rw [← hm] at hcall hb ⊢
  obtain ⟨W, hW⟩ : ∃ W, W = ((w.alloc (.cells #[.int .u64 ka, .int .u64 kb] 101)).alloc (.cells #[.int .u32 ne, .int .u32 ns, .int .u64 nr] 99)).alloc (.cells #[.slice A m cap, .int .u64 ta, .int .u64 tb] 157) := ⟨_, rfl⟩
  have hbw : Below w.heap.size w W := by rw [hW]; exact (((Below.refl _ _).alloc (Nat.le_refl _) _).alloc (by simp) _).alloc (by simp; omega) _
  have hB0 : Blk W w.heap.size 101 #[.int .u64 ka, .int .u64 kb] := by rw [hW]; exact ((Blk.new w 101 _).alloc _).alloc _
  have hB1 : Blk W (w.heap.size + 1) 99 #[.int .u32 ne, .int .u32 ns, .int .u64 nr] := by
    rw [hW]
    have := Blk.new (w.alloc (.cells #[.int .u64 ka, .int .u64 kb] 101)) 99 #[.int .u32 ne, .int .u32 ns, .int .u64 nr]
    rw [World.size_alloc] at this
    exact this.alloc _
  have hB2 : Blk W (w.heap.size + 1 + 1) 157 #[.slice A m cap, .int .u64 ta, .int .u64 tb] := by
    rw [hW]
    have := Blk.new ((w.alloc (.cells #[.int .u64 ka, .int .u64 kb] 101)).alloc (.cells #[.int .u32 ne, .int .u32 ns, .int .u64 nr] 99)) 157 #[.slice A m cap, .int .u64 ta, .int .u64 tb]
    rw [World.size_alloc, World.size_alloc] at this
    exact this
  have hL : LckR ρ W l o O := h.keep hbw.size (fun b hb _ => ⟨hbw.block b hb, rfl⟩)
  have hc := hcall W.drew (hL.2.2.keep (Nat.le_refl _) (fun _ _ _ => ⟨rfl, rfl⟩)) (hh.below_ hbw.drew) (hb.below_ hbw.drew)
  have hLb := hL.1.drew
  have hl := hL.1.lt
  have hws := hbw.size
  clear hcall h hh hb hL hm
  go_enter Tryz.func137, Tryz.ntmps137
  go_wp2_with fail
  rw [← hW]
  clear hW
  replace hB0 := hB0.drew
  replace hB1 := hB1.drew
  replace hB2 := hB2.drew
  replace hbw := hbw.drew
  go_region_held3 (fun w' => w'.cell? ⟨l, 1, none⟩ = some (.func (.func 58) #[.pointer (some ⟨o, 0, none⟩)] #[]) ∧ w'.cell? ⟨w.heap.size, 0, none⟩ = some (.int .u64 ka) ∧ w'.cell? ⟨w.heap.size, 1, none⟩ = some (.int .u64 kb) ∧
      w'.cell? ⟨w.heap.size + 1, 0, none⟩ = some (.int .u32 ne) ∧ w'.cell? ⟨w.heap.size + 1, 1, none⟩ = some (.int .u32 ns) ∧ w'.cell? ⟨w.heap.size + 1, 2, none⟩ = some (.int .u64 nr) ∧
      w'.cell? ⟨w.heap.size + 1 + 1, 0, none⟩ = some (.slice A m cap) ∧ w'.cell? ⟨w.heap.size + 1 + 1, 1, none⟩ = some (.int .u64 ta) ∧ w'.cell? ⟨w.heap.size + 1 + 1, 2, none⟩ = some (.int .u64 tb))
    (exact ⟨hLb.cell_ 1 rfl, hB0.cell_ 0 rfl, hB0.cell_ 1 rfl, hB1.cell_ 0 rfl, hB1.cell_ 1 rfl, hB1.cell_ 2 rfl, hB2.cell_ 0 rfl, hB2.cell_ 1 rfl, hB2.cell_ 2 rfl⟩)
    (first
      | (go_at_call 58; refine hc.mono ?_; rintro e w1 ⟨v1, rfl, o1, l1⟩; replace hLb := hLb.below_ l1; replace hB0 := hB0.below_ l1; replace hB1 := hB1.below_ l1; replace hB2 := hB2.below_ l1))
  go_wp2_with fail
  go_ret2
  exact ⟨_, rfl, o1.weak hws, hbw.trans (l1.mono hws)⟩
end Go.Proofs.YtggmdjdflaglpaaGreat
namespace Go.Proofs.YtggmdjdflaglpaaGreat
open Go.RowKit Go.Proofs.YtggmdjdflaglpaaGreat.r27
set_option linter.unusedVariables false
theorem Blk.range {w : World} {g t : Nat} {cs : List Value} (h : Blk w g t cs.toArray) : w.rangeAt g 0 cs := fun j v hv => by
  rw [Nat.zero_add]
  exact h.cell_ j (by simpa using hv)
theorem Blk.there_ {w : World} {g t n : Nat} {cs : List Value} (h : Blk w g t cs.toArray) (hn : n = cs.length) : w.there g 0 n := there_of (cs := cs) h (by omega)
/-- a block written whole -/
theorem Blk.whole {w : World} {g t : Nat} {cs vs : List Value} (h : Blk w g t cs.toArray) (hn : vs.length = cs.length) : Blk (w.setCells g 0 vs) g t vs.toArray := by
  have := Blk.setCells (w := w) vs cs 0 w h (by omega)
  rw [List.take_zero, List.nil_append, Nat.zero_add, hn, List.drop_length, List.append_nil] at this
  exact this
theorem Blk.far_cells {w : World} {g g' t : Nat} {cs : Array Value} (h : Blk w g t cs) (hne : g ≠ g') (o : Nat) (vs : List Value) : Blk (w.setCells g' o vs) g t cs :=
  h.grown (only_setCells vs o w (only_refl _ (some g'))) (fun e => hne (by injection e))
section
variable {P : Program} {fn : Func} {R : Ending → World → Prop} {a : Act} {w : World}
theorem ret_cell (t : Tmp) (ty : TypeId) (hf : fn.results = #[.cell t ty]) (b o : Nat) (ht : a.tmps.getD t undef = .pointer (some ⟨b, o, none⟩)) (cs : List Value) (d : TypeDesc) (hc : w.rangeAt b o cs)
    (hu : P.underlying ty = some d) (hd : d.isRow = true) (hi : (P.info? ty).map (·.size) = some cs.length) (hde : a.defers = []) (hR : R (.returned (.agg cs.toArray)) w) : bodyPost P fn R .ret a w := by
  refine bodyPost_ret (v := .agg cs.toArray) ?_ hde hR
  have hl := run_loadVar_mid w b o ty cs d hc hu hd hi
  unfold results
  rw [hf]
  simp only [List.mapM_toArray, List.mapM_cons, List.mapM_nil, Sem.run_bind, Sem.run_pure, Result.andThen_ok, asAddr, Sem.run_map, ht, hl]
  simp
theorem ret_cell_tmp (t : Tmp) (ty : TypeId) (s : Tmp) (hf : fn.results = #[.cell t ty, .tmp s]) (b o : Nat) (ht : a.tmps.getD t undef = .pointer (some ⟨b, o, none⟩)) (u : Value) (hs : a.tmps.getD s undef = u) (cs : List Value) (d : TypeDesc) (hc : w.rangeAt b o cs)
    (hu : P.underlying ty = some d) (hd : d.isRow = true) (hi : (P.info? ty).map (·.size) = some cs.length) (hde : a.defers = []) (hR : R (.returned (.tuple #[.agg cs.toArray, u])) w) : bodyPost P fn R .ret a w := by
  refine bodyPost_ret (v := .tuple #[.agg cs.toArray, u]) ?_ hde hR
  have hl := run_loadVar_mid w b o ty cs d hc hu hd hi
  unfold results
  rw [hf]
  simp only [List.mapM_toArray, List.mapM_cons, List.mapM_nil, Sem.run_bind, Sem.run_pure, Result.andThen_ok, asAddr, Sem.run_map, ht, hs, hl]
  simp
theorem ret_tmp_cell (s : Tmp) (t : Tmp) (ty : TypeId) (hf : fn.results = #[.tmp s, .cell t ty]) (b o : Nat) (ht : a.tmps.getD t undef = .pointer (some ⟨b, o, none⟩)) (u : Value) (hs : a.tmps.getD s undef = u) (cs : List Value) (d : TypeDesc) (hc : w.rangeAt b o cs)
    (hu : P.underlying ty = some d) (hd : d.isRow = true) (hi : (P.info? ty).map (·.size) = some cs.length) (hde : a.defers = []) (hR : R (.returned (.tuple #[u, .agg cs.toArray])) w) : bodyPost P fn R .ret a w := by
  refine bodyPost_ret (v := .tuple #[u, .agg cs.toArray]) ?_ hde hR
  have hl := run_loadVar_mid w b o ty cs d hc hu hd hi
  unfold results
  rw [hf]
  simp only [List.mapM_toArray, List.mapM_cons, List.mapM_nil, Sem.run_bind, Sem.run_pure, Result.andThen_ok, asAddr, Sem.run_map, ht, hs, hl]
  simp
theorem ret_tmp_cell_tmp (s : Tmp) (t : Tmp) (ty : TypeId) (s' : Tmp) (hf : fn.results = #[.tmp s, .cell t ty, .tmp s']) (b o : Nat) (ht : a.tmps.getD t undef = .pointer (some ⟨b, o, none⟩)) (u : Value) (hs : a.tmps.getD s undef = u) (u' : Value) (hs' : a.tmps.getD s' undef = u') (cs : List Value) (d : TypeDesc) (hc : w.rangeAt b o cs)
    (hu : P.underlying ty = some d) (hd : d.isRow = true) (hi : (P.info? ty).map (·.size) = some cs.length) (hde : a.defers = []) (hR : R (.returned (.tuple #[u, .agg cs.toArray, u'])) w) : bodyPost P fn R .ret a w := by
  refine bodyPost_ret (v := .tuple #[u, .agg cs.toArray, u']) ?_ hde hR
  have hl := run_loadVar_mid w b o ty cs d hc hu hd hi
  unfold results
  rw [hf]
  simp only [List.mapM_toArray, List.mapM_cons, List.mapM_nil, Sem.run_bind, Sem.run_pure, Result.andThen_ok, asAddr, Sem.run_map, ht, hs, hs', hl]
  simp
theorem ret_cell_cell_tmp (t : Tmp) (ty : TypeId) (t' : Tmp) (ty' : TypeId) (s : Tmp) (hf : fn.results = #[.cell t ty, .cell t' ty', .tmp s]) (b o : Nat) (ht : a.tmps.getD t undef = .pointer (some ⟨b, o, none⟩)) (b' o' : Nat) (ht' : a.tmps.getD t' undef = .pointer (some ⟨b', o', none⟩))
    (u : Value) (hs : a.tmps.getD s undef = u) (cs : List Value) (d : TypeDesc) (hc : w.rangeAt b o cs) (hu : P.underlying ty = some d) (hd : d.isRow = true) (hi : (P.info? ty).map (·.size) = some cs.length)
    (cs' : List Value) (d' : TypeDesc) (hc' : w.rangeAt b' o' cs') (hu' : P.underlying ty' = some d') (hd' : d'.isRow = true) (hi' : (P.info? ty').map (·.size) = some cs'.length) (hde : a.defers = [])
    (hR : R (.returned (.tuple #[.agg cs.toArray, .agg cs'.toArray, u])) w) : bodyPost P fn R .ret a w := by
  refine bodyPost_ret (v := .tuple #[.agg cs.toArray, .agg cs'.toArray, u]) ?_ hde hR
  have hl := run_loadVar_mid w b o ty cs d hc hu hd hi
  have hl' := run_loadVar_mid w b' o' ty' cs' d' hc' hu' hd' hi'
  unfold results
  rw [hf]
  simp only [List.mapM_toArray, List.mapM_cons, List.mapM_nil, Sem.run_bind, Sem.run_pure, Result.andThen_ok, asAddr, Sem.run_map, ht, ht', hs, hl, hl']
  simp
end
theorem sz99 : (Tryz.prog.info? 99).map (·.size) = some 3 := by kernel_rfl
theorem sz101 : (Tryz.prog.info? 101).map (·.size) = some 2 := by kernel_rfl
theorem sz103 : (Tryz.prog.info? 103).map (·.size) = some 8 := by kernel_rfl
theorem sz139 : (Tryz.prog.info? 139).map (·.size) = some 5 := by kernel_rfl
theorem sz157 : (Tryz.prog.info? 157).map (·.size) = some 3 := by kernel_rfl
theorem sz176 : (Tryz.prog.info? 176).map (·.size) = some 10 := by kernel_rfl
theorem sz38 : (Tryz.prog.info? 38).map (·.size) = some 2 := by kernel_rfl
end Go.Proofs.YtggmdjdflaglpaaGreat
namespace Go.Proofs.YtggmdjdflaglpaaGreat
open Go.RowKit
set_option linter.unusedVariables false
structure Lf where
  kind : Nat
  dirty : Bool
  lba : Nat
  n : Nce
  tag : Two
def Lf.no : Lf := ⟨0, false, 0, ⟨0, 0, 0⟩, (0, 0)⟩
def Lf.zero (lba : Nat) : Lf := ⟨2, true, lba, ⟨0, 0, 0⟩, (0, 0)⟩
def lfc (l : Lf) : List Value := [.int .i64 l.kind, .bool l.dirty, .int .i64 l.lba, .int .u32 l.n.ep, .int .u32 l.n.slot, .int .u64 l.n.ver, .int .u64 l.tag.1, .int .u64 l.tag.2]
def lfv (l : Lf) : Value := .agg (lfc l).toArray
/-- a slot may have such a leaf -/
def Lf.ok (l : Lf) (i : Nat) : Prop := l = Lf.no ∨ (∃ k, k < 32 ∧ l = Lf.zero k) ∨ (l.kind = 1 ∧ l.lba < 32 ∧ l.n.slot = i ∧ 0 < l.n.ep ∧ l.n.ok ∧ U2 l.tag)
theorem lsLba_ok (k : Nat) (w : World) (h : k < 32) : Calls Tryz.prog 180 #[.int .i64 k] w fun e w' => e = .returned (.bool true) ∧ w = w' := by
  have k0 : (0 : Int) ≤ (k : Int) := by omega
  have k1 : (k : Int) < 32 := by omega
  go_enter Tryz.func180, Tryz.ntmps180
  go_wp2_with fail
  go_ret
  exact ⟨rfl, rfl⟩
theorem eq_none (w : World) : (binOp .eql 103 (.agg #[.int .i64 0, .bool false, .int .i64 0, .int .u32 0, .int .u32 0, .int .u64 0, .int .u64 0, .int .u64 0]) (.agg #[.int .i64 0, .bool false, .int .i64 0, .int .u32 0, .int .u32 0, .int .u64 0, .int .u64 0, .int .u64 0])).run Tryz.prog w = .ok (.bool true) w := by kernel_rfl
theorem eq_zero (k : Int) (w : World) : (binOp .eql 103 (.agg #[.int .i64 2, .bool true, .int .i64 k, .int .u32 0, .int .u32 0, .int .u64 0, .int .u64 0, .int .u64 0]) (.agg #[.int .i64 2, .bool true, .int .i64 k, .int .u32 0, .int .u32 0, .int .u64 0, .int .u64 0, .int .u64 0])).run Tryz.prog w = .ok (.bool true) w := by
  have z : (Op.equalIn 9999 101 (.agg #[.int .u64 0, .int .u64 0]) (.agg #[.int .u64 0, .int .u64 0])).run Tryz.prog w = .ok true w := by kernel_rfl
  simp [go_sem, z]
theorem lis_none (i : Nat) (hi : i < 16) (w : World) : Calls Tryz.prog 169 #[lfv Lf.no, .int .i64 i] w fun e w' => e = .returned (.bool true) ∧ Below w.heap.size w w' := by
  have i0 : (0 : Int) ≤ (i : Int) := by omega
  have i1 : (i : Int) < 16 := by omega
  have hq := fun W => eq_none W
  unfold lfv lfc Lf.no
  go_enter Tryz.func169, Tryz.ntmps169
  go_wp2_with fail
  go_ret
  exact ⟨rfl, (Below.refl _ _).alloc (Nat.le_refl _) _⟩
theorem lis_zero (k i : Nat) (hi : i < 16) (hk : k < 32) (w : World) : Calls Tryz.prog 169 #[lfv (Lf.zero k), .int .i64 i] w fun e w' => e = .returned (.bool true) ∧ Below w.heap.size w w' := by
  have i0 : (0 : Int) ≤ (i : Int) := by omega
  have i1 : (i : Int) < 16 := by omega
  have hq := fun W => eq_zero k W
  unfold lfv lfc Lf.zero
  go_enter Tryz.func169, Tryz.ntmps169
  go_wp2_with (go_at_call 180; refine (lsLba_ok k _ hk).mono ?_; rintro e w1 ⟨rfl, rfl⟩)
  go_ret
  exact ⟨rfl, (Below.refl _ _).alloc (Nat.le_refl _) _⟩
theorem lis_full (l : Lf) (i : Nat) (hi : i < 16) (h : l.kind = 1 ∧ l.lba < 32 ∧ l.n.slot = i ∧ 0 < l.n.ep ∧ l.n.ok ∧ U2 l.tag) (w : World) : Calls Tryz.prog 169 #[lfv l, .int .i64 i] w fun e w' => e = .returned (.bool true) ∧ Below w.heap.size w w' := by
  have i0 : (0 : Int) ≤ (i : Int) := by omega
  have i1 : (i : Int) < 16 := by omega
  obtain ⟨kind, dirty, k, ⟨ep, sl, ver⟩, ta, tb⟩ := l
  obtain ⟨h1, hk, h2, h3, h4, h5⟩ := h
  simp only at h1 hk h2 h3
  subst h1 h2
  obtain ⟨⟨e0, e1⟩, _⟩ := h4
  simp only at e0 e1
  clear h5
  unfold lfv lfc
  go_enter Tryz.func169, Tryz.ntmps169
  go_wp2_with (go_at_call 180; refine (lsLba_ok k _ hk).mono ?_; rintro e w1 ⟨rfl, rfl⟩)
  go_ret
  exact ⟨by simp, (Below.refl _ _).alloc (Nat.le_refl _) _⟩
theorem lis_ok (l : Lf) (i : Nat) (hi : i < 16) (h : l.ok i) (w : World) : Calls Tryz.prog 169 #[lfv l, .int .i64 i] w fun e w' => e = .returned (.bool true) ∧ Below w.heap.size w w' := by
  rcases h with rfl | ⟨k, hk, rfl⟩ | h
  · exact lis_none i hi w
  · exact lis_zero k i hi hk w
  · exact lis_full l i hi h w
end Go.Proofs.YtggmdjdflaglpaaGreat
