/- The contracts of the model's functions. -/
import Derived.Test.YtbmpocalapgmjabBytes
import Derived.BigRegion
import Derived.Deep.RegionHeld3
import Derived.Laws.MakeOwn
import Derived.Deep.WholeRow
import Derived.WalkSpells
import Derived.Lib.SliceRun
namespace Go.Proofs.Ytbmpocalapgmjab
open Go.RowKit
set_option linter.unusedVariables false
theorem info5 : (Try.prog.info? 5).map (fun i => (i.zero, i.size, i.bytes)) = some (some (.int .u8 0), 1, 1) := by kernel_rfl
theorem made_bytes (n : Nat) : madeCells (Value.int .u8 0).cells (n * 1) = bcells (List.replicate n 0) := by
  apply Array.ext
  · simp [madeCells, bcells]
  · intro i h1 h2
    simp [madeCells, bcells, Value.cells, Nat.mod_one]
theorem info5s : (Try.prog.info? 5).map (·.size) = some 1 := by kernel_rfl
theorem make32 (w : World) : (Instr.makeSlice 24 (.int .i64 32) (.int .i64 32)).run Try.prog w = .ok (.slice (some ⟨w.heap.size, 0, none⟩) 32 32) (w.alloc (.cells (bcells zeros) 5)) := by
  obtain ⟨i0, hi, hz0, hz1, hz2⟩ := info_parts info5
  have h := run_make (P := Try.prog) w 24 5 i0 (.int .u8 0) Try.underlying24 hi hz0 .i64 .i64 32 32 (by omega) (by omega) (by rw [hz2]; omega) (by omega)
  rw [hz1, show (32 : Int).toNat = 32 from rfl, made_bytes] at h
  exact h
theorem copy_from (w : World) (b c : Nat) (l : List UInt8) (cs : Array Value) (fr : Nat × Nat) (hl : l.length = 32) (hb : w.heap[b]? = some (Obj.cells cs 5 fr)) (hc : ∀ (j : Nat) (u : UInt8), l[j]? = some u → cs[j]? = some (Value.int .u8 (u.toNat : Int))) :
    (Builtin.copy_ #[24, 24] 3 #[.slice (some ⟨w.heap.size, 0, none⟩) 32 32, .slice (some ⟨b, 0, none⟩) 32 c]).run Try.prog (w.alloc (.cells (bcells zeros) 5)) = .ok (.int .i64 32) (w.alloc (.cells (bcells l) 5)) := by
  have hb' : (w.alloc (.cells (bcells zeros) 5)).heap[b]? = some (Obj.cells cs 5 fr) := (Below.heap_alloc w _ b (heap_lt hb)).trans hb
  have h := run_copy_row (P := Try.prog) (w.alloc (.cells (bcells zeros) 5)) 24 24 3 5 w.heap.size 0 32 32 ⟨b, 0, none⟩ 32 c (bcells zeros) 5 (bcells l).toList Try.underlying24 info5s (heap_alloc_new w _) (by simp [bcells_size, hl]) (fun j v hj => by
    have hadd : (⟨b, 0, none⟩ : Addr).add j = ⟨b, j, none⟩ := by unfold Addr.add; split <;> simp_all
    rw [hadd, cell_of_row _ b j cs 5 fr hb']
    simp only [bcells, List.toList_toArray, List.getElem?_map, Option.map_eq_some_iff] at hj
    obtain ⟨u, hu, rfl⟩ := hj
    exact hc j u hu) (by simp [bcells_size, hl, zeros]) (fun v hv => by
    simp only [bcells, List.toList_toArray, List.mem_map] at hv
    obtain ⟨u, _, rfl⟩ := hv
    rfl)
  have e : ((bcells zeros).toList.take 0 ++ (bcells l).toList ++ (bcells zeros).toList.drop (0 + (bcells l).toList.length)).toArray = bcells l := by
    have : (bcells zeros).toList.drop (0 + (bcells l).toList.length) = [] := by
      apply List.drop_eq_nil_of_le; simp [bcells_size, hl, zeros]
    rw [this]; simp
  rw [e, World.setRow_alloc_new] at h
  simpa [bcells_size, hl, goInt] using h
theorem copy_nil (w : World) : (Builtin.copy_ #[24, 24] 3 #[.slice (some ⟨w.heap.size, 0, none⟩) 32 32, .slice none 0 0]).run Try.prog (w.alloc (.cells (bcells zeros) 5)) = .ok (.int .i64 0) (w.alloc (.cells (bcells zeros) 5)) :=
  run_copy_nil Try.prog _ 24 24 3 5 _ 32 32 Try.underlying24 (by rw [info5s]; rfl)
theorem isLba_yes (i : Int) (w : World) (h0 : 0 ≤ i) (h1 : i < 32) : Calls Try.prog 31 #[.int .i64 i] w fun e w' => e = .returned (.bool true) ∧ w = w' := by
  go_enter Try.func31, Try.ntmps31
  go_wp2
  go_ret
  exact ⟨rfl, rfl⟩
theorem isLba_no (i : Int) (w : World) (h : i < 0 ∨ 32 ≤ i) : Calls Try.prog 31 #[.int .i64 i] w fun e w' => e = .returned (.bool false) ∧ w = w' := by
  rcases h with h | h
  · go_enter Try.func31, Try.ntmps31
    go_wp2
    go_ret
    exact ⟨rfl, rfl⟩
  · have h0 : 0 ≤ i := by omega
    have h1 : decide (i < 32) = false := by simp; omega
    go_enter Try.func31, Try.ntmps31
    go_wp2
    go_ret
    exact ⟨rfl, rfl⟩
theorem told_ok (v : Value) (l : List UInt8) (w : World) (h : Has w v l) :
    Calls Try.prog 29 #[v] w fun e w' => e = .returned (.slice (some ⟨w.heap.size, 0, none⟩) 32 32) ∧ w' = w.alloc (.cells (bcells l) 5) := by
  obtain ⟨hl, h2⟩ := h
  have hm := make32
  rcases h2 with ⟨rfl, rfl⟩ | ⟨b, c, cs, fr, rfl, hb, hc⟩
  · have hcp := copy_nil w
    go_enter Try.func29, Try.ntmps29
    go_wp2
    go_ret
    exact ⟨rfl, rfl⟩
  · have hcp := copy_from w b c l cs fr hl hb hc
    clear hb hc
    go_enter Try.func29, Try.ntmps29
    go_wp2
    go_ret
    exact ⟨rfl, rfl⟩
/-- the data of a call: 32 bytes, wherever -/
def Data32 (w : World) (A : Option Addr) (l : List UInt8) : Prop :=
  l.length = 32 ∧ ∃ b o, A = some ⟨b, o, none⟩ ∧ b < w.heap.size ∧ ∀ (j : Nat) (u : UInt8), l[j]? = some u → w.cell? ⟨b, o + j, none⟩ = some (.int .u8 (u.toNat : Int))
theorem clone_ok (A : Option Addr) (c : Nat) (l : List UInt8) (w : World) (h : Data32 w A l) :
    Calls Try.prog 30 #[.slice A 32 c] w fun e w' => ∃ (g' c' : Nat), e = .returned (.slice (some ⟨g', 0, none⟩) 32 c') ∧ Has w' (.slice (some ⟨g', 0, none⟩) 32 c') l ∧ Below w.heap.size w w' := by
  obtain ⟨hl, b, o, rfl, hlt, hc⟩ := h
  obtain ⟨i0, hi, hz0, hz1, hz2⟩ := info_parts info5
  have hn := fun W => Lib.run_eql_slice_nil (P := Try.prog) W 24 5 (some ⟨b, o, none⟩) 32 c 0 0 Try.underlying24
  have hown : (w.alloc (.cells #[] 5)).ownsRow w.heap.size 5 1 (.slice (some ⟨w.heap.size, 0, none⟩) 0 0) 0 [] := World.ownsRow_lit w #[] 0 (Nat.le_refl _) (by unfold maxLen; omega) rfl
  go_enter Try.func30, Try.ntmps30
  go_wp2_with (at_builtin; refine wpList_append_own _ rfl _ _ 24 rfl w.heap.size 5 i0 (.int .u8 0) 1 1 Try.underlying24 hi hz0 hz1 hz2 rfl (by decide) _ _ _ rfl hown ⟨b, o, none⟩ 32 c (bcells l).toList rfl (by simp [bcells_size, hl]) ?c1 ?c2 (by unfold maxLen; omega) (by omega) (by simp) ?_)
  case c1 =>
    intro j v hj
    have hadd : (⟨b, o, none⟩ : Addr).add j = ⟨b, o + j, none⟩ := by unfold Addr.add; split <;> simp_all
    simp only [bcells, List.toList_toArray, List.getElem?_map, Option.map_eq_some_iff] at hj
    obtain ⟨u, hu, rfl⟩ := hj
    rw [hadd, World.cell?_alloc_lt _ _ _ (by simpa using hlt)]
    exact hc j u hu
  case c2 =>
    intro v hv
    simp only [bcells, List.toList_toArray, List.mem_map] at hv
    obtain ⟨u, _, rfl⟩ := hv
    rfl
  intro v' w1 hown1 hgrow _
  clear hn
  obtain ⟨g, cap, cur, rfl, hg, ht⟩ : ∃ (g cap : Nat) (cur : Array Value), v' = .slice (some ⟨g, 0, none⟩) 32 cap ∧ w1.heap[g]? = some (.cells cur 5 (0, 0)) ∧ cur.toList.take (32 * 1) = (bcells l).toList := by
    rcases hown1.2 with ⟨_, h0⟩ | ⟨g, cap, cur, hv, _, hg, _, _, _, ht⟩
    · omega
    · exact ⟨g, cap, cur, hv, hg, ht⟩
  have hh : Has w1 (.slice (some ⟨g, 0, none⟩) 32 cap) l := by
    refine ⟨hl, .inr ⟨g, cap, cur, (0, 0), rfl, hg, fun j u hu => ?_⟩⟩
    have hj : j < 32 := by
      have := (List.getElem?_eq_some_iff.1 hu).1
      omega
    have e : (cur.toList.take (32 * 1))[j]? = some (Value.int .u8 (u.toNat : Int)) := by
      rw [ht]
      simp only [bcells, List.toList_toArray, List.getElem?_map, hu, Option.map_some]
    rw [List.getElem?_take, if_pos (by omega)] at e
    simpa using e
  clear ht hg hown1
  go_wp2_with fail
  go_ret
  exact ⟨_, _, rfl, hh, ((Below.refl _ _).alloc (Nat.le_refl _) _).grown hgrow (by simp) (fun k hk => by simp [Value.ownBlock] at hk; omega)⟩
theorem clone_nil (w : World) : Calls Try.prog 30 #[.slice none 0 0] w fun e w' => e = .returned (.slice none 0 0) ∧ w = w' := by
  have hn := fun W => Lib.run_eql_slice_nil (P := Try.prog) W 24 5 none 0 0 0 0 Try.underlying24
  go_enter Try.func30, Try.ntmps30
  go_wp2
  go_ret
  exact ⟨rfl, rfl⟩
/-- a call that may be -/
def okc (k i : Int) (n : Nat) : Prop := ((k = 1 ∨ k = 4) ∧ 0 ≤ i ∧ i < 32) ∨ (k = 2 ∧ (0 ≤ i ∧ i < 32) ∧ n = 32) ∨ k = 3 ∨ k = 5
theorem is_ok (k i : Int) (A : Option Addr) (n c : Nat) (w : World) (h : okc k i n) :
    Calls Try.prog 15 #[.agg #[.int .i64 k, .int .i64 i, .slice A n c]] w fun e w' => e = .returned (.bool true) ∧ Below w.heap.size w w' := by
  have bel : Below w.heap.size w (w.alloc (.cells #[.int .i64 k, .int .i64 i, .slice A n c] 30)) := (Below.refl _ _).alloc (Nat.le_refl _) _
  rcases h with ⟨h, h0, h1⟩ | ⟨rfl, ⟨h0, h1⟩, rfl⟩ | h
  · rcases h with rfl | rfl
    all_goals
      go_enter Try.func15, Try.ntmps15
      go_wp2_with fail
      refine (isLba_yes i _ h0 h1).mono ?_
      rintro e w1 ⟨rfl, rfl⟩
      go_wp2_with fail
      go_ret
      exact ⟨rfl, bel⟩
  · go_enter Try.func15, Try.ntmps15
    go_wp2_with fail
    refine (isLba_yes i _ h0 h1).mono ?_
    rintro e w1 ⟨rfl, rfl⟩
    go_wp2_with fail
    go_ret
    exact ⟨rfl, bel⟩
  · rcases h with rfl | rfl
    all_goals
      go_enter Try.func15, Try.ntmps15
      go_wp2_with fail
      go_ret
      exact ⟨rfl, bel⟩
theorem nokc {k i : Int} {n : Nat} (h : ¬ okc k i n) : ((k = 1 ∨ k = 4) ∧ (i < 0 ∨ 32 ≤ i)) ∨ (k = 2 ∧ (i < 0 ∨ 32 ≤ i)) ∨ (k = 2 ∧ (0 ≤ i ∧ i < 32) ∧ n ≠ 32) ∨ (k ≠ 1 ∧ k ≠ 2 ∧ k ≠ 3 ∧ k ≠ 4 ∧ k ≠ 5) := by
  unfold okc at h
  omega
theorem is_no (k i : Int) (A : Option Addr) (n c : Nat) (w : World) (h : ¬ okc k i n) :
    Calls Try.prog 15 #[.agg #[.int .i64 k, .int .i64 i, .slice A n c]] w fun e w' => e = .returned (.bool false) ∧ Below w.heap.size w w' := by
  have bel : Below w.heap.size w (w.alloc (.cells #[.int .i64 k, .int .i64 i, .slice A n c] 30)) := (Below.refl _ _).alloc (Nat.le_refl _) _
  rcases nokc h with ⟨hk, hi⟩ | ⟨rfl, hi⟩ | ⟨rfl, ⟨h0, h1⟩, hn⟩ | ⟨k1, k2, k3, k4, k5⟩
  · have H := Lib.hid hi
    clear h hi
    rcases hk with rfl | rfl
    all_goals
      go_enter Try.func15, Try.ntmps15
      go_wp2_with fail
      refine (isLba_no i _ H.out).mono ?_
      rintro e w1 ⟨rfl, rfl⟩
      go_wp2_with fail
      go_ret
      exact ⟨rfl, bel⟩
  · have H := Lib.hid hi
    clear h hi
    go_enter Try.func15, Try.ntmps15
    go_wp2_with fail
    refine (isLba_no i _ H.out).mono ?_
    rintro e w1 ⟨rfl, rfl⟩
    go_wp2_with fail
    go_ret
    exact ⟨rfl, bel⟩
  · have hn' : ((n : Int) == 32) = false := by simp; omega
    clear h hn
    go_enter Try.func15, Try.ntmps15
    go_wp2_with fail
    refine (isLba_yes i _ h0 h1).mono ?_
    rintro e w1 ⟨rfl, rfl⟩
    go_wp2_with fail
    go_ret
    exact ⟨rfl, bel⟩
  · have e1 : (k == 1) = false := by simpa using k1
    have e2 : (k == 2) = false := by simpa using k2
    have e3 : (k == 3) = false := by simpa using k3
    have e4 : (k == 4) = false := by simpa using k4
    have e5 : (k == 5) = false := by simpa using k5
    clear h k1 k2 k3 k4 k5
    go_enter Try.func15, Try.ntmps15
    go_wp2_with fail
    go_ret
    exact ⟨rfl, bel⟩
/-- the model in memory: 32 blocks as they are, 32 as they last -/
def MI (w : World) (g : Nat) (N L : Nat → List UInt8) : Prop :=
  ∃ vs us : List Value, Blk w g 68 (vs ++ us).toArray ∧ vs.length = 32 ∧ us.length = 32 ∧
    (∀ i, i < 32 → ∃ v, vs[i]? = some v ∧ Has w v (N i)) ∧ (∀ i, i < 32 → ∃ v, us[i]? = some v ∧ Has w v (L i))
theorem MI.below {w w' : World} {g : Nat} {N L : Nat → List UInt8} (h : MI w g N L) (hb : Below w.heap.size w w') : MI w' g N L := by
  obtain ⟨vs, us, b, h1, h2, h3, h4⟩ := h
  refine ⟨vs, us, b.below_ hb, h1, h2, fun i hi => ?_, fun i hi => ?_⟩
  · obtain ⟨v, e, hv⟩ := h3 i hi; exact ⟨v, e, hv.below hb⟩
  · obtain ⟨v, e, hv⟩ := h4 i hi; exact ⟨v, e, hv.below hb⟩
theorem MI.drewN {w : World} {g : Nat} {N L : Nat → List UInt8} (h : MI w g N L) (n : Nat) : MI (w.drewN n) g N L := h
theorem MI.lt {w : World} {g : Nat} {N L : Nat → List UInt8} (h : MI w g N L) : g < w.heap.size := by
  obtain ⟨vs, us, b, _⟩ := h; exact b.lt
/-- another old block may have turned, and it is neither the model's nor of bytes -/
theorem MI.only {w w' : World} {g g' t : Nat} {cs : Array Value} {N L : Nat → List UInt8} (h : MI w g N L) (hg : w.grownBy w' (some g')) (hb : Blk w g' t cs) (h5 : t ≠ 5) (h68 : t ≠ 68) : MI w' g N L := by
  obtain ⟨vs, us, b, h1, h2, h3, h4⟩ := h
  refine ⟨vs, us, b.grown hg (fun e => (b.ne_ hb (Ne.symm h68)) (by injection e)), h1, h2, fun i hi => ?_, fun i hi => ?_⟩
  · obtain ⟨v, e, hv⟩ := h3 i hi; exact ⟨v, e, hv.only hg hb h5⟩
  · obtain ⟨v, e, hv⟩ := h4 i hi; exact ⟨v, e, hv.only hg hb h5⟩
theorem new_ok (w : World) : Calls Try.prog 9 #[] w fun e w' => e = .returned (.pointer (some ⟨w.heap.size, 0, none⟩)) ∧ MI w' w.heap.size (fun _ => zeros) (fun _ => zeros) ∧ Below w.heap.size w w' := by
  have hb : Blk (w.alloc (.cells (List.replicate 32 (Value.slice none 0 0) ++ List.replicate 32 (Value.slice none 0 0)).toArray 68)) w.heap.size 68 (List.replicate 32 (Value.slice none 0 0) ++ List.replicate 32 (Value.slice none 0 0)).toArray := Blk.new _ _ _
  have hz : ∀ i, i < 32 → ∃ v, (List.replicate 32 (Value.slice none 0 0))[i]? = some v ∧ Has (w.alloc (.cells (List.replicate 32 (Value.slice none 0 0) ++ List.replicate 32 (Value.slice none 0 0)).toArray 68)) v zeros :=
    fun i hi => ⟨.slice none 0 0, by rw [List.getElem?_replicate, if_pos hi], by simp [zeros], .inl ⟨rfl, rfl⟩⟩
  have hm : MI (w.alloc (.cells (List.replicate 32 (Value.slice none 0 0) ++ List.replicate 32 (Value.slice none 0 0)).toArray 68)) w.heap.size (fun _ => zeros) (fun _ => zeros) :=
    ⟨_, _, hb, by simp, by simp, hz, hz⟩
  have H := Lib.hid hm
  clear hb hz hm
  go_enter Try.func9, Try.ntmps9
  go_wp2_with fail
  go_ret
  exact ⟨rfl, H.out, (Below.refl _ _).alloc (Nat.le_refl _) _⟩
end Go.Proofs.Ytbmpocalapgmjab
