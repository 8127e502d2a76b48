/- The contracts of the reference's model, and of Same. -/
import Derived.Test.YtbmpocalapgmjabFlush
namespace Go.Proofs.Ytbmpocalapgmjab
open Go.RowKit
set_option linter.unusedVariables false
/-- bytes as a string -/
def str (l : List UInt8) : ByteArray := ⟨l.toArray⟩
def Str (l : List UInt8) : Value := .string (str l)
def emp : Value := .string ByteArray.empty
/-- the reference's model in memory -/
def RI (w : World) (g : Nat) (N L : Nat → List UInt8) : Prop :=
  Blk w g 44 (((List.range 32).map (fun i => Str (N i)) ++ (List.range 32).map (fun i => Str (L i))).toArray)
theorem conv_made (l : List UInt8) (hl : l.length = 32) (W : World) : (convert 24 9 (.slice (some ⟨W.heap.size, 0, none⟩) 32 32)).run Try.prog (W.alloc (.cells (bcells l) 5)).drew = .ok (Str l) (W.alloc (.cells (bcells l) 5)).drew := by
  have h := run_convert_bytes_back (P := Try.prog) (W.alloc (.cells (bcells l) 5)).drew 24 9 5 ⟨W.heap.size, 0, none⟩ 32 l Try.underlying24 Try.underlying5 Try.underlying9 (fun j hj => by
    have hadd : (⟨W.heap.size, 0, none⟩ : Addr).add j = ⟨W.heap.size, j, none⟩ := by unfold Addr.add; split <;> simp_all
    rw [hadd, World.cell?_drew, World.cell?_alloc_new]
    exact bcells_at l j _ (List.getElem?_eq_getElem hj))
  rw [hl] at h
  exact h
/-- the reference's model while it is being filled: k blocks of noughts, the others empty -/
def fill (k : Nat) : List Value := (List.range 32).map (fun i => if i < k then Str zeros else emp)
theorem fill_succ (k : Nat) (hk : k < 32) : (fill k ++ List.replicate 32 emp).toArray.setIfInBounds k (Str zeros) = (fill (k + 1) ++ List.replicate 32 emp).toArray := by
  rw [List.setIfInBounds_toArray, List.set_append_left _ _ (by simp [fill]; omega)]
  congr 2
  apply List.ext_getElem?
  intro i
  rw [List.getElem?_set]
  by_cases e : k = i
  · subst e
    rw [if_pos rfl, if_pos (by simp [fill]; omega)]
    simp [fill, hk]
  · rw [if_neg e]
    simp only [fill, List.getElem?_map]
    by_cases hi : i < 32
    · simp [hi]
      by_cases c : i < k
      · rw [if_pos c, if_pos (by omega)]
      · rw [if_neg c, if_neg (by omega)]
    · simp [hi]
theorem fill_zero : (fill 0 ++ List.replicate 32 emp) = List.replicate 64 emp := by rfl
theorem info42 : (Try.prog.info? 42).map (·.size) = some 32 := by kernel_rfl
theorem rnew_ok (w : World) : Calls Try.prog 14 #[] w fun e w' => e = .returned (.pointer (some ⟨w.heap.size, 0, none⟩)) ∧ RI w' w.heap.size (fun _ => zeros) (fun _ => zeros) ∧ Below w.heap.size w w' := by
  have hb : Blk (w.alloc (.cells (fill 0 ++ List.replicate 32 emp).toArray 44)) w.heap.size 44 (fill 0 ++ List.replicate 32 emp).toArray := Blk.new _ _ _
  have bel : Below w.heap.size w (w.alloc (.cells (fill 0 ++ List.replicate 32 emp).toArray 44)) := (Below.refl _ _).alloc (Nat.le_refl _) _
  have H := Lib.hid hb; have B := Lib.hid bel
  clear hb bel
  go_enter Try.func14, Try.ntmps14
  go_wp2_with fail
  go_loopw [2] (fun i wr => ∃ k : Nat, k ≤ 32 ∧ i = .int .i64 k ∧ Blk wr w.heap.size 44 (fill k ++ List.replicate 32 emp).toArray ∧ Below w.heap.size w wr) (fun i _ => 32 - (intOf i).toNat)
  case atStart => exact ⟨0, by omega, rfl, H.out, B.out⟩
  case round =>
    obtain ⟨k, hk, rfl, hbk, bel⟩ := hrel
    have hlt := hbk.lt
    by_cases hltk : k < 32
    · have hm := make32
      have hc := conv_made zeros (by simp [zeros])
      have i0 : (0 : Int) ≤ (k : Int) := by omega
      have i1 : (k : Int) < 32 := by omega
      have hck : wr.cell? ⟨w.heap.size, k, none⟩ = some (.string ByteArray.empty) := hbk.cell_ k (by rw [List.getElem?_toArray, List.getElem?_append_left (by simp [fill]; omega)]; simp [fill, hltk, emp])
      have hfk := hbk.frozen k
      have hst : Str zeros = .string (str zeros) := rfl
      have hs := fill_succ k hltk
      have S := Lib.hid hs; clear hs
      go_wp2_with fail
      go_region
      have hb' : Blk (wr.setCell ⟨w.heap.size, k, none⟩ (.string (str zeros))) w.heap.size 44 (fill (k + 1) ++ List.replicate 32 emp).toArray := hbk.set_to k _ S.out
      go_wp2_with fail
      go_roundw
      case rel => exact ⟨k + 1, by omega, by go_num, (hb'.alloc _).drew, ((bel.setCell (by simp) _).alloc (by simp; omega) _).drew⟩
      case measure => simp [intOf]; omega
    · have e : k = 32 := by omega
      subst e
      have hr : wr.rangeAt w.heap.size 0 (fill 32) := range_of hbk (fun j u hj => by rw [Nat.zero_add, List.getElem?_append_left (List.getElem?_eq_some_iff.1 hj).1]; exact hj)
      have ht : wr.there w.heap.size 32 (fill 32).toArray.size := there_of hbk (by simp [fill])
      have hsz : (Try.prog.info? 42).map (·.size) = some (fill 32).length := by rw [info42]; rfl
      have hsz' : (Try.prog.info? 42).map (·.size) = some (fill 32).toArray.size := by rw [List.size_toArray]; exact hsz
      have h1 : (fill 32).toArray.all (·.oneCell') = true := all_oneCell_toArray (by intro v hv; simp [fill, List.mem_map] at hv; obtain ⟨i, _, rfl⟩ := hv; split <;> rfl)
      have hb3 := Blk.setCells (w := wr) (fill 32) (fill 32 ++ List.replicate 32 emp) 32 wr hbk (by simp [fill])
      have e3 : (fill 32 ++ List.replicate 32 emp).take 32 ++ (fill 32 ++ (fill 32 ++ List.replicate 32 emp).drop (32 + (fill 32).length)) = fill 32 ++ fill 32 := by rfl
      rw [e3] at hb3
      have o3 : Below w.heap.size w (wr.setCells w.heap.size 32 (fill 32)) := bel.grown (only_setCells (fill 32) 32 wr (only_refl _ (some w.heap.size))) bel.size (fun k hk => by injection hk; omega)
      have B3 := Lib.hid hb3; have O3 := Lib.hid o3
      clear hb3 o3 hbk e3
      generalize hF : fill 32 = F at hr ht hsz hsz' h1 B3 O3
      have HF := Lib.hid hF; clear hF
      go_wp2_with (first | (with_reducible refine wpList_load_mid rfl 42 _ rfl w.heap.size 0 rfl F _ hr Try.underlying42 rfl hsz ?_) | (with_reducible refine wpList_store_mid rfl 42 _ _ rfl w.heap.size 32 F.toArray rfl rfl ht hsz' h1 ?_; rw [List.toList_toArray]; clear hr ht hsz hsz' h1; generalize wr.setCells w.heap.size 32 F = w3 at B3 O3 ⊢))
      go_ret
      refine ⟨rfl, ?_, O3.out⟩
      have hB := B3.out
      rw [← HF.out] at hB
      exact hB
end Go.Proofs.Ytbmpocalapgmjab
