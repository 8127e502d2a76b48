/- The reference's Slots, and Same, by contract. -/
import Derived.Test.YtbmpocalapgmjacIRef
namespace Go.Proofs.Ytbmpocalapgmjac.index
open Go.RowKit
set_option linter.unusedVariables false
theorem rowS_len (S : Nat → Int) (s k : Nat) : (rowS S s k).length ≤ k := by
  unfold rowS
  rw [List.length_map]
  have := List.length_filter_le (fun i => decide (S i = (s : Int) + 1)) (List.range k)
  rwa [List.length_range] at this
theorem slk_len (S : Nat → Int) (k : Nat) : ∀ m : Nat, (slk S k m).length ≤ m * k
  | 0 => by simp [slk]
  | m + 1 => by
    rw [slk_succ, List.length_append]
    have := slk_len S k m
    have := rowS_len S m k
    rw [Nat.succ_mul]
    omega
theorem info3 : (Try.prog.info? 3).map (fun i => (i.zero, i.size, i.bytes)) = some (some (.int .i64 0), 1, 8) := by kernel_rfl
/-- a slice of these integers that lies in blocks from B on -/
def Own (w : World) (B : Nat) (v : Value) (L : List Int) : Prop := w.ownsRow B 3 1 v L.length (L.map encZ)
theorem own_block_ge {w : World} {B n : Nat} {e : TypeId} {v : Value} {xs : List Value} (h : w.ownsRow B e 1 v n xs) {j : Nat} (hj : v.ownBlock = some j) : B ≤ j := by
  rcases h.2 with ⟨rfl, _⟩ | ⟨r, c, cur, rfl, h1, _⟩
  · simp [Value.ownBlock] at hj
  · simp [Value.ownBlock] at hj
    omega
set_option maxHeartbeats 2000000 in
theorem rslots_ok (q : Nat) (S : Nat → Int) (w : World) (h : RI w q S) :
    Calls Try.prog 29 #[.pointer (some ⟨q, 0, none⟩)] w fun e w' => ∃ v, e = .returned v ∧ Own w' w.heap.size v (sl S) ∧ Below w.heap.size w w' := by
  obtain ⟨i0, hi, hz0, hz1, hz2⟩ := info_parts info3
  have hstart : Own w w.heap.size (.slice none 0 0) [] := ⟨rfl, .inl ⟨rfl, rfl⟩⟩
  have HS := Lib.hid hstart
  have hq := h.1.lt
  have H := Lib.hid h
  clear hstart h
  go_enter Try.func29, Try.ntmps29
  go_wp2_with fail
  go_loopw [3, 4, 5] (fun o s _ wr => ∃ m : Nat, s = .int .i64 m ∧ m ≤ 16 ∧ Own wr w.heap.size o (slk S 32 m) ∧ Below w.heap.size w wr) (fun _ s _ _ => 16 - (intOf s).toNat)
  case atStart => exact ⟨0, rfl, by omega, HS.out, Below.refl _ _⟩
  case round =>
    obtain ⟨m, rfl, hm, hO, hb⟩ := hrel
    by_cases hlt : m < 16
    · have m0 : (0 : Int) ≤ (m : Int) := by omega
      have m1 : (m : Int) < 16 := by omega
      go_wp2_with fail
      go_loopw [3, 5] (fun o i wr => ∃ (k : Nat) (V : Value), V = o ∧ i = .int .i64 k ∧ k ≤ 32 ∧ Own wr w.heap.size V (slk S 32 m ++ rowS S m k) ∧ Below w.heap.size w wr) (fun _ i _ => 32 - (intOf i).toNat)
      case atStart => exact ⟨0, _, rfl, rfl, by omega, by simpa [rowS] using hO, hb⟩
      case round =>
        obtain ⟨k, V, rfl, rfl, hk, hO2, hb2⟩ := hrel
        clear hO hb
        by_cases hlk : k < 32
        · have k0 : (0 : Int) ≤ (k : Int) := by omega
          have k1 : (k : Int) < 32 := by omega
          have hw : wr.cell? ⟨q, k, none⟩ = some (.int .i64 (S k)) := (H.out.1.below_ hb2).cell_ k (tab_get S hlk)
          have hfw := (H.out.1.below_ hb2).frozen k
          have hqw := (H.out.1.below_ hb2).lt
          have hr := rowS_succ S m k
          have hbs := hb2.size
          obtain ⟨v, hv⟩ : ∃ v, v = S k := ⟨_, rfl⟩
          rw [← hv] at hw hr
          clear hv
          by_cases he : v = (m : Int) + 1
          · have t1 : (v == (m : Int) + 1) = true := by simpa using he
            rw [if_pos he] at hr
            have hln : (slk S 32 m ++ rowS S m k).length ≤ 1000 := by
              have := slk_len S 32 m
              have := rowS_len S m k
              rw [List.length_append]
              omega
            obtain ⟨L, hL⟩ : ∃ L, L = slk S 32 m ++ rowS S m k := ⟨_, rfl⟩
            have hL2 : slk S 32 m ++ rowS S m (k + 1) = L ++ [(m : Int)] := by rw [hL, hr, List.append_assoc]
            rw [← hL] at hO2 hln
            have HL := Lib.hid hL2
            clear he hr hL hL2
            have hown : (wr.alloc (.cells #[.int .i64 m] 3)).ownsRow w.heap.size 3 1 V L.length (L.map encZ) := World.ownsRow.alloc hO2 _
            go_wp2_with (at_builtin; refine wpList_append_own _ rfl _ _ 26 rfl w.heap.size 3 i0 (.int .i64 0) 1 8 Try.underlying26 hi hz0 hz1 hz2 rfl (by decide) _ _ _ rfl hown ⟨wr.heap.size, 0, none⟩ 1 1 [.int .i64 m] rfl (by simp) (cell_one_new _ _ _) (fun v hv => by rw [List.mem_singleton.1 hv]; rfl) (by unfold maxLen; omega) (by omega) (by simp; omega) ?_; intro v' w1 hown1 hgrow hnil; go_frame)
            have hbf : Below w.heap.size w w1 := by
              refine (hb2.alloc hb2.size _).grown hgrow (by simp; omega) ?_
              intro j hj
              exact own_block_ge hown hj
            have hO3 : Own w1 w.heap.size v' (slk S 32 m ++ rowS S m (k + 1)) := by
              unfold Own
              rw [HL.out, List.length_append, List.length_singleton, List.map_append]
              exact hown1
            go_roundw
            case rel => exact ⟨k + 1, _, rfl, by go_num, by omega, hO3, hbf⟩
            case measure => simp [intOf]; omega
          · have t1 : (v == (m : Int) + 1) = false := by simpa using he
            rw [if_neg he, List.append_nil] at hr
            have hO3 : Own wr w.heap.size V (slk S 32 m ++ rowS S m (k + 1)) := by rw [hr]; exact hO2
            clear he hr
            go_wp2_with fail
            go_roundw
            case rel => exact ⟨k + 1, _, rfl, by go_num, by omega, hO3, hb2⟩
            case measure => simp [intOf]; omega
        · obtain rfl : k = 32 := by omega
          rw [← slk_succ] at hO2
          go_wp2_with fail
          go_roundw
          case rel => exact ⟨m + 1, by go_num, by omega, hO2, hb2⟩
          case measure => simp [intOf]; omega
    · obtain rfl : m = 16 := by omega
      go_wp2_with fail
      go_ret
      exact ⟨_, rfl, hO, hb⟩
end Go.Proofs.Ytbmpocalapgmjac.index
