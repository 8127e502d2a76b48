/- The contracts of the numbers' maker, of the reference's, and of the law's own small example. -/
import Derived.Test.YtbmpocalapgmjaaKit
import Derived.BigRegion
namespace Go.Proofs.Ytbmpocalapgmjaa
open Go.RowKit
set_option linter.unusedVariables false

theorem new_ok (b : Int) (w : World) (h0 : 0 ≤ b) (h1 : b < 4294967296) :
    Calls Try.prog 9 #[.int .u64 b] w fun e w' => e = .returned (.tuple #[.pointer (some ⟨w.heap.size, 0, none⟩), .int .i64 0]) ∧ w' = w.alloc (.cells #[.int .u64 b, .int .i64 0] 59) := by
  go_enter Try.func9, Try.ntmps9
  go_wp2
  go_ret2
  exact ⟨rfl, rfl⟩
theorem new_bad (b : Int) (w : World) (h1 : 4294967296 ≤ b) :
    Calls Try.prog 9 #[.int .u64 b] w fun e w' => e = .returned (.tuple #[.pointer none, .int .i64 1]) ∧ w = w' := by
  go_enter Try.func9, Try.ntmps9
  go_wp2
  go_ret2
  exact ⟨rfl, rfl⟩
theorem rnew_ok (b : Int) (w : World) (h0 : 0 ≤ b) (h1 : b < 4294967296) :
    Calls Try.prog 10 #[.int .u64 b] w fun e w' => e = .returned (.tuple #[.pointer (some ⟨w.heap.size, 0, none⟩), .int .i64 0]) ∧ w' = w.alloc (.cells #[.int .u64 b, .int .i64 0] 41) := by
  go_enter Try.func10, Try.ntmps10
  go_wp2
  go_ret2
  exact ⟨rfl, rfl⟩
theorem rnew_bad (b : Int) (w : World) (h1 : 4294967296 ≤ b) :
    Calls Try.prog 10 #[.int .u64 b] w fun e w' => e = .returned (.tuple #[.pointer none, .int .i64 1]) ∧ w = w' := by
  go_enter Try.func10, Try.ntmps10
  go_wp2
  go_ret2
  exact ⟨rfl, rfl⟩

theorem left_ok (g : Nat) (b n : Int) (w : World) (h0 : 0 ≤ n) (h1 : n ≤ 100) (hg : Blk w g 59 #[.int .u64 b, .int .i64 n]) :
    Calls Try.prog 13 #[.pointer (some ⟨g, 0, none⟩)] w fun e w' => e = .returned (.int .i64 (100 - n)) ∧ w = w' := by
  have hc1 : w.cell? ⟨g, 1, none⟩ = some (.int .i64 n) := hg.cell_ 1 rfl
  go_enter Try.func13, Try.ntmps13
  go_wp2
  go_ret
  exact ⟨rfl, rfl⟩
theorem left_nil (w : World) :
    Calls Try.prog 13 #[.pointer none] w fun e w' => e = .returned (.int .i64 0) ∧ w = w' := by
  go_enter Try.func13, Try.ntmps13
  go_wp2
  go_ret
  exact ⟨rfl, rfl⟩

/-- the number's bytes as Go has them: the epoch, the slot, the version -/
def num (b n ep sl : Int) : Value := .agg #[.int .u32 ep, .int .u32 sl, .int .u64 (b * 4294967296 + n)]
def zero3 : Value := .agg #[.int .u32 0, .int .u32 0, .int .u64 0]

theorem next_ok (g : Nat) (b n ep sl : Int) (w : World) (h0 : 0 ≤ n) (h1 : n < 100) (b0 : 0 ≤ b) (b1 : b < 4294967296) (e0 : 0 ≤ ep) (e1 : ep < 4294967296) (s0 : 0 ≤ sl) (s1 : sl ≤ 65535)
    (hg : Blk w g 59 #[.int .u64 b, .int .i64 n]) :
    Calls Try.prog 11 #[.pointer (some ⟨g, 0, none⟩), .int .u32 ep, .int .i64 sl] w fun e w' => e = .returned (.tuple #[.agg #[.int .u32 ep, .int .u32 sl, .int .u64 (b * 4294967296 + (n + 1))], .int .i64 0]) ∧
      w.grownBy w' (some g) ∧ Blk w' g 59 #[.int .u64 b, .int .i64 (n + 1)] := by
  have hc0 : w.cell? ⟨g, 0, none⟩ = some (.int .u64 b) := hg.cell_ 0 rfl
  have hc1 : w.cell? ⟨g, 1, none⟩ = some (.int .i64 n) := hg.cell_ 1 rfl
  have hf1 := hg.frozen 1
  have hlt := hg.lt
  go_enter Try.func11, Try.ntmps11
  go_wp2
  go_region
  go_wp2
  refine bodyPost_ret (v := .tuple #[.agg #[.int .u32 ep, .int .u32 sl, .int .u64 (b * 4294967296 + (n + 1))], .int .i64 0]) (by simp [results, Try.results11, go_sem]) rfl ⟨rfl, only_drew (only_alloc (only_setCell (only_refl _ _) (.inl rfl) _) _), ?_⟩
  exact ((hg.set_to 1 _ rfl).alloc _).drew
theorem next_slot (A : Option Addr) (ep sl : Int) (w : World) (s : sl < 0 ∨ 65535 < sl) :
    Calls Try.prog 11 #[.pointer A, .int .u32 ep, .int .i64 sl] w fun e w' => e = .returned (.tuple #[.agg #[.int .u32 0, .int .u32 0, .int .u64 0], .int .i64 1]) ∧ Below w.heap.size w w' := by
  rcases s with s | s
  · go_enter Try.func11, Try.ntmps11
    go_wp2
    exact bodyPost_ret (v := .tuple #[.agg #[.int .u32 0, .int .u32 0, .int .u64 0], .int .i64 1]) (by simp [results, Try.results11, go_sem]) rfl ⟨rfl, (Below.refl _ _).alloc (Nat.le_refl _) _⟩
  · go_enter Try.func11, Try.ntmps11
    go_wp2
    exact bodyPost_ret (v := .tuple #[.agg #[.int .u32 0, .int .u32 0, .int .u64 0], .int .i64 1]) (by simp [results, Try.results11, go_sem]) rfl ⟨rfl, (Below.refl _ _).alloc (Nat.le_refl _) _⟩
theorem next_none (g : Nat) (b ep sl : Int) (w : World) (s0 : 0 ≤ sl) (s1 : sl ≤ 65535) (hg : Blk w g 59 #[.int .u64 b, .int .i64 100]) :
    Calls Try.prog 11 #[.pointer (some ⟨g, 0, none⟩), .int .u32 ep, .int .i64 sl] w fun e w' => e = .returned (.tuple #[.agg #[.int .u32 0, .int .u32 0, .int .u64 0], .int .i64 6]) ∧ Below w.heap.size w w' := by
  have hc1 : w.cell? ⟨g, 1, none⟩ = some (.int .i64 100) := hg.cell_ 1 rfl
  have hlt := hg.lt
  go_enter Try.func11, Try.ntmps11
  go_wp2
  exact bodyPost_ret (v := .tuple #[.agg #[.int .u32 0, .int .u32 0, .int .u64 0], .int .i64 6]) (by simp [results, Try.results11, go_sem]) rfl ⟨rfl, (Below.refl _ _).alloc (Nat.le_refl _) _⟩
theorem next_nil (ep sl : Int) (w : World) (s0 : 0 ≤ sl) (s1 : sl ≤ 65535) :
    Calls Try.prog 11 #[.pointer none, .int .u32 ep, .int .i64 sl] w fun e w' => e = .returned (.tuple #[.agg #[.int .u32 0, .int .u32 0, .int .u64 0], .int .i64 6]) ∧ Below w.heap.size w w' := by
  go_enter Try.func11, Try.ntmps11
  go_wp2
  exact bodyPost_ret (v := .tuple #[.agg #[.int .u32 0, .int .u32 0, .int .u64 0], .int .i64 6]) (by simp [results, Try.results11, go_sem]) rfl ⟨rfl, (Below.refl _ _).alloc (Nat.le_refl _) _⟩

theorem or_add (b m : Int) (b0 : 0 ≤ b) (b1 : b < 4294967296) (m0 : 0 ≤ m) (m1 : m < 4294967296) : bits .or .u64 (b * 4294967296) m = b * 4294967296 + m := by
  rw [u64_or _ _ (by omega) (by omega) (by omega) (by omega)]
  obtain ⟨b, rfl⟩ := Int.eq_ofNat_of_zero_le b0
  obtain ⟨m, rfl⟩ := Int.eq_ofNat_of_zero_le m0
  have h : ((b : Int) * 4294967296).toNat = b <<< 32 := by rw [Nat.shiftLeft_eq]; omega
  rw [h, Int.toNat_natCast, ← Nat.shiftLeft_add_eq_or_of_lt (by omega), Nat.shiftLeft_eq]
  omega
theorem rnext_ok (g : Nat) (b n ep sl : Int) (w : World) (h0 : 0 ≤ n) (h1 : n < 100) (b0 : 0 ≤ b) (b1 : b < 4294967296) (e0 : 0 ≤ ep) (e1 : ep < 4294967296) (s0 : 0 ≤ sl) (s1 : sl ≤ 65535)
    (hg : Blk w g 41 #[.int .u64 b, .int .i64 n]) :
    Calls Try.prog 12 #[.pointer (some ⟨g, 0, none⟩), .int .u32 ep, .int .i64 sl] w fun e w' => e = .returned (.tuple #[.agg #[.int .u32 ep, .int .u32 sl, .int .u64 (b * 4294967296 + (n + 1))], .int .i64 0]) ∧
      w.grownBy w' (some g) ∧ Blk w' g 41 #[.int .u64 b, .int .i64 (n + 1)] := by
  have hc0 : w.cell? ⟨g, 0, none⟩ = some (.int .u64 b) := hg.cell_ 0 rfl
  have hc1 : w.cell? ⟨g, 1, none⟩ = some (.int .i64 n) := hg.cell_ 1 rfl
  have hf1 := hg.frozen 1
  have hlt := hg.lt
  go_enter Try.func12, Try.ntmps12
  go_wp2
  go_region
  go_wp2
  rw [or_add b (n + 1) b0 b1 (by omega) (by omega)]
  refine bodyPost_ret (v := .tuple #[.agg #[.int .u32 ep, .int .u32 sl, .int .u64 (b * 4294967296 + (n + 1))], .int .i64 0]) (by simp [results, Try.results12, go_sem]) rfl ⟨rfl, only_drew (only_alloc (only_setCell (only_refl _ _) (.inl rfl) _) _), ?_⟩
  exact ((hg.set_to 1 _ rfl).alloc _).drew
theorem rnext_slot (A : Option Addr) (ep sl : Int) (w : World) (s : sl < 0 ∨ 65535 < sl) :
    Calls Try.prog 12 #[.pointer A, .int .u32 ep, .int .i64 sl] w fun e w' => e = .returned (.tuple #[.agg #[.int .u32 0, .int .u32 0, .int .u64 0], .int .i64 1]) ∧ Below w.heap.size w w' := by
  rcases s with s | s
  · go_enter Try.func12, Try.ntmps12
    go_wp2
    exact bodyPost_ret (v := .tuple #[.agg #[.int .u32 0, .int .u32 0, .int .u64 0], .int .i64 1]) (by simp [results, Try.results12, go_sem]) rfl ⟨rfl, (Below.refl _ _).alloc (Nat.le_refl _) _⟩
  · go_enter Try.func12, Try.ntmps12
    go_wp2
    exact bodyPost_ret (v := .tuple #[.agg #[.int .u32 0, .int .u32 0, .int .u64 0], .int .i64 1]) (by simp [results, Try.results12, go_sem]) rfl ⟨rfl, (Below.refl _ _).alloc (Nat.le_refl _) _⟩
theorem rnext_none (g : Nat) (b ep sl : Int) (w : World) (s0 : 0 ≤ sl) (s1 : sl ≤ 65535) (hg : Blk w g 41 #[.int .u64 b, .int .i64 100]) :
    Calls Try.prog 12 #[.pointer (some ⟨g, 0, none⟩), .int .u32 ep, .int .i64 sl] w fun e w' => e = .returned (.tuple #[.agg #[.int .u32 0, .int .u32 0, .int .u64 0], .int .i64 6]) ∧ Below w.heap.size w w' := by
  have hc1 : w.cell? ⟨g, 1, none⟩ = some (.int .i64 100) := hg.cell_ 1 rfl
  have hlt := hg.lt
  go_enter Try.func12, Try.ntmps12
  go_wp2
  exact bodyPost_ret (v := .tuple #[.agg #[.int .u32 0, .int .u32 0, .int .u64 0], .int .i64 6]) (by simp [results, Try.results12, go_sem]) rfl ⟨rfl, (Below.refl _ _).alloc (Nat.le_refl _) _⟩
theorem boot_ok (b n : Int) (x y : Value) (w : World) (h0 : 0 ≤ n) (h1 : n ≤ 100) (b0 : 0 ≤ b) (b1 : b < 4294967296) :
    Calls Try.prog 15 #[.agg #[x, y, .int .u64 (b * 4294967296 + n)]] w fun e w' => e = .returned (.int .u64 b) ∧ Below w.heap.size w w' := by
  have hd : (b * 4294967296 + n) / 4294967296 = b := by omega
  have H := Lib.hid hd; clear hd
  go_enter Try.func15, Try.ntmps15
  go_wp2
  rw [H.out]
  go_ret
  exact ⟨rfl, (Below.refl _ _).alloc (Nat.le_refl _) _⟩
theorem known_ok (w : World) : Calls Try.prog 14 #[] w fun e w' => e = .returned (.bool true) ∧ Below w.heap.size w w' := by
  go_enter Try.func14, Try.ntmps14
  go_wp2_with fail
  refine (new_ok 2 _ (by omega) (by omega)).mono ?_
  rintro e w1 ⟨rfl, rfl⟩
  have hb : Blk (w.alloc (.cells #[.int .u64 2, .int .i64 0] 59)) w.heap.size 59 #[.int .u64 2, .int .i64 0] := Blk.new _ _ _
  go_wp2_with fail
  refine (next_ok w.heap.size 2 0 3 4 _ (by omega) (by omega) (by omega) (by omega) (by omega) (by omega) (by omega) (by omega) hb).mono ?_
  rintro e w2 ⟨rfl, hg2, hb2⟩
  go_wp2_with fail
  refine (left_ok w.heap.size 2 1 _ (by omega) (by omega) (hb2.alloc _)).mono ?_
  rintro e w3 ⟨rfl, rfl⟩
  go_wp2_with fail
  go_ret
  have hs := hg2.size
  simp only [World.size_alloc] at hs
  exact ⟨rfl, (below_only ((Below.refl _ _).alloc (Nat.le_refl _) _) hg2 (by simp) (Nat.le_refl _)).alloc (by omega) _⟩
end Go.Proofs.Ytbmpocalapgmjaa
