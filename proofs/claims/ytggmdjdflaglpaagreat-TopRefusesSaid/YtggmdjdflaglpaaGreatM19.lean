/- Either lock as plain functions (no walk). leaf.Put: a leaf as bytes; pieces of bytes, collected. Either lock in memory; what its calls answer, as it is asked above. The tree's sums: a leaf's, two nodes'. -/
import Derived.Test.YtggmdjdflaglpaaGreatM18
import Derived.Test.YtggmdjdflaglpaaGreatM11
import Derived.Test.YtggmdjdflaglpaaGreatM16
namespace Go.Proofs.YtggmdjdflaglpaaGreat
open Go.RowKit
set_option linter.unusedVariables false
inductive Lk where
  | ideal (O : Orc)
  | real
namespace Lk
def shut : Lk → Two → Nce → By → By → By × Two
  | .ideal O, _, _, _, _ => (oout (O.iss.length + 1), (kSeal, (O.iss.length : Int) + 1))
  | .real, key, n, head, data => gseal key n head data
def shutd : Lk → Two → Nce → By → By → Lk
  | .ideal O, key, n, head, data => .ideal (oseal O key n head data)
  | .real, _, _, _, _ => .real
def opens : Lk → Two → Nce → By → By → Two → Option By
  | .ideal O, key, n, head, b, tag => oopen O.iss key n head b tag
  | .real, key, n, head, b, tag => gopen key n head b tag
def sum : Lk → By → Two
  | .ideal O, s => (kSum, (O.sums.idxOf s : Int) + 1)
  | .real, s => dsum s
def summed : Lk → By → Lk
  | .ideal O, s => .ideal (osum O s)
  | .real, _ => .real
def lim (k : Nat) : Lk → Prop
  | .ideal O => O.iss.length ≤ k ∧ O.sums.length ≤ k
  | .real => True
end Lk
theorem sumsOf_len (L : List By) (s : By) : (sumsOf L s).length ≤ L.length + 1 := by
  unfold sumsOf
  split <;> simp
theorem Lk.lim_shutd {L : Lk} {k : Nat} (h : L.lim k) (key : Two) (n : Nce) (head data : By) : (L.shutd key n head data).lim (k + 1) := by
  cases L with
  | ideal O => obtain ⟨h1, h2⟩ := h; exact ⟨by simp [oseal]; omega, by simp [oseal]; omega⟩
  | real => trivial
theorem Lk.lim_summed {L : Lk} {k : Nat} (h : L.lim k) (s : By) : (L.summed s).lim (k + 1) := by
  cases L with
  | ideal O => obtain ⟨h1, h2⟩ := h; have := sumsOf_len O.sums s; exact ⟨by simp [osum]; omega, by simp [osum]; omega⟩
  | real => trivial
theorem Lk.lim_mono {L : Lk} {k j : Nat} (h : L.lim k) (hj : k ≤ j) : L.lim j := by
  cases L with
  | ideal O => exact ⟨by have := h.1; omega, by have := h.2; omega⟩
  | real => trivial
theorem Lk.sum_u {L : Lk} {k : Nat} (h : L.lim k) (hk : k ≤ 1000000) (s : By) : U2 (L.sum s) := by
  cases L with
  | ideal O =>
    have := List.idxOf_le_length (a := s) (l := O.sums)
    have h2 := h.2
    exact ⟨by show U64 kSum; unfold U64 kSum; decide, ⟨by simp only [Lk.sum]; omega, by simp only [Lk.sum]; omega⟩⟩
  | real =>
    show U2 (dsum s)
    unfold dsum
    generalize (List.range ((dfill s).length / 16)) = R
    have : ∀ (R : List Nat) (st : Two), U2 st → U2 (R.foldl (fun st j => dstepS st (pairOf (((dfill s).drop (16 * j)).take 16))) st) := by
      intro R
      induction R with
      | nil => exact fun st h => h
      | cons a R ih => exact fun st h => ih _ (dstepS_u _ _)
    exact this R _ (by unfold U2 U64; decide)
theorem Lk.shut_u {L : Lk} {k : Nat} (h : L.lim k) (hk : k ≤ 1000000) (key : Two) (n : Nce) (head data : By) : U2 (L.shut key n head data).2 := by
  cases L with
  | ideal O =>
    have h1 := h.1
    exact ⟨by show U64 kSeal; unfold U64 kSeal; decide, ⟨by simp only [Lk.shut]; omega, by simp only [Lk.shut]; omega⟩⟩
  | real => exact fadd_u _ _
theorem Lk.shut_len (L : Lk) (key : Two) (n : Nce) (head data : By) (hd : data.length = 32) : (L.shut key n head data).1.length = 32 := by
  cases L with
  | ideal O => exact oout_len _
  | real => simp [Lk.shut, gseal, fxor, fbytes_len, hd]
end Go.Proofs.YtggmdjdflaglpaaGreat
namespace Go.Proofs.YtggmdjdflaglpaaGreat
open Go.RowKit
set_option linter.unusedVariables false
/-- slices of bytes that the call has made or was told -/
def Acc (w : World) (L : List (Value × By)) : Prop := ∀ x ∈ L, Has w x.1 x.2
theorem Acc.nil (w : World) : Acc w [] := fun x hx => by simp at hx
theorem Acc.below_ {w w' : World} {L : List (Value × By)} (h : Acc w L) (hb : Below w.heap.size w w') : Acc w' L := fun x hx => (h x hx).below_ hb
theorem Acc.add {w : World} {L : List (Value × By)} {v : Value} {l : By} (h : Acc w L) (hv : Has w v l) : Acc w (L ++ [(v, l)]) := fun x hx => by
  rcases List.mem_append.1 hx with hx | hx
  · exact h x hx
  · rw [List.mem_singleton.1 hx]; exact hv
theorem Acc.alloc {w : World} {L : List (Value × By)} (h : Acc w L) (o : Obj) : Acc (w.alloc o) L := h.below_ ((Below.refl _ w).alloc (Nat.le_refl _) o)
theorem Acc.rows {w : World} {L : List (Value × By)} {g t : Nat} {cs : Array Value} (h : Acc w L) (hB : Blk w g t cs) (hcs : cs = (L.map (·.1)).toArray) (hne : ∀ x ∈ L, x.2 ≠ []) (hl : L.length ≤ 1000) :
    Rows w (.slice (some ⟨g, 0, none⟩) L.length L.length) (L.map (·.2)) := by
  refine ⟨g, 0, L.length, by simp, hB.lt, by simpa using hl, fun j l hj => ?_⟩
  rw [List.getElem?_map] at hj
  obtain ⟨x, hx, rfl⟩ := Option.map_eq_some_iff.1 hj
  have hm := List.mem_of_getElem? hx
  refine ⟨hne x hm, x.1, ?_, h x hm⟩
  rw [Nat.zero_add]
  exact hB.cell_ j (by rw [hcs, List.getElem?_toArray, List.getElem?_map, hx]; rfl)
theorem putB_ne (v : Int) (n : Nat) (h : 0 < n) : putB v n ≠ [] := fun e => by have := putB_len v n; rw [e] at this; simp at this; omega
theorem pairB_ne (a b : Int) : pairB a b ≠ [] := fun e => by have := pairB_len a b; rw [e] at this; simp at this
theorem put1_ok (v : Int) (w : World) (h0 : 0 ≤ v) (h1 : v < 18446744073709551616) :
    Calls Tryz.prog 87 #[.int .u64 v, .int .i64 1] w fun e w' => ∃ v', e = .returned v' ∧ OwnB w.heap.size w' v' (putB v 1) ∧ Below w.heap.size w w' := put_lit v 1 1 rfl w (by omega) h0 h1
theorem put2_ok (v : Int) (w : World) (h0 : 0 ≤ v) (h1 : v < 18446744073709551616) :
    Calls Tryz.prog 87 #[.int .u64 v, .int .i64 2] w fun e w' => ∃ v', e = .returned v' ∧ OwnB w.heap.size w' v' (putB v 2) ∧ Below w.heap.size w w' := put_lit v 2 2 rfl w (by omega) h0 h1
theorem put4_ok (v : Int) (w : World) (h0 : 0 ≤ v) (h1 : v < 18446744073709551616) :
    Calls Tryz.prog 87 #[.int .u64 v, .int .i64 4] w fun e w' => ∃ v', e = .returned v' ∧ OwnB w.heap.size w' v' (putB v 4) ∧ Below w.heap.size w w' := put_lit v 4 4 rfl w (by omega) h0 h1
theorem put8_ok (v : Int) (w : World) (h0 : 0 ≤ v) (h1 : v < 18446744073709551616) :
    Calls Tryz.prog 87 #[.int .u64 v, .int .i64 8] w fun e w' => ∃ v', e = .returned v' ∧ OwnB w.heap.size w' v' (putB v 8) ∧ Below w.heap.size w w' := put_lit v 8 8 rfl w (by omega) h0 h1
def bi (b : Bool) : Int := if b then 1 else 0
def leafB (l : Lf) : By := putB l.kind 1 ++ (putB (bi l.dirty) 1 ++ (putB l.lba 2 ++ (putB l.n.ep 4 ++ (putB l.n.ver 8 ++ pairB l.tag.1 l.tag.2))))
theorem leafB_len (l : Lf) : (leafB l).length = 32 := by simp [leafB, putB_len, pairB_len]
theorem Lf.ok.bd {l : Lf} {i : Nat} (h : l.ok i) : l.kind ≤ 2 ∧ l.lba < 32 ∧ l.n.ok ∧ U2 l.tag := by
  rcases h with rfl | ⟨k, hk, rfl⟩ | h
  · exact ⟨by decide, by decide, ⟨by decide, by decide, by unfold U64; decide⟩, by unfold U2 U64; decide⟩
  · exact ⟨by simp [Lf.zero], hk, ⟨by simp [Lf.zero], by simp [Lf.zero], by simp [Lf.zero, U64]⟩, by simp [Lf.zero, U2, U64]⟩
  · exact ⟨by omega, h.2.1, h.2.2.2.2.1, h.2.2.2.2.2⟩
set_option maxHeartbeats 4000000 in
set_option maxRecDepth 100000 in
theorem lput_ok (l : Lf) (i : Nat) (hi : i < 16) (h : l.ok i) (w : World) :
    Calls Tryz.prog 142 #[lfv l, .int .i64 i] w fun e w' => ∃ v, e = .returned (.tuple #[v, .bool true]) ∧ OwnB w.heap.size w' v (leafB l) ∧ Below w.heap.size w w' := by
  have his := fun W => lis_ok l i hi h W
  obtain ⟨hk, hl, ⟨he, hs, hv⟩, ht1, ht2⟩ := h.bd
  clear h
  have hfin : leafB l = ([putB l.kind 1, putB (bi l.dirty) 1, putB l.lba 2, putB l.n.ep 4, putB l.n.ver 8, pairB l.tag.1 l.tag.2] : List By).flatten := by simp [leafB]
  obtain ⟨R, hR⟩ : ∃ R, R = leafB l := ⟨_, rfl⟩
  rw [← hR] at hfin ⊢
  clear hR
  obtain ⟨kind, dirty, lba, ⟨ep, sl, ver⟩, ta, tb⟩ := l
  simp only at hk hl he hs hv ht1 ht2 hfin
  unfold lfv lfc at his ⊢
  simp only at his ⊢
  obtain ⟨e0, e1⟩ := he
  obtain ⟨v0, v1⟩ := hv
  obtain ⟨a0, a1⟩ := ht1
  obtain ⟨b0, b1⟩ := ht2
  have k0 : (0 : Int) ≤ (kind : Int) := by omega
  have k1 : (kind : Int) ≤ 2 := by omega
  have l0 : (0 : Int) ≤ (lba : Int) := by omega
  have l1 : (lba : Int) < 32 := by omega
  have HF := Lib.hid hfin
  clear hfin
  have hB : Blk (w.alloc (.cells #[.int .i64 kind, .bool dirty, .int .i64 lba, .int .u32 ep, .int .u32 sl, .int .u64 ver, .int .u64 ta, .int .u64 tb] 103)) w.heap.size 103 _ := Blk.new w 103 _
  have hbw : Below w.heap.size w (w.alloc (.cells #[.int .i64 kind, .bool dirty, .int .i64 lba, .int .u32 ep, .int .u32 sl, .int .u64 ver, .int .u64 ta, .int .u64 tb] 103)) := (Below.refl _ _).alloc (Nat.le_refl _) _
  obtain ⟨W, hW⟩ : ∃ W, W = w.alloc (.cells #[.int .i64 kind, .bool dirty, .int .i64 lba, .int .u32 ep, .int .u32 sl, .int .u64 ver, .int .u64 ta, .int .u64 tb] 103) := ⟨_, rfl⟩
  rw [← hW] at hB hbw
  have hr := hB.range (cs := [.int .i64 kind, .bool dirty, .int .i64 lba, .int .u32 ep, .int .u32 sl, .int .u64 ver, .int .u64 ta, .int .u64 tb])
  go_enter Tryz.func142, Tryz.ntmps142
  go_wp2_with fail
  rw [← hW]
  clear hW hr
  refine (his _).mono ?_
  rintro e w1 ⟨rfl, hb1⟩
  replace hB := hB.below_ hb1
  replace hbw := hbw.trans (hb1.mono hbw.size)
  clear his hb1
  have c1 := hB.cell_ 1 rfl
  have lB := hB.lt
  have hA := Acc.nil w1
  have wk := IntWalk.u64_in (kind : Int) ⟨by omega, by omega⟩
  have wl := IntWalk.u64_in (lba : Int) ⟨by omega, by omega⟩
  have we := IntWalk.u64_in ep ⟨by omega, by omega⟩
  cases dirty
  all_goals
    go_wp2_with fail
    clear c1
    replace hB := hB.drew
    replace hbw := hbw.drew
    replace hA : Acc w1.drew [] := hA
    go_region_held3 (fun w' => w'.cell? ⟨w.heap.size, 0, none⟩ = some (.int .i64 kind) ∧ w'.cell? ⟨w.heap.size, 2, none⟩ = some (.int .i64 lba) ∧ w'.cell? ⟨w.heap.size, 3, none⟩ = some (.int .u32 ep) ∧ w'.cell? ⟨w.heap.size, 5, none⟩ = some (.int .u64 ver) ∧ w'.cell? ⟨w.heap.size, 6, none⟩ = some (.int .u64 ta) ∧ w'.cell? ⟨w.heap.size, 7, none⟩ = some (.int .u64 tb))
      (first | exact ⟨hB.cell_ 0 rfl, hB.cell_ 2 rfl, hB.cell_ 3 rfl, hB.cell_ 5 rfl, hB.cell_ 6 rfl, hB.cell_ 7 rfl⟩ | exact ⟨(hB.alloc _).cell_ 0 rfl, (hB.alloc _).cell_ 2 rfl, (hB.alloc _).cell_ 3 rfl, (hB.alloc _).cell_ 5 rfl, (hB.alloc _).cell_ 6 rfl, (hB.alloc _).cell_ 7 rfl⟩)
      (first
        | (go_at_call 87; first
            | ((with_reducible refine (put1_ok _ _ (by omega) (by omega)).mono ?_); rintro e w2 ⟨v2, rfl, o2, q2⟩; obtain ⟨A2, z2, rfl⟩ := o2.has.slice; replace hB := hB.below_ q2; replace hA := (hA.below_ q2).add o2.has.any; replace hbw := hbw.trans (q2.mono hbw.size); clear o2 q2)
            | ((with_reducible refine (put2_ok _ _ (by omega) (by omega)).mono ?_); rintro e w2 ⟨v2, rfl, o2, q2⟩; obtain ⟨A2, z2, rfl⟩ := o2.has.slice; replace hB := hB.below_ q2; replace hA := (hA.below_ q2).add o2.has.any; replace hbw := hbw.trans (q2.mono hbw.size); clear o2 q2)
            | ((with_reducible refine (put4_ok _ _ (by omega) (by omega)).mono ?_); rintro e w2 ⟨v2, rfl, o2, q2⟩; obtain ⟨A2, z2, rfl⟩ := o2.has.slice; replace hB := hB.below_ q2; replace hA := (hA.below_ q2).add o2.has.any; replace hbw := hbw.trans (q2.mono hbw.size); clear o2 q2)
            | ((with_reducible refine (put8_ok _ _ (by omega) (by omega)).mono ?_); rintro e w2 ⟨v2, rfl, o2, q2⟩; obtain ⟨A2, z2, rfl⟩ := o2.has.slice; replace hB := hB.below_ q2; replace hA := (hA.below_ q2).add o2.has.any; replace hbw := hbw.trans (q2.mono hbw.size); clear o2 q2))
        | (go_at_call 124; (refine (bytes_ok _ _ _ (by omega) (by omega) (by omega) (by omega)).mono ?_); rintro e w2 ⟨v2, rfl, o2, q2⟩; obtain ⟨A2, z2, rfl⟩ := o2.has.slice; replace hB := hB.below_ q2; replace hA := (hA.below_ q2).add o2.has.any; replace hbw := hbw.trans (q2.mono hbw.size); clear o2 q2)
        | (go_at_call 86; (refine (concat_ok _ _ _ (Acc.rows (hA.alloc _) (Blk.new w2 32 _) rfl (by simp [putB_ne, pairB_ne]) (by simp)) (by simp [total, putB_len, pairB_len])).mono ?_); rintro e w3 ⟨v3, rfl, o3, q3⟩; replace o3 := o3.weak (B' := w.heap.size) (by have := hbw.size; simp; omega); replace hB := (hB.alloc _).below_ q3; replace hbw := (hbw.alloc hbw.size _).trans (q3.mono (by have := hbw.size; simp; omega))))
    have hr : OwnB w.heap.size w3 v3 R := by rw [HF.out]; exact o3
    clear o3 q3 hA hB HF
    go_wp2_with fail
    go_ret2
    exact ⟨_, rfl, hr, hbw⟩
end Go.Proofs.YtggmdjdflaglpaaGreat
namespace Go.Proofs.YtggmdjdflaglpaaGreat
open Go.RowKit
set_option linter.unusedVariables false
def rcells : Array Value := #[.func (.func 51) #[] #[], .func (.func 52) #[] #[], .func (.func 53) #[] #[], .func (.func 54) #[.pointer none] #[], .func (.func 55) #[.pointer none] #[]]
def LkR (ρ : Rl) (w : World) (l : Nat) : Lk → Prop
  | .ideal O => ∃ o, LckR ρ w l o O
  | .real => Blk w l 130 rcells ∧ ρ l = rLck
theorem LkR.keep {ρ ρ' : Rl} {w w' : World} {l : Nat} {L : Lk} (h : LkR ρ w l L) (hs : w.heap.size ≤ w'.heap.size) (hk : ∀ b, b < w.heap.size → rsLck (ρ b) → w'.heap[b]? = w.heap[b]? ∧ ρ' b = ρ b) : LkR ρ' w' l L := by
  cases L with
  | ideal O => obtain ⟨o, h⟩ := h; exact ⟨o, h.keep hs hk⟩
  | real =>
    obtain ⟨h1, h2⟩ := h
    have := hk l h1.lt (.inl h2)
    exact ⟨this.1.trans h1, this.2.trans h2⟩
theorem LkR.lt {ρ : Rl} {w : World} {l : Nat} {L : Lk} (h : LkR ρ w l L) : l < w.heap.size := by
  cases L with
  | ideal O => obtain ⟨o, h⟩ := h; exact h.1.lt
  | real => exact h.1.lt
theorem LkR.role {ρ : Rl} {w : World} {l : Nat} {L : Lk} (h : LkR ρ w l L) : ρ l = rLck := by
  cases L with
  | ideal O => obtain ⟨o, h⟩ := h; exact h.2.1
  | real => exact h.2
theorem LkR.below_ {ρ : Rl} {w w' : World} {l : Nat} {L : Lk} (h : LkR ρ w l L) (hb : Below w.heap.size w w') : LkR ρ w' l L := h.keep hb.size (fun b hx _ => ⟨hb.block b hx, rfl⟩)
def SumOk : Prop := ∀ (ρ : Rl) (l : Nat) (L : Lk) (v : Value) (Ls : List By) (w : World), Fresh ρ w → LkR ρ w l L → Rows w v Ls → total Ls ≤ 1000 → L.lim 900000 →
  Calls Tryz.prog 168 #[.pointer (some ⟨l, 0, none⟩), v] w fun e w' => e = .returned (pv (L.sum Ls.flatten)) ∧ LkR ρ w' l (L.summed Ls.flatten) ∧ Ste rtOrc ρ w ρ w'
def OpenOk : Prop := ∀ (ρ : Rl) (p q : Nat → Prop) (l : Nat) (L : Lk) (key : Two) (n : Nce) (vh : Value) (head : By) (vb : Value) (b : By) (tag : Two) (w : World), LkR ρ w l L → U2 key → n.ok → U2 tag → HasP p w vh head → HasP q w vb b → head.length ≤ 4000 → b.length ≤ 4000 →
  Calls Tryz.prog 137 #[.pointer (some ⟨l, 0, none⟩), pv key, nv n, vh, .agg #[vb, .int .u64 tag.1, .int .u64 tag.2]] w fun e w' =>
    ∃ v, e = .returned (.tuple #[v, .bool (L.opens key n head b tag).isSome]) ∧ OwnB w.heap.size w' v ((L.opens key n head b tag).getD []) ∧ Below w.heap.size w w'
def ShutOk : Prop := ∀ (ρ : Rl) (p q : Nat → Prop) (l : Nat) (L : Lk) (key : Two) (n : Nce) (vh : Value) (head : By) (vd : Value) (data : By) (w : World), Fresh ρ w → LkR ρ w l L → U2 key → n.ok → HasP p w vh head → HasP q w vd data → head.length ≤ 4000 → data.length = 32 → L.lim 900000 →
  Calls Tryz.prog 156 #[.pointer (some ⟨l, 0, none⟩), pv key, nv n, vh, vd] w fun e w' =>
    ∃ v, e = .returned (.tuple #[.agg #[v, .int .u64 (L.shut key n head data).2.1, .int .u64 (L.shut key n head data).2.2], .bool true]) ∧
      ∃ ρ', HasP (fun b => w.heap.size ≤ b ∧ ρ' b = 0) w' v (L.shut key n head data).1 ∧ LkR ρ' w' l (L.shutd key n head data) ∧ Ste rtOrc ρ w ρ' w'
/-- a leaf's sum, two nodes' sum: what is summed -/
def leafS (b : By) : By := 0 :: b
def nodeS (a b : Two) : By := 1 :: (pairB a.1 a.2 ++ pairB b.1 b.2)
theorem Rows.nil_of {w : World} : True := trivial
end Go.Proofs.YtggmdjdflaglpaaGreat
namespace Go.Proofs.YtggmdjdflaglpaaGreat
open Go.RowKit
set_option linter.unusedVariables false
theorem has_one (w : World) (c : UInt8) : Has (w.alloc (.cells #[.int .u8 (c.toNat : Int)] 5)) (.slice (some ⟨w.heap.size, 0, none⟩) 1 1) [c] :=
  .inr ⟨w.heap.size, 0, 1, rfl, trivial, by simp, by simp, by unfold maxLen; omega, fun j u hj => by
    rw [World.cell?_alloc_new, Nat.zero_add]
    cases j with
    | zero => simp at hj; subst hj; rfl
    | succ j => simp at hj⟩
/-- a Pair that the call returns out of a cell of its own, behind a step of the lock -/
theorem ste_back {T : Nat → Prop} {ρ : Rl} {w W w1 w2 : World} {g : Nat} (hb : Below w.heap.size w W) (hs : Ste T ρ W ρ w1) (hg : w1.grownBy w2 (some g)) (hl : w.heap.size ≤ g) : Ste T ρ w ρ w2 := by
  have hch : Ch (fun i => T (ρ i)) w w2 := ((Ch.of_below hb).trans hs.ch).then_only hg hl
  exact ⟨hch, fun _ _ => rfl, fun i hi => hs.fresh i (Nat.le_trans hg.size hi)⟩
theorem lk_back {ρ : Rl} {w1 w2 : World} {g l : Nat} {L : Lk} (h : LkR ρ w1 l L) (hg : w1.grownBy w2 (some g)) (h0 : ρ g = 0) : LkR ρ w2 l L :=
  h.keep hg.size (fun b hb e => ⟨hg.block b hb (fun c => by injection c with c; rw [c, h0] at e; unfold rsLck rsOrc at e; revert e; decide), rfl⟩)
set_option maxHeartbeats 4000000 in
set_option maxRecDepth 100000 in
theorem tleaf_ok (HS : SumOk) (ρ : Rl) (p : Nat → Prop) (l : Nat) (L : Lk) (v : Value) (leaf : By) (w : World) (hf : Fresh ρ w) (h : LkR ρ w l L) (hv : HasP p w v leaf) (hne : leaf ≠ []) (hl : leaf.length ≤ 900) (hlim : L.lim 900000) :
    Calls Tryz.prog 139 #[.pointer (some ⟨l, 0, none⟩), v] w fun e w' => e = .returned (pv (L.sum (leafS leaf))) ∧ LkR ρ w' l (L.summed (leafS leaf)) ∧ Ste rtOrc ρ w ρ w' := by
  obtain ⟨A, cap, rfl⟩ := hv.slice
  obtain ⟨n, hn⟩ : ∃ n, n = leaf.length := ⟨_, rfl⟩
  rw [← hn] at hv ⊢
  obtain ⟨W, hW⟩ : ∃ W, W = ((w.alloc (.cells #[.int .u64 0, .int .u64 0] 101)).alloc (.cells #[.int .u8 0] 5)).alloc (.cells #[.slice (some ⟨w.heap.size + 1, 0, none⟩) 1 1, .slice A n cap] 32) := ⟨_, rfl⟩
  have hbw : Below w.heap.size w W := by rw [hW]; exact (((Below.refl _ _).alloc (Nat.le_refl _) _).alloc (by simp) _).alloc (by simp; omega) _
  have hB : Blk W w.heap.size 101 #[.int .u64 0, .int .u64 0] := by rw [hW]; exact ((Blk.new w 101 _).alloc _).alloc _
  have hR : Rows W (.slice (some ⟨w.heap.size + 1 + 1, 0, none⟩) 2 2) [[0], leaf] := by
    have hA : Acc W [(.slice (some ⟨w.heap.size + 1, 0, none⟩) 1 1, [0]), (.slice A n cap, leaf)] := by
      intro x hx
      simp at hx
      rcases hx with rfl | rfl
      · rw [hW]
        have := has_one (w.alloc (.cells #[.int .u64 0, .int .u64 0] 101)) 0
        rw [World.size_alloc] at this
        exact this.alloc _
      · exact hv.any.below_ hbw
    have hb2 : Blk W (w.heap.size + 1 + 1) 32 #[.slice (some ⟨w.heap.size + 1, 0, none⟩) 1 1, .slice A n cap] := by
      rw [hW]
      have := Blk.new ((w.alloc (.cells #[.int .u64 0, .int .u64 0] 101)).alloc (.cells #[.int .u8 0] 5)) 32 #[.slice (some ⟨w.heap.size + 1, 0, none⟩) 1 1, .slice A n cap]
      rw [World.size_alloc, World.size_alloc] at this
      exact this
    exact Acc.rows hA hb2 rfl (by simp [hne]) (by simp)
  have hc := HS ρ l L _ _ W (fun i hi => hf i (Nat.le_trans hbw.size hi)) (h.below_ hbw) hR (by simp [total]; omega) hlim
  have hfl : ([[0], leaf] : List By).flatten = leafS leaf := by simp [leafS]
  rw [hfl] at hc
  obtain ⟨s, hs⟩ : ∃ s, s = leafS leaf := ⟨_, rfl⟩
  rw [← hs] at hc ⊢
  obtain ⟨ta, hta⟩ : ∃ t, t = L.sum s := ⟨_, rfl⟩
  rw [← hta] at hc ⊢
  unfold pv at hc ⊢
  obtain ⟨ta, tb⟩ := ta
  simp only at hc ⊢
  have h0 : ρ w.heap.size = 0 := hf _ (Nat.le_refl _)
  have HK := Lib.hid (And.intro hbw (And.intro hB h0))
  clear hfl hs hta hR hbw hB hv hn
  subst hW
  go_enter Tryz.func139, Tryz.ntmps139
  go_wp2_with fail
  refine hc.mono ?_
  rintro e w1 ⟨rfl, h1, s1⟩
  obtain ⟨hbw, hB, h0⟩ := HK.out
  have hB1 : Blk w1 w.heap.size 101 #[.int .u64 0, .int .u64 0] := hB.ch s1.ch (by rw [h0]; unfold rtOrc; decide)
  have f0 := hB1.frozen 0
  have f1 := hB1.frozen 1
  have b0 := hB1.cell_ 0 rfl
  have b1 := hB1.cell_ 1 rfl
  have lb := hB1.lt
  have HB1 := Lib.hid hB1
  have HO := Lib.hid (And.intro h1 (And.intro s1 hbw))
  clear hB1 h1 s1 hbw hc hB
  go_wp2_with fail
  have bR := (HB1.out.set_to 0 (.int .u64 ta) (cs' := #[.int .u64 ta, .int .u64 0]) rfl).set_to 1 (.int .u64 tb) (cs' := [.int .u64 ta, .int .u64 tb].toArray) rfl
  have g2 := only_set2 w1 w.heap.size 0 1 (.int .u64 ta) (.int .u64 tb)
  obtain ⟨h1, s1, hbw⟩ := HO.out
  exact ret_cell 4 101 (by rfl) w.heap.size 0 (by rfl) _ _ bR.range Tryz.underlying101 rfl sz101 rfl ⟨rfl, lk_back h1 g2 h0, ste_back hbw s1 g2 (Nat.le_refl _)⟩
end Go.Proofs.YtggmdjdflaglpaaGreat
