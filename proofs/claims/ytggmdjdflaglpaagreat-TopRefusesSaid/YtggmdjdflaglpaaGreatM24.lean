/- Reads of the two devices, and of the power, said of the world; the lock's Open. Either lock: what is sealed is opened, and stays so; what was summed stays so (no walk). commit.Do: what its plain function does to sizes, the lock, the power (no walk). The lock: Seal by the ideal sealer; the ideal lock's calls as they are asked above. -/
import Derived.Test.YtggmdjdflaglpaaGreatM22
import Derived.Test.YtggmdjdflaglpaaGreatM09
import Derived.Test.YtggmdjdflaglpaaGreatM23
import Derived.Test.YtggmdjdflaglpaaGreatM19
namespace Go.Proofs.YtggmdjdflaglpaaGreat
open Go.RowKit Go.Proofs.YtggmdjdflaglpaaGreat.geo
set_option linter.unusedVariables false
section
variable (ρ : Rl) (a : Ads) (W : Wld) (w : World)
theorem won_ok (h : WldR ρ w a W) : Calls Tryz.prog 35 #[.pointer (some ⟨a.p, 0, none⟩)] w fun e w' => e = .returned (.bool (!W.pow.gone)) ∧ w = w' := on_ok a.p W.pow w h.2.2.1
/-- so many bytes of the device, as they are read -/
def Wld.sbytes (W : Wld) (off n : Nat) : By := ((snap W.ssd).drop off).take n
theorem wsread_on (off n : Nat) (h : WldR ρ w a W) (hn : 0 < n) (hl : off + n ≤ W.ssd.lasts.length) (hc : W.ssd.cnt ≤ 1000000) (hg : W.pow.gone = false) :
    Calls Tryz.prog 96 #[.pointer (some ⟨a.s, 0, none⟩), .int .i64 off, .int .i64 n] w fun e w' => ∃ v, e = .returned (.tuple #[v, .bool true]) ∧ HasP (w.heap.size ≤ ·) w' v (W.sbytes off n) ∧ Below w.heap.size w w' :=
  read_on ρ a.p a.s W.pow W.ssd off n w h.2.2.1 h.2.2.2.2.1 hn hl hc hg
theorem wsread_off (off n : Nat) (h : WldR ρ w a W) (hl : off + n ≤ W.ssd.lasts.length) (hg : W.pow.gone = true) :
    Calls Tryz.prog 96 #[.pointer (some ⟨a.s, 0, none⟩), .int .i64 off, .int .i64 n] w fun e w' => e = .returned (.tuple #[.slice none 0 0, .bool false]) ∧ w = w' :=
  read_off ρ a.p a.s W.pow W.ssd off n w h.2.2.1 h.2.2.2.2.1 hl hg
theorem wdread_on (k : Nat) (h : WldR ρ w a W) (k1 : k < 32) (hg : W.pow.gone = false) (hc : W.dsk.cnt ≤ 1000000) :
    Calls Tryz.prog 115 #[.pointer (some ⟨a.d, 0, none⟩), .int .i64 k] w fun e w' => ∃ v, e = .returned (.tuple #[v, .bool true]) ∧ OwnB w.heap.size w' v (dread W.dsk k) ∧ (dread W.dsk k).length = 32 ∧ Below w.heap.size w w' :=
  dread_on ρ a.p a.d W.pow W.dsk k w h.2.2.1 h.2.2.2.2.2.1 k1 hg hc
theorem wdread_off (k : Nat) (h : WldR ρ w a W) (k1 : k < 32) (hg : W.pow.gone = true) :
    Calls Tryz.prog 115 #[.pointer (some ⟨a.d, 0, none⟩), .int .i64 k] w fun e w' => e = .returned (.tuple #[.slice none 0 0, .bool false]) ∧ w = w' :=
  dread_off ρ a.p a.d W.pow W.dsk k w h.2.2.1 h.2.2.2.2.2.1 (by omega) (by omega) hg
theorem wopen_ok (HO : OpenOk) (p q : Nat → Prop) (key : Two) (n : Nce) (vh : Value) (head : By) (vb : Value) (b : By) (tag : Two) (h : WldR ρ w a W) (hk : U2 key) (hn : n.ok) (ht : U2 tag) (hh : HasP p w vh head) (hb : HasP q w vb b) (h1 : head.length ≤ 4000) (h2 : b.length ≤ 4000) :
    Calls Tryz.prog 137 #[.pointer (some ⟨a.l, 0, none⟩), pv key, nv n, vh, .agg #[vb, .int .u64 tag.1, .int .u64 tag.2]] w fun e w' =>
      ∃ v, e = .returned (.tuple #[v, .bool (W.lk.opens key n head b tag).isSome]) ∧ OwnB w.heap.size w' v ((W.lk.opens key n head b tag).getD []) ∧ Below w.heap.size w w' :=
  HO ρ p q a.l W.lk key n vh head vb b tag w h.2.2.2.2.2.2.2.2.2 hk hn ht hh hb h1 h2
end
theorem lideal_lk (w : World) (ρ : Rl) (hf : Fresh ρ w) : Calls Tryz.prog 29 #[] w fun e w' => e = .returned (.pointer (some ⟨w.heap.size + 2, 0, none⟩)) ∧ LkR (((ρ.set w.heap.size rSum).set (w.heap.size + 1) rOrc).set (w.heap.size + 2) rLck) w' (w.heap.size + 2) (.ideal ⟨[], [], 0⟩) ∧ w'.heap.size = w.heap.size + 3 ∧ Below w.heap.size w w' := by
  refine (lideal_ok w).mono ?_
  rintro e w1 ⟨rfl, h1, h2, h3⟩
  exact ⟨rfl, ⟨w.heap.size + 1, h1 ρ⟩, h2, h3⟩
end Go.Proofs.YtggmdjdflaglpaaGreat
namespace Go.Proofs.YtggmdjdflaglpaaGreat
open Go.RowKit Go.Proofs.YtggmdjdflaglpaaGreat.geo
set_option linter.unusedVariables false
theorem spend_no {P : Pow} (h : (spend P).2 = false) : (spend P).1.gone = true := by
  unfold spend at h ⊢
  by_cases h1 : P.gone = true
  · rw [if_pos h1]; exact h1
  · rw [if_neg h1] at h ⊢
    by_cases h2 : (P.fuse && P.left == 0) = true
    · rw [if_pos h2]
    · rw [if_neg h2] at h; simp at h
theorem spend_yes {P : Pow} (h : (spend P).2 = true) : (spend P).1.gone = false ∧ P.gone = false := by
  unfold spend at h ⊢
  by_cases h1 : P.gone = true
  · rw [if_pos h1] at h; simp at h
  · rw [if_neg h1] at h ⊢
    by_cases h2 : (P.fuse && P.left == 0) = true
    · rw [if_pos h2] at h; simp at h
    · rw [if_neg h2]; simp only [Bool.not_eq_true] at h1; exact ⟨h1, h1⟩
theorem spend_off {P : Pow} (h : P.gone = true) : (spend P).1.gone = true ∧ (spend P).2 = false := by
  unfold spend; rw [if_pos h]; exact ⟨h, rfl⟩
/-- the numbers are the places; all that was sealed is 32 bytes -/
def Lk.good : Lk → Prop
  | .ideal O => ∀ (i : Nat) (x : Iss), O.iss[i]? = some x → x.num = (i : Int) + 1 ∧ x.data.length = 32
  | .real => True
def Lk.le : Lk → Lk → Prop
  | .ideal O, .ideal O' => (∃ I, O'.iss = O.iss ++ I) ∧ ∃ S, O'.sums = O.sums ++ S
  | .real, .real => True
  | _, _ => False
theorem Lk.le_refl (L : Lk) : L.le L := by
  cases L with
  | ideal O => exact ⟨⟨[], by simp⟩, [], by simp⟩
  | real => trivial
theorem Lk.le_trans {L M N : Lk} (h : L.le M) (k : M.le N) : L.le N := by
  cases L <;> cases M <;> cases N <;> first | trivial | exact h.elim | exact k.elim | skip
  obtain ⟨⟨I, h1⟩, S, h2⟩ := h
  obtain ⟨⟨J, k1⟩, T, k2⟩ := k
  exact ⟨⟨I ++ J, by rw [k1, h1, List.append_assoc]⟩, S ++ T, by rw [k2, h2, List.append_assoc]⟩
theorem Lk.le_shutd (L : Lk) (key : Two) (n : Nce) (head data : By) : L.le (L.shutd key n head data) := by
  cases L with
  | ideal O => exact ⟨⟨_, rfl⟩, [], by simp [oseal]⟩
  | real => trivial
theorem Lk.le_summed (L : Lk) (s : By) : L.le (L.summed s) := by
  cases L with
  | ideal O =>
    refine ⟨⟨[], by simp [osum]⟩, ?_⟩
    show ∃ S, sumsOf O.sums s = O.sums ++ S
    unfold sumsOf
    split
    · exact ⟨[], by simp⟩
    · exact ⟨_, rfl⟩
  | real => trivial
theorem Lk.good_shutd {L : Lk} (h : L.good) (key : Two) (n : Nce) (head data : By) (hd : data.length = 32) : (L.shutd key n head data).good := by
  cases L with
  | ideal O =>
    intro i x hx
    have hx : (O.iss ++ [iseal O key n head data])[i]? = some x := hx
    by_cases hi : i < O.iss.length
    · rw [List.getElem?_append_left hi] at hx
      exact h i x hx
    · rw [List.getElem?_append_right (by omega)] at hx
      have hz : i - O.iss.length = 0 := by
        have := (List.getElem?_eq_some_iff.1 hx).1
        rw [List.length_singleton] at this
        omega
      rw [hz] at hx
      simp at hx
      subst hx
      exact ⟨by show (O.iss.length : Int) + 1 = _; omega, hd⟩
  | real => trivial
theorem Lk.good_summed {L : Lk} (h : L.good) (s : By) : (L.summed s).good := by
  cases L with
  | ideal O => exact h
  | real => trivial
theorem Lk.opens_len {L : Lk} (h : L.good) {key : Two} {n : Nce} {head b : By} {tag : Two} {d : By} (hb : b.length = 32) (ho : L.opens key n head b tag = some d) : d.length = 32 := by
  cases L with
  | ideal O =>
    have ho : (O.iss.find? (isIss key n head b tag)).map (·.data) = some d := ho
    rw [Option.map_eq_some_iff] at ho
    obtain ⟨x, hx, rfl⟩ := ho
    obtain ⟨i, hi⟩ := List.getElem?_of_mem (List.mem_of_find?_eq_some hx)
    exact (h i x hi).2
  | real =>
    have ho : gopen key n head b tag = some d := ho
    unfold gopen at ho
    split at ho
    · injection ho with ho
      rw [← ho]
      simp [fxor, fbytes_len, hb]
    · cases ho
theorem Lk.opens_le {L L' : Lk} (h : L.le L') {key : Two} {n : Nce} {head b : By} {tag : Two} {d : By} (ho : L.opens key n head b tag = some d) : L'.opens key n head b tag = some d := by
  cases L <;> cases L' <;> first | exact h.elim | exact ho | skip
  rename_i O O'
  obtain ⟨⟨I, h1⟩, _⟩ := h
  have ho : (O.iss.find? (isIss key n head b tag)).map (·.data) = some d := ho
  rw [Option.map_eq_some_iff] at ho
  obtain ⟨x, hx, hd⟩ := ho
  show (O'.iss.find? (isIss key n head b tag)).map (·.data) = some d
  rw [h1, List.find?_append, hx]
  simpa using hd
theorem xor_back (x y : UInt8) : (x ^^^ y) ^^^ y = x := by
  rw [UInt8.xor_assoc, UInt8.xor_self, UInt8.xor_zero]
theorem fxor_back : ∀ (a k : By), a.length ≤ k.length → fxor (fxor a k) k = a
  | [], k, _ => by simp [fxor]
  | a :: l, [], h => by simp at h
  | a :: l, k :: ks, h => by
    have ih := fxor_back l ks (by simpa using h)
    unfold fxor at ih ⊢
    rw [List.zipWith_cons_cons, List.zipWith_cons_cons, ih, xor_back]
theorem Lk.opens_shut {L : Lk} (h : L.good) (key : Two) (n : Nce) (head data : By) (hd : data.length = 32) :
    (L.shutd key n head data).opens key n head (L.shut key n head data).1 (L.shut key n head data).2 = some data := by
  cases L with
  | ideal O =>
    show ((O.iss ++ [iseal O key n head data]).find? (isIss key n head (oout (O.iss.length + 1)) (kSeal, (O.iss.length : Int) + 1))).map (·.data) = some data
    have hno : O.iss.find? (isIss key n head (oout (O.iss.length + 1)) (kSeal, (O.iss.length : Int) + 1)) = none := by
      rw [List.find?_eq_none]
      intro x hx c
      obtain ⟨i, hi⟩ := List.getElem?_of_mem hx
      have h1 := (h i x hi).1
      have h2 := (List.getElem?_eq_some_iff.1 hi).1
      unfold isIss at c
      simp only [Bool.and_eq_true, decide_eq_true_eq] at c
      have h3 := c.1.1.2
      injection h3 with _ h3
      omega
    rw [List.find?_append, hno]
    have hy : isIss key n head (oout (O.iss.length + 1)) (kSeal, (O.iss.length : Int) + 1) (iseal O key n head data) = true := by
      simp [isIss, iseal]
    simp [hy]
    rfl
  | real =>
    show gopen key n head (gseal key n head data).1 (gseal key n head data).2 = some data
    unfold gopen gseal
    simp only [if_true]
    have hl : (fxor data (fbytes (fsub key n) data.length)).length = data.length := by simp [fxor, fbytes_len]
    rw [hl, fxor_back _ _ (by rw [fbytes_len]; omega)]
theorem lfL_le (L : Lk) (R : List By) : ∀ i, L.le (lfL L R i)
  | 0 => Lk.le_refl _
  | i + 1 => Lk.le_trans (lfL_le L R i) (Lk.le_summed _ _)
theorem nd2_le (L : Lk) (R : List By) : ∀ j, L.le (nd2 L R j).1
  | 0 => lfL_le _ _ _
  | j + 1 => Lk.le_trans (nd2_le L R j) (Lk.le_summed _ _)
theorem lfL_good {L : Lk} (h : L.good) (R : List By) : ∀ i, (lfL L R i).good
  | 0 => h
  | i + 1 => Lk.good_summed (lfL_good h R i) _
theorem nd2_good {L : Lk} (h : L.good) (R : List By) : ∀ j, (nd2 L R j).1.good
  | 0 => lfL_good h _ _
  | j + 1 => Lk.good_summed (nd2_good h R j) _
theorem bldL_le (L : Lk) (R : List By) : L.le (bldL L R) := nd2_le _ _ _
theorem bldL_good {L : Lk} (h : L.good) (R : List By) : (bldL L R).good := nd2_good h _ _
end Go.Proofs.YtggmdjdflaglpaaGreat
namespace Go.Proofs.YtggmdjdflaglpaaGreat
open Go.RowKit Go.Proofs.YtggmdjdflaglpaaGreat.geo
set_option linter.unusedVariables false
theorem swr_same (W : Wld) (o : Int) (b : By) : (W.swr o b).slots = W.slots ∧ (W.swr o b).kys = W.kys ∧ (W.swr o b).dsk = W.dsk ∧ (W.swr o b).cnt = W.cnt ∧ (W.swr o b).lk = W.lk ∧ (W.swr o b).pow = (spend W.pow).1 := ⟨rfl, rfl, rfl, rfl, rfl, rfl⟩
theorem spend_keep {P : Pow} (h : P.gone = true) : (spend P).1.gone = true := (spend_off h).1
/-- what awr leaves as it was -/
theorem awr_lk (W : Wld) (k : Nat) (ls : List Lf) : (awr W k ls).2.2.lk = bldL W.lk (ls.map leafB) := by
  unfold awr
  split
  · split <;> rfl
  · rfl
theorem awr_err (W : Wld) (k : Nat) (ls : List Lf) : ((awr W k ls).2.1 = 0 ∧ (awr W k ls).2.2 = aw3 W k ls ∧ (awr W k ls).1 = bldN W.lk (ls.map leafB) 1 ∧ (awr W k ls).2.2.pow.gone = false ∧ (spend W.pow).2 = true ∧ (spend (aw2 W k ls).pow).2 = true) ∨ ((awr W k ls).2.1 = 7 ∧ (awr W k ls).2.2.pow.gone = true) := by
  unfold awr
  split
  · rename_i h1
    split
    · rename_i h2
      exact .inl ⟨rfl, rfl, rfl, (spend_yes h2).1, h1, h2⟩
    · rename_i h2
      exact .inr ⟨rfl, spend_no (P := (aw2 W k ls).pow) (Bool.eq_false_iff.2 h2)⟩
  · rename_i h1
    exact .inr ⟨rfl, spend_no (P := W.pow) (Bool.eq_false_iff.2 h1)⟩
theorem awr_gone {W : Wld} (h : W.pow.gone = true) (k : Nat) (ls : List Lf) : (awr W k ls).2.2.pow.gone = true := by
  unfold awr
  rw [if_neg (by rw [(spend_off h).2]; simp)]
  exact spend_keep h
theorem lgput_same (W : Wld) (M : Mk) (c : Nat) (t : Two) : (lgput W M c t).2.1.slots = W.slots ∧ (lgput W M c t).2.1.kys = W.kys ∧ (lgput W M c t).2.1.dsk = W.dsk ∧ (lgput W M c t).2.1.cnt = W.cnt ∧ W.lk.le (lgput W M c t).2.1.lk ∧ (W.lk.good → (lgput W M c t).2.1.lk.good) := by
  unfold lgput
  split
  · exact ⟨rfl, rfl, rfl, rfl, Lk.le_refl _, id⟩
  · exact ⟨rfl, rfl, rfl, rfl, Lk.le_shutd _ _ _ _ _, fun h => Lk.good_shutd h _ _ _ _ (rootB_len _ _ _ _)⟩
theorem lgput_err (W : Wld) (M : Mk) (c : Nat) (t : Two) : (M.n = 100 ∧ lgput W M c t = (6, W, M)) ∨ (M.n ≠ 100 ∧ (lgput W M c t).1 = 0 ∧ (lgput W M c t).2.2 = M.up ∧ (lgput W M c t).2.1 = (rlck W M c t).swr (roff W c) (rrec W M c t) ∧ (spend W.pow).2 = true ∧ (lgput W M c t).2.1.pow.gone = false) ∨ (M.n ≠ 100 ∧ (lgput W M c t).1 = 7 ∧ (lgput W M c t).2.2 = M.up ∧ (lgput W M c t).2.1.pow.gone = true) := by
  unfold lgput
  by_cases h : M.n = 100
  · rw [if_pos h]; exact .inl ⟨h, rfl⟩
  · rw [if_neg h]
    refine .inr ?_
    cases hs : (spend W.pow).2 with
    | true => exact .inl ⟨h, rfl, rfl, rfl, rfl, (spend_yes hs).1⟩
    | false => exact .inr ⟨h, rfl, rfl, spend_no hs⟩
theorem lgput_gone {W : Wld} (h : W.pow.gone = true) (M : Mk) (c : Nat) (t : Two) : (lgput W M c t).2.1.pow.gone = true := by
  unfold lgput
  split
  · exact h
  · exact spend_keep h
theorem mod2_lt (n : Nat) : n % 2 < 2 := Nat.mod_lt _ (by decide)
section
variable (W : Wld) (M : Mk) (ls : List Lf)
def cA : Two × Int × Wld := awr W ((W.cnt.value + 1) % 2) ls
def cG : Int × Wld × Mk := lgput (cA W ls).2.2.sbar M (W.cnt.value + 1) (cA W ls).1
/-- commit.Do, part by part -/
theorem cmt_eq : cmt W M ls = if (cA W ls).2.1 ≠ 0 then ((cA W ls).2.1, (cA W ls).2.2, M) else if (spend (cA W ls).2.2.pow).2 = false then (7, (cA W ls).2.2.sbar, M)
  else if (cG W M ls).1 ≠ 0 then cG W M ls else if (spend (cG W M ls).2.1.pow).2 = false then (7, (cG W M ls).2.1.sbar, (cG W M ls).2.2)
  else ((if (spend (cG W M ls).2.1.sbar.pow).2 then 0 else 7), (cG W M ls).2.1.sbar.bmp, (cG W M ls).2.2) := rfl
theorem cmt_same : (cmt W M ls).2.1.slots = W.slots ∧ (cmt W M ls).2.1.kys = W.kys ∧ (cmt W M ls).2.1.dsk = W.dsk ∧ W.lk.le (cmt W M ls).2.1.lk ∧ (W.lk.good → (cmt W M ls).2.1.lk.good) := by
  have h1 := awr_slots W ((W.cnt.value + 1) % 2) ls
  have h2 := awr_lk W ((W.cnt.value + 1) % 2) ls
  have h3 := lgput_same (cA W ls).2.2.sbar M (W.cnt.value + 1) (cA W ls).1
  have a1 : W.lk.le (cA W ls).2.2.lk := by unfold cA; rw [h2]; exact bldL_le _ _
  have a2 : W.lk.good → (cA W ls).2.2.lk.good := fun h => by unfold cA; rw [h2]; exact bldL_good h _
  have b1 : (cG W M ls).2.1.slots = W.slots := h3.1.trans h1.1
  have b2 : (cG W M ls).2.1.kys = W.kys := h3.2.1.trans h1.2.2.1
  have b3 : (cG W M ls).2.1.dsk = W.dsk := h3.2.2.1.trans h1.2.2.2
  have b4 : W.lk.le (cG W M ls).2.1.lk := Lk.le_trans a1 h3.2.2.2.2.1
  have b5 : W.lk.good → (cG W M ls).2.1.lk.good := fun h => h3.2.2.2.2.2 (a2 h)
  rw [cmt_eq]
  split
  · exact ⟨h1.1, h1.2.2.1, h1.2.2.2, a1, a2⟩
  · split
    · exact ⟨h1.1, h1.2.2.1, h1.2.2.2, a1, a2⟩
    · split
      · exact ⟨b1, b2, b3, b4, b5⟩
      · split
        · exact ⟨b1, b2, b3, b4, b5⟩
        · exact ⟨b1, b2, b3, b4, b5⟩
theorem cmt_fit {k : Nat} (h : W.fit k) (hk : k ≤ 900000) (hn : ls.length = W.slots) : (cmt W M ls).2.1.fit (k + 50) := by
  have f1 : (cA W ls).2.2.fit (k + 40) := awr_fit h (mod2_lt _) hn
  have f2 := f1.sbar
  have f3 : (cG W M ls).2.1.fit (k + 45) := lgput_fit f2 (by omega)
  have f4 := f3.sbar
  have f5 := f4.bmp
  rw [cmt_eq]
  split
  · exact f1.mono (by omega)
  · split
    · exact f2.mono (by omega)
    · split
      · exact f3.mono (by omega)
      · split
        · exact f4.mono (by omega)
        · exact f5.mono (by omega)
theorem cmt_mk : (cmt W M ls).2.2 = M ∨ (M.n ≠ 100 ∧ (cmt W M ls).2.2 = M.up) := by
  have hg : (cG W M ls).2.2 = M ∨ (M.n ≠ 100 ∧ (cG W M ls).2.2 = M.up) := by
    rcases lgput_err (cA W ls).2.2.sbar M (W.cnt.value + 1) (cA W ls).1 with ⟨_, h⟩ | ⟨h1, _, h, _⟩ | ⟨h1, _, h, _⟩
    · left; unfold cG; rw [h]
    · exact .inr ⟨h1, h⟩
    · exact .inr ⟨h1, h⟩
  rw [cmt_eq]
  split
  · exact .inl rfl
  · split
    · exact .inl rfl
    · split
      · exact hg
      · split
        · exact hg
        · exact hg
theorem cmt_gone (h : W.pow.gone = true) : (cmt W M ls).2.1.pow.gone = true := by
  have a1 : (cA W ls).2.2.pow.gone = true := awr_gone h _ _
  have a2 : (cA W ls).2.2.sbar.pow.gone = true := spend_keep a1
  have a3 : (cG W M ls).2.1.pow.gone = true := lgput_gone a2 _ _ _
  have a4 : (cG W M ls).2.1.sbar.pow.gone = true := spend_keep a3
  have a5 : (cG W M ls).2.1.sbar.bmp.pow.gone = true := spend_keep a4
  rw [cmt_eq]
  split
  · exact a1
  · split
    · exact a2
    · split
      · exact a3
      · split
        · exact a4
        · exact a5
/-- how it ends: well, with no number left, or without power -/
theorem cmt_err : ((cmt W M ls).1 = 0 ∧ (cmt W M ls).2.1.pow.gone = false ∧ M.n ≠ 100 ∧ (cmt W M ls).2.2 = M.up ∧ cmt W M ls = (0, (cG W M ls).2.1.sbar.bmp, (cG W M ls).2.2) ∧ (spend (cA W ls).2.2.pow).2 = true ∧ (spend (cG W M ls).2.1.pow).2 = true ∧ (spend (cG W M ls).2.1.sbar.pow).2 = true ∧ (cA W ls).2.1 = 0 ∧ (cG W M ls).1 = 0) ∨
    ((cmt W M ls).1 = 6 ∧ (cmt W M ls).2.1.pow.gone = false ∧ M.n = 100 ∧ (cmt W M ls).2.2 = M ∧ cmt W M ls = (6, (cA W ls).2.2.sbar, M) ∧ (spend (cA W ls).2.2.pow).2 = true ∧ (cA W ls).2.1 = 0) ∨ ((cmt W M ls).1 = 7 ∧ (cmt W M ls).2.1.pow.gone = true) := by
  rw [cmt_eq]
  rcases awr_err W ((W.cnt.value + 1) % 2) ls with ⟨e1, e2, e3, e4, _⟩ | ⟨e1, e2⟩
  · rw [if_neg (by show ¬ (cA W ls).2.1 ≠ 0; unfold cA; rw [e1]; simp)]
    cases hs : (spend (cA W ls).2.2.pow).2 with
    | false => rw [if_pos rfl]; exact .inr (.inr ⟨rfl, spend_no hs⟩)
    | true =>
      rw [if_neg (by simp)]
      rcases lgput_err (cA W ls).2.2.sbar M (W.cnt.value + 1) (cA W ls).1 with ⟨h0, h⟩ | ⟨h1, h2, h, h3, _, h4⟩ | ⟨h1, h2, h, h3⟩
      · have h' : cG W M ls = (6, (cA W ls).2.2.sbar, M) := h
        rw [h', if_pos (by simp)]
        exact .inr (.inl ⟨rfl, (spend_yes hs).1, h0, rfl, rfl, rfl, e1⟩)
      · have h2' : (cG W M ls).1 = 0 := h2
        rw [if_neg (by rw [h2']; simp)]
        cases hs2 : (spend (cG W M ls).2.1.pow).2 with
        | false => rw [if_pos rfl]; exact .inr (.inr ⟨rfl, spend_no hs2⟩)
        | true =>
          rw [if_neg (by simp)]
          cases hs3 : (spend (cG W M ls).2.1.sbar.pow).2 with
          | false => exact .inr (.inr ⟨rfl, spend_no hs3⟩)
          | true => exact .inl ⟨rfl, (spend_yes hs3).1, h1, h, rfl, rfl, rfl, rfl, e1, h2'⟩
      · have h2' : (cG W M ls).1 = 7 := h2
        rw [if_pos (by rw [h2']; simp)]
        exact .inr (.inr ⟨h2', h3⟩)
  · rw [if_pos (by show (cA W ls).2.1 ≠ 0; unfold cA; rw [e1]; simp)]
    exact .inr (.inr ⟨e1, e2⟩)
end
end Go.Proofs.YtggmdjdflaglpaaGreat
namespace Go.Proofs.YtggmdjdflaglpaaGreat
open Go.RowKit
set_option linter.unusedVariables false
theorem lcells0 (o : Nat) : (lcells o)[0]? = some (.func (.func 57) #[.pointer (some ⟨o, 0, none⟩)] #[]) := rfl
set_option maxHeartbeats 4000000 in
set_option maxRecDepth 100000 in
theorem lshut_ok (ρ : Rl) (p q : Nat → Prop) (l o : Nat) (O : Orc) (key : Two) (n : Nce) (vh : Value) (head : By) (vd : Value) (data : By) (w : World) (hf : Fresh ρ w) (h : LckR ρ w l o O) (hk : U2 key) (hn : n.ok)
    (hh : HasP p w vh head) (hd : HasP q w vd data) (hl : head.length ≤ 4000) (hl32 : data.length = 32) (hc : O.iss.length < 1000000) :
    Calls Tryz.prog 156 #[.pointer (some ⟨l, 0, none⟩), pv key, nv n, vh, vd] w fun e w' =>
      ∃ v, e = .returned (.tuple #[.agg #[v, .int .u64 kSeal, .int .u64 ((O.iss.length : Int) + 1)], .bool true]) ∧
        ∃ ρ', HasP (fun b => w.heap.size ≤ b ∧ ρ' b = 0) w' v (oout (O.iss.length + 1)) ∧ LckR ρ' w' l o (oseal O key n head data) ∧ Ste rtOrc ρ w ρ' w' := by
  have hcall := fun W h1 h2 h3 h4 => oseal_ok ρ p q o O key n vh head vd data W h1 h2 hk hn h3 h4 hl hl32 hc
  obtain ⟨Ah, ch, rfl⟩ := hh.slice
  obtain ⟨Ad, cd, rfl⟩ := hd.slice
  rw [hl32] at hcall hd ⊢
  clear hl32
  unfold pv nv kSeal at hcall ⊢
  obtain ⟨ka, kb⟩ := key
  obtain ⟨ne, ns, nr⟩ := n
  simp only at hcall ⊢
  obtain ⟨m, hm⟩ : ∃ m, m = O.iss.length := ⟨_, rfl⟩
  rw [← hm] at hcall ⊢
  obtain ⟨W, hW⟩ : ∃ W, W = ((w.alloc (.cells #[.int .u64 ka, .int .u64 kb] 101)).alloc (.cells #[.int .u32 ne, .int .u32 ns, .int .u64 nr] 99)).alloc (.cells #[.slice none 0 0, .int .u64 0, .int .u64 0] 157) := ⟨_, rfl⟩
  have hbw : Below w.heap.size w W := by rw [hW]; exact (((Below.refl _ _).alloc (Nat.le_refl _) _).alloc (by simp) _).alloc (by simp; omega) _
  have hB0 : Blk W w.heap.size 101 #[.int .u64 ka, .int .u64 kb] := by rw [hW]; exact ((Blk.new w 101 _).alloc _).alloc _
  have hB1 : Blk W (w.heap.size + 1) 99 #[.int .u32 ne, .int .u32 ns, .int .u64 nr] := by
    rw [hW]
    have := Blk.new (w.alloc (.cells #[.int .u64 ka, .int .u64 kb] 101)) 99 #[.int .u32 ne, .int .u32 ns, .int .u64 nr]
    rw [World.size_alloc] at this
    exact this.alloc _
  have hB2 : Blk W (w.heap.size + 1 + 1) 157 #[.slice none 0 0, .int .u64 0, .int .u64 0] := by
    rw [hW]
    have := Blk.new ((w.alloc (.cells #[.int .u64 ka, .int .u64 kb] 101)).alloc (.cells #[.int .u32 ne, .int .u32 ns, .int .u64 nr] 99)) 157 #[.slice none 0 0, .int .u64 0, .int .u64 0]
    rw [World.size_alloc, World.size_alloc] at this
    exact this
  have hL : LckR ρ W l o O := h.keep hbw.size (fun b hb _ => ⟨hbw.block b hb, rfl⟩)
  have hfW : Fresh ρ W := fun i hi => hf i (Nat.le_trans hbw.size hi)
  have hc1 := hcall W.drew hfW (hL.2.2.keep (Nat.le_refl _) (fun _ _ _ => ⟨rfl, rfl⟩)) (hh.below_ hbw.drew) (hd.below_ hbw.drew)
  have hLb := hL.1.drew
  have hl0 := hL.2.1
  have hl := hL.1.lt
  have hll : l < w.heap.size := h.1.lt
  have hws := hbw.size
  have hfr : ∀ b, w.heap.size ≤ b → ρ b = 0 := hf
  clear hcall h hh hd hL hm
  go_enter Tryz.func156, Tryz.ntmps156
  go_wp2_with fail
  rw [← hW]
  clear hW
  replace hB0 := hB0.drew
  replace hB1 := hB1.drew
  replace hB2 := hB2.drew
  replace hbw := hbw.drew
  have hbw0 := hbw
  have hB2l : w.heap.size + 1 + 1 < W.heap.size := hB2.lt
  go_region_held3 (fun w' => w'.cell? ⟨l, 0, none⟩ = some (.func (.func 57) #[.pointer (some ⟨o, 0, none⟩)] #[]) ∧ w'.cell? ⟨w.heap.size, 0, none⟩ = some (.int .u64 ka) ∧ w'.cell? ⟨w.heap.size, 1, none⟩ = some (.int .u64 kb) ∧
      w'.cell? ⟨w.heap.size + 1, 0, none⟩ = some (.int .u32 ne) ∧ w'.cell? ⟨w.heap.size + 1, 1, none⟩ = some (.int .u32 ns) ∧ w'.cell? ⟨w.heap.size + 1, 2, none⟩ = some (.int .u64 nr))
    (first | (with_reducible exact And.intro (hLb.cell_ 0 (lcells0 _)) (kof hB0 hB1)) | (with_reducible exact And.intro ((((hLb.far (p := ⟨w.heap.size + 1 + 1, 0, none⟩) hlne _).far (p := ⟨w.heap.size + 1 + 1, 1, none⟩) hlne _).far (p := ⟨w.heap.size + 1 + 1, 2, none⟩) hlne _).cell_ 0 (lcells0 _)) (kset (Nat.lt_succ_self _) (kset (Nat.lt_succ_self _) (kset (Nat.lt_succ_self _) (kof hB0 hB1))))))
    (first
      | (go_at_call 57; refine hc1.mono ?_; rintro e w1 ⟨v1, rfl, ρ1, o1, O1, s1⟩; obtain ⟨A1, z1, rfl⟩ := o1.slice; have hlne : l ≠ w.heap.size + 1 + 1 := (by omega); have hkp : ∀ b, b < W.heap.size → (w.heap.size ≤ b ∨ b = l) → w1.heap[b]? = W.heap[b]? := (fun b hb e => s1.ch.keep b hb (by rcases e with e | e; rw [hfr b e]; unfold rtOrc; decide; rw [e, hl0]; unfold rtOrc; decide)); replace hLb : Blk w1 l 130 (lcells o) := (hkp l hl (.inr rfl)).trans hLb; replace hB0 : Blk w1 w.heap.size 101 #[.int .u64 ka, .int .u64 kb] := (hkp _ hB0.lt (.inl (Nat.le_refl _))).trans hB0; replace hB1 : Blk w1 (w.heap.size + 1) 99 #[.int .u32 ne, .int .u32 ns, .int .u64 nr] := (hkp _ hB1.lt (.inl (by omega))).trans hB1; replace hB2 : Blk w1 (w.heap.size + 1 + 1) 157 #[.slice none 0 0, .int .u64 0, .int .u64 0] := (hkp _ hB2.lt (.inl (by omega))).trans hB2; have x0 := hB2.cell_ 0 rfl; have x1 := hB2.cell_ 1 rfl; have x2 := hB2.cell_ 2 rfl; have y0 := hB2.frozen 0; have y1 := hB2.frozen 1; have y2 := hB2.frozen 2; have yl := hB2.lt))
  go_wp2_with fail
  have bR := ((hB2.set_to 0 (.slice A1 (oout (m + 1)).length z1) (cs' := #[.slice A1 (oout (m + 1)).length z1, .int .u64 0, .int .u64 0]) rfl).set_to 1 (.int .u64 18446744073709551615) (cs' := #[.slice A1 (oout (m + 1)).length z1, .int .u64 18446744073709551615, .int .u64 0]) rfl).set_to 2 (.int .u64 ((m : Int) + 1)) (cs' := [.slice A1 (oout (m + 1)).length z1, .int .u64 18446744073709551615, .int .u64 ((m : Int) + 1)].toArray) rfl
  have g1 : w1.grownBy (w1.setCell ⟨w.heap.size + 1 + 1, 0, none⟩ (.slice A1 (oout (m + 1)).length z1)) (some (w.heap.size + 1 + 1)) := only_setCell (only_refl _ _) (.inl rfl) _
  have g2 := only_setCell g1 (p := ⟨w.heap.size + 1 + 1, 1, none⟩) (.inl rfl) (.int .u64 18446744073709551615)
  have g3 := only_setCell g2 (p := ⟨w.heap.size + 1 + 1, 2, none⟩) (.inl rfl) (.int .u64 ((m : Int) + 1))
  have hz : ρ1 (w.heap.size + 1 + 1) = 0 := (s1.old (w.heap.size + 1 + 1) hB2l).trans (hfr _ (by omega))
  have hk8 := fun b (hb : b < w1.heap.size) (e : b ≠ w.heap.size + 1 + 1) => g3.block b hb (fun c => e (by injection c))
  have hsg := g3.size
  have hs1 := s1.size
  refine ret_cell_tmp 10 157 11 (by rfl) (w.heap.size + 1 + 1) 0 (by rfl) (.bool true) (by rfl) _ _ bR.range Tryz.underlying157 rfl sz157 rfl ⟨.slice A1 (oout (m + 1)).length z1, rfl, ρ1, ?_, ⟨?_, (s1.old l hl).trans hl0, ?_⟩, ?_⟩
  · refine ((o1.weak (q := fun b => (w.heap.size ≤ b ∧ ρ1 b = 0) ∧ b ≠ w.heap.size + 1 + 1) (fun b e => ⟨⟨Nat.le_trans hws e.1, e.2⟩, fun c => by have := e.1; have := hB2l; simp at *; omega⟩)).keep hsg (fun b hb e => hk8 b hb e.2)).weak (fun b e => e.1)
  · exact (hk8 l hLb.lt (by omega)).trans hLb
  · exact O1.keep hsg (fun b hb e => ⟨hk8 b hb (fun c => by rw [c, hz] at e; unfold rsOrc at e; revert e; decide), rfl⟩)
  · have hch : Ch (fun i => rtOrc (ρ i)) w _ := ((Ch.of_below hbw0).trans s1.ch).then_only g3 (by omega)
    exact ⟨hch, fun i hi => s1.old i (Nat.lt_of_lt_of_le hi hws), fun i hi => s1.fresh i (Nat.le_trans hsg hi)⟩
/-- the three calls, of the lock L alone -/
def SumOf (L : Lk) : Prop := ∀ (ρ : Rl) (l : Nat) (v : Value) (Ls : List By) (w : World), Fresh ρ w → LkR ρ w l L → Rows w v Ls → total Ls ≤ 1000 → L.lim 900000 →
  Calls Tryz.prog 168 #[.pointer (some ⟨l, 0, none⟩), v] w fun e w' => e = .returned (pv (L.sum Ls.flatten)) ∧ LkR ρ w' l (L.summed Ls.flatten) ∧ Ste rtOrc ρ w ρ w'
theorem sum_ideal (O : Orc) : SumOf (.ideal O) := by
  intro ρ l v Ls w hf h hR ht hlim
  obtain ⟨o, h⟩ := h
  refine (lsum_ok ρ l o O v Ls w hf h hR (by omega) (by have := hlim.2; omega)).mono ?_
  rintro e w1 ⟨rfl, h1, h2⟩
  exact ⟨rfl, ⟨o, h1⟩, h2⟩
theorem open_ideal (O : Orc) (ρ : Rl) (p q : Nat → Prop) (l : Nat) (key : Two) (n : Nce) (vh : Value) (head : By) (vb : Value) (b : By) (tag : Two) (w : World) (h : LkR ρ w l (.ideal O)) (hh : HasP p w vh head) (hb : HasP q w vb b) :
  Calls Tryz.prog 137 #[.pointer (some ⟨l, 0, none⟩), pv key, nv n, vh, .agg #[vb, .int .u64 tag.1, .int .u64 tag.2]] w fun e w' =>
    ∃ v, e = .returned (.tuple #[v, .bool ((Lk.ideal O).opens key n head b tag).isSome]) ∧ OwnB w.heap.size w' v (((Lk.ideal O).opens key n head b tag).getD []) ∧ Below w.heap.size w w' := by
  obtain ⟨o, h⟩ := h
  exact lopen_ok ρ p q l o O key n vh head vb b tag w h hh hb
theorem shut_ideal (O : Orc) (ρ : Rl) (p q : Nat → Prop) (l : Nat) (key : Two) (n : Nce) (vh : Value) (head : By) (vd : Value) (data : By) (w : World) (hf : Fresh ρ w) (h : LkR ρ w l (.ideal O)) (hk : U2 key) (hn : n.ok) (hh : HasP p w vh head) (hd : HasP q w vd data) (hl : head.length ≤ 4000) (hl32 : data.length = 32) (hlim : (Lk.ideal O).lim 900000) :
  Calls Tryz.prog 156 #[.pointer (some ⟨l, 0, none⟩), pv key, nv n, vh, vd] w fun e w' =>
    ∃ v, e = .returned (.tuple #[.agg #[v, .int .u64 ((Lk.ideal O).shut key n head data).2.1, .int .u64 ((Lk.ideal O).shut key n head data).2.2], .bool true]) ∧
      ∃ ρ', HasP (fun b => w.heap.size ≤ b ∧ ρ' b = 0) w' v ((Lk.ideal O).shut key n head data).1 ∧ LkR ρ' w' l ((Lk.ideal O).shutd key n head data) ∧ Ste rtOrc ρ w ρ' w' := by
  obtain ⟨o, h⟩ := h
  refine (lshut_ok ρ p q l o O key n vh head vd data w hf h hk hn hh hd hl hl32 (by have := hlim.1; omega)).mono ?_
  rintro e w1 ⟨v, rfl, ρ1, h1, h2, h3⟩
  exact ⟨v, rfl, ρ1, h1, ⟨o, h2⟩, h3⟩
end Go.Proofs.YtggmdjdflaglpaaGreat
