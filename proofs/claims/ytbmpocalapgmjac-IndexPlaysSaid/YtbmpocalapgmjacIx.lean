/- Index: New, Get, Len, Del by contract; what they answer at nil. -/
import Derived.Test.YtbmpocalapgmjacIMap
import Derived.WalkArith
namespace Go.Proofs.Ytbmpocalapgmjac.index
open Go.RowKit Go.Maps
set_option linter.unusedVariables false
theorem kd : Keyed Try.prog 3 := int_keyed Try.underlying3
theorem zero3 (w : World) : (zeroValue 3).run Try.prog w = .ok (.int .i64 0) w := by kernel_rfl
/-- an index: S its table; no more than T entries were ever set -/
def II (w : World) (b g T : Nat) (S : Nat → Int) : Prop :=
  Blk w g 66 #[.map (some b)] ∧ ∃ n D, w.ownsMap Try.prog 3 (plainElem (H := Unit) Try.prog 3) b n D ∧ n ≤ T ∧ IX D S ∧ ∀ x, x < 32 → 0 ≤ S x ∧ S x ≤ 16
section
variable {w w' : World} {b g T : Nat} {S : Nat → Int}
theorem II.ltb (h : II w b g T S) : b < w.heap.size := by
  obtain ⟨_, n, D, hm, _⟩ := h
  exact hm.lt
theorem II.ltg (h : II w b g T S) : g < w.heap.size := h.1.lt
theorem II.ne (h : II w b g T S) : g ≠ b := by
  obtain ⟨hb, n, D, ⟨es, clock, hm, _⟩, _⟩ := h
  rintro rfl
  unfold Blk at hb
  rw [hb] at hm
  cases hm
theorem II.same (h : II w b g T S) (hb : w'.heap[b]? = w.heap[b]?) (hg : w'.heap[g]? = w.heap[g]?) : II w' b g T S := by
  obtain ⟨h1, n, D, ⟨es, clock, hm, h2⟩, h3⟩ := h
  exact ⟨hg.trans h1, n, D, ⟨es, clock, hb.trans hm, h2⟩, h3⟩
theorem II.below_ (h : II w b g T S) (hb : Below w.heap.size w w') : II w' b g T S := h.same (hb.block b h.ltb) (hb.block g h.ltg)
theorem II.mono {T' : Nat} (h : II w b g T S) (hT : T ≤ T') : II w b g T' S := by
  obtain ⟨h1, n, D, h2, h3, h4⟩ := h
  exact ⟨h1, n, D, h2, by omega, h4⟩
theorem II.bnd (h : II w b g T S) : ∀ x, x < 32 → 0 ≤ S x ∧ S x ≤ 16 := by
  obtain ⟨_, n, D, _, _, _, h4⟩ := h
  exact h4
end
def gb (S : Nat → Int) (k : Int) : Bool := decide (0 ≤ k ∧ k < 32 ∧ S k.toNat ≠ 0)
def gv (S : Nat → Int) (k : Int) : Int := if 0 ≤ k ∧ k < 32 ∧ S k.toNat ≠ 0 then S k.toNat - 1 else 0
theorem at_none {D : DataW Unit} {kl : Lit} (h : has D kl = false) (zd : DataW Unit) : D.atKey kl zd = zd := by
  cases D with
  | map es =>
    have h' : es.find? (fun p => p.1.sameKey kl) = none := by
      rw [List.find?_eq_none]
      intro p hp hc
      have : has (.map es) kl = true := by
        simp only [has]
        rw [List.any_eq_true]
        exact ⟨p, hp, hc⟩
      rw [this] at h
      cases h
    simp only [DataW.atKey, h']
  | _ => rfl
theorem get_val {D : DataW Unit} {S : Nat → Int} (h : IX D S) {k c : Int} (hat : D.atKey (ik k) (.lit (.int .i64 0)) = .lit (.int .i64 c)) : c = gv S k := by
  unfold gv
  by_cases hk : 0 ≤ k ∧ k < 32 ∧ S k.toNat ≠ 0
  · rw [if_pos hk]
    have := h.2.2 k.toNat (by omega) hk.2.2 (.lit (.int .i64 0))
    rw [Int.toNat_of_nonneg hk.1] at this
    rw [this] at hat
    injection hat with hat
    injection hat with _ hat
    exact hat.symm
  · rw [if_neg hk]
    have hf : has D (ik k) = false := by rw [h.2.1 k, decide_eq_false hk]
    rw [at_none hf] at hat
    injection hat with hat
    injection hat with _ hat
    exact hat.symm
theorem inew_ok (w : World) :
    Calls Try.prog 18 #[] w fun e w' => e = .returned (.pointer (some ⟨w.heap.size + 1, 0, none⟩)) ∧ II w' w.heap.size (w.heap.size + 1) 0 (fun _ => 0) ∧ Below w.heap.size w w' := by
  have hmk : ∀ W, (Instr.makeMap 64 none).run Try.prog W = .ok (.map (some W.heap.size)) (W.alloc (.map #[] 0)) := fun _ => rfl
  go_enter Try.func18, Try.ntmps18
  go_wp2_with fail
  go_ret
  have hs : (w.alloc (.map #[] 0)).heap.size = w.heap.size + 1 := by simp
  refine ⟨by simp, ⟨?_, 0, .map [], ?_, Nat.le_refl _, IX.start, fun x _ => by simp⟩, ?_⟩
  · have := Blk.new (w.alloc (.map #[] 0)) 66 #[.map (some w.heap.size)]
    rw [hs] at this
    exact this
  · exact (World.ownsMap_made w Try.prog 3 _).alloc _
  · exact ((Below.refl _ w).alloc (Nat.le_refl _) _).alloc (by simp) _
theorem iget_nil (k : Int) (w : World) :
    Calls Try.prog 20 #[.pointer none, .int .i64 k] w fun e w' => e = .returned (.tuple #[.int .i64 0, .bool false]) ∧ w = w' := by
  go_enter Try.func20, Try.ntmps20
  go_wp2_with fail
  go_ret2
  exact ⟨rfl, rfl⟩
theorem ilen_nil (w : World) : Calls Try.prog 21 #[.pointer none] w fun e w' => e = .returned (.int .i64 0) ∧ w = w' := by
  go_enter Try.func21, Try.ntmps21
  go_wp2_with fail
  go_ret
  exact ⟨rfl, rfl⟩
theorem islots_nil (w : World) : Calls Try.prog 22 #[.pointer none] w fun e w' => e = .returned (.slice none 0 0) ∧ w = w' := by
  go_enter Try.func22, Try.ntmps22
  go_wp2_with fail
  go_ret
  exact ⟨rfl, rfl⟩
theorem iput_nil (k s : Int) (w : World) :
    Calls Try.prog 19 #[.pointer none, .int .i64 k, .int .i64 s] w fun e w' => e = .returned (.bool false) ∧ w = w' := by
  go_enter Try.func19, Try.ntmps19
  go_wp2_with fail
  go_ret
  exact ⟨rfl, rfl⟩
theorem idel_nil (k : Int) (w : World) :
    Calls Try.prog 25 #[.pointer none, .int .i64 k] w fun e w' => e = .returned (.bool false) ∧ w = w' := by
  go_enter Try.func25, Try.ntmps25
  go_wp2_with fail
  refine (iget_nil k w).mono ?_
  rintro e w1 ⟨rfl, rfl⟩
  go_wp2_with fail
  go_ret
  exact ⟨rfl, rfl⟩
theorem iget_ok (b g T : Nat) (S : Nat → Int) (k : Int) (w : World) (h : II w b g T S) (hk : (Lit.int .i64 k).wf = true) :
    Calls Try.prog 20 #[.pointer (some ⟨g, 0, none⟩), .int .i64 k] w fun e w' => e = .returned (.tuple #[.int .i64 (gv S k), .bool (gb S k)]) ∧ w = w' := by
  obtain ⟨hb, n, D, hm, hn, hI, hr⟩ := h
  have h0 := hb.cell_ 0 rfl
  have f0 := hb.frozen 0
  have hg := hb.lt
  have hz := zero3 w
  have hh : has D (ik k) = gb S k := hI.2.1 k
  have hval : ∀ c, D.atKey (ik k) (.lit (.int .i64 0)) = .lit (.int .i64 c) → c = gv S k := fun c hc => get_val hI hc
  clear hI
  go_enter Try.func20, Try.ntmps20
  go_wp2_with (at_lookup; refine wpList_lookup_own_ok_int _ rfl _ _ 64 rfl 3 3 .i64 kd Try.underlying64 Try.underlying3 hz b n D rfl hm _ (.int .i64 k) rfl (keyOf_int_mk Try.underlying3 hk) ?_; intro c hat hwc; rw [show has D (Lit.int .i64 k) = gb S k from hh, hval c hat])
  go_ret2
  exact ⟨rfl, rfl⟩
def cnt (S : Nat → Int) : Nat := ((List.range 32).filter (fun x => decide (S x ≠ 0))).length
theorem keys_perm {b n : Nat} {D : DataW Unit} {S : Nat → Int} {w : World} (hm : w.ownsMap Try.prog 3 (plainElem (H := Unit) Try.prog 3) b n D) (hI : IX D S) :
    (((List.range 32).filter (fun x => decide (S x ≠ 0))).map (fun x : Nat => (x : Int))).Perm (intKeys D) := by
  obtain ⟨es, hD, hpw, _⟩ := hm.entries kd
  obtain ⟨es', hD', hko⟩ := hm.keysOf
  obtain rfl : es = es' := by rw [hD] at hD'; simpa using hD'
  subst hD
  exact perm_intKeys hpw
    (fun p hp => by obtain ⟨v, hv⟩ := hko p hp; obtain ⟨x, _, hx, _⟩ := Maps.keyOf_i64 Try.underlying3 hv; exact ⟨x, hx⟩)
    (by
      unfold List.Nodup
      rw [List.pairwise_map]
      exact ((List.nodup_range (n := 32)).filter _).imp (fun h e => h (by omega)))
    (fun x => by
      rw [show has (.map es) (.int .i64 x) = _ from hI.2.1 x]
      simp only [List.mem_map, List.mem_filter, List.mem_range, decide_eq_true_eq]
      constructor
      · rintro ⟨k, ⟨h1, h2⟩, rfl⟩
        exact ⟨by omega, by omega, by simpa using h2⟩
      · rintro ⟨h1, h2, h3⟩
        exact ⟨x.toNat, ⟨by omega, h3⟩, by omega⟩)
theorem size_cnt {b n : Nat} {D : DataW Unit} {S : Nat → Int} {w : World} (hm : w.ownsMap Try.prog 3 (plainElem (H := Unit) Try.prog 3) b n D) (hI : IX D S) : Maps.size D = cnt S := by
  have := (keys_perm hm hI).length_eq
  rw [List.length_map] at this
  obtain ⟨es, hD, _, _⟩ := hm.entries kd
  subst hD
  show es.length = _
  unfold cnt
  rw [this]
  simp [intKeys]
theorem ilen_ok (b g T : Nat) (S : Nat → Int) (w : World) (h : II w b g T S) :
    Calls Try.prog 21 #[.pointer (some ⟨g, 0, none⟩)] w fun e w' => e = .returned (.int .i64 (cnt S)) ∧ w = w' := by
  obtain ⟨hb, n, D, hm, hn, hI, hr⟩ := h
  have h0 := hb.cell_ 0 rfl
  have f0 := hb.frozen 0
  have hg := hb.lt
  have hs := size_cnt hm hI
  go_enter Try.func21, Try.ntmps21
  go_wp2_with (at_len; refine wpList_len_own _ rfl _ 64 rfl 3 3 Try.underlying64 _ b n D rfl hm ?_; rw [hs])
  go_ret
  exact ⟨rfl, rfl⟩
theorem idel_ok (b g T : Nat) (S : Nat → Int) (k : Int) (w : World) (h : II w b g T S) (hk : (Lit.int .i64 k).wf = true) :
    Calls Try.prog 25 #[.pointer (some ⟨g, 0, none⟩), .int .i64 k] w fun e w' => e = .returned (.bool (gb S k)) ∧ II w' b g T (if gb S k then upS S k.toNat 0 else S) ∧ w.grownBy w' (some b) := by
  have hget := iget_ok b g T S k w h hk
  have h' := h
  have hne := h.ne
  obtain ⟨hb, n, D, hm, hn, hI, hr⟩ := h
  have h0 := hb.cell_ 0 rfl
  have f0 := hb.frozen 0
  have hg := hb.lt
  cases hc : gb S k with
  | false =>
    rw [hc] at hget
    go_enter Try.func25, Try.ntmps25
    go_wp2_with fail
    refine hget.mono ?_
    rintro e w1 ⟨rfl, rfl⟩
    go_wp2_with fail
    go_ret
    exact ⟨rfl, by simpa using h', only_refl _ _⟩
  | true =>
    rw [hc] at hget
    have hk0 : 0 ≤ k ∧ k < 32 ∧ S k.toNat ≠ 0 := by unfold gb at hc; exact of_decide_eq_true hc
    go_enter Try.func25, Try.ntmps25
    go_wp2_with fail
    refine hget.mono ?_
    rintro e w1 ⟨rfl, rfl⟩
    go_wp2_with (at_delete; refine wpList_delete_own _ rfl _ _ 64 3 rfl 3 kd Try.underlying64 _ b n D rfl hm _ (.int .i64 k) rfl (keyOf_int_mk Try.underlying3 hk) ?_; intro w2 hown2 hturn2)
    go_ret
    have hgr := hturn2.grown
    refine ⟨rfl, ⟨hb.grown hgr (by simpa using hne), n, _, hown2, hn, ?_, ?_⟩, hgr⟩
    · have := hI.del (k := k.toNat) (by omega)
      rwa [Int.toNat_of_nonneg hk0.1] at this
    · intro x hx
      unfold upS
      split
      · omega
      · exact hr x hx
def okP (S : Nat → Int) (k s : Int) : Prop := 0 ≤ k ∧ k < 32 ∧ 0 ≤ s ∧ s < 16 ∧ ∀ x : Nat, x < 32 → (x : Int) ≠ k → S x ≠ s + 1
instance (S : Nat → Int) (k s : Int) : Decidable (okP S k s) := by unfold okP; infer_instance
def pb (S : Nat → Int) (k s : Int) : Bool := decide (okP S k s)
def pS (S : Nat → Int) (k s : Int) : Nat → Int := if pb S k s then upS S k.toNat (s + 1) else S
theorem sameKey_ik (x y : Int) : (ik x).sameKey (.int .i64 y) = decide (x = y) := by
  simp [Lit.sameKey]
theorem ent_val {D : DataW Unit} {S : Nat → Int} (h : IX D S) {x c : Int} (hat : ∀ zd, D.atKey (.int .i64 x) zd = .lit (.int .i64 c)) : 0 ≤ x ∧ x < 32 ∧ S x.toNat = c + 1 := by
  have hh : has D (ik x) = true := has_true_of_atKey hat
  rw [h.2.1 x] at hh
  have hh := of_decide_eq_true hh
  refine ⟨hh.1, hh.2.1, ?_⟩
  have := h.2.2 x.toNat (by omega) hh.2.2 (.lit (.int .i64 0))
  rw [Int.toNat_of_nonneg hh.1] at this
  have e : D.atKey (ik x) (.lit (.int .i64 0)) = .lit (.int .i64 c) := hat _
  rw [e] at this
  injection this with this
  injection this with _ this
  omega
theorem iput_no (g : Nat) (S : Nat → Int) (k s : Int) (w : World) (h : ¬ (0 ≤ k ∧ k < 32 ∧ 0 ≤ s ∧ s < 16)) :
    Calls Try.prog 19 #[.pointer (some ⟨g, 0, none⟩), .int .i64 k, .int .i64 s] w fun e w' => e = .returned (.bool false) ∧ w = w' := by
  by_cases h1 : k < 0
  · clear h
    go_enter Try.func19, Try.ntmps19
    go_wp2_with fail
    go_ret
    exact ⟨rfl, rfl⟩
  · have e1 : decide (k < 0) = false := by simpa using h1
    by_cases h2 : 32 ≤ k
    · clear h h1
      go_enter Try.func19, Try.ntmps19
      go_wp2_with fail
      go_ret
      exact ⟨rfl, rfl⟩
    · have e2 : decide (32 ≤ k) = false := by simpa using h2
      by_cases h3 : s < 0
      · clear h h1 h2
        go_enter Try.func19, Try.ntmps19
        go_wp2_with fail
        go_ret
        exact ⟨rfl, rfl⟩
      · have e3 : decide (s < 0) = false := by simpa using h3
        have h4 : 16 ≤ s := by omega
        clear h h1 h2 h3
        go_enter Try.func19, Try.ntmps19
        go_wp2_with fail
        go_ret
        exact ⟨rfl, rfl⟩
set_option maxHeartbeats 1000000 in
theorem iput_in (b g T : Nat) (S : Nat → Int) (k s : Int) (w : World) (h : II w b g T S) (hT : T ≤ 1000000) (hr : 0 ≤ k ∧ k < 32 ∧ 0 ≤ s ∧ s < 16) :
    Calls Try.prog 19 #[.pointer (some ⟨g, 0, none⟩), .int .i64 k, .int .i64 s] w fun e w' => e = .returned (.bool (pb S k s)) ∧ II w' b g (T + 1) (pS S k s) ∧ w.grownBy w' (some b) := by
  have hne := h.ne
  have hlb := h.ltb
  obtain ⟨hb, n, D, hm, hn, hI, hbd⟩ := h
  have h0 := hb.cell_ 0 rfl
  have f0 := hb.frozen 0
  have hg := hb.lt
  obtain ⟨r1, r2, r3, r4⟩ := hr
  have e1 : decide (k < 0) = false := by simpa using r1
  have e2 : decide (32 ≤ k) = false := by simpa using r2
  have e3 : decide (s < 0) = false := by simpa using r3
  have e4 : decide (16 ≤ s) = false := by simpa using r4
  have wk : (Lit.int .i64 k).wf = true := WalkArith.wf_i64 (by omega)
  have ws : (Lit.int .i64 s).wf = true := WalkArith.wf_i64 (by omega)
  have hnm : n < maxLen := by unfold maxLen; omega
  have hpv := plainElem_int (H := Unit) (P := Try.prog) Try.underlying3 ws
  go_enter Try.func19, Try.ntmps19
  go_wp2_with (first
    | (at_range; refine wpList_range_own _ rfl _ 64 rfl 3 3 kd Try.underlying64 _ b n _ rfl hm ?_; intro w0 hrg0 hg0 hs0)
    | go_in)
  go_frame
  go_loopw [7, 8] (fun _ _ wr => ∃ (left : Lit → Bool) (cnt : Nat), wr.ranges Try.prog 3 (plainElem (H := Unit) Try.prog 3) b w.heap.size n D left cnt ∧ w.grownBy wr none ∧ ∀ x : Int, left (ik x) = false → has D (ik x) = true → x ≠ k → S x.toNat ≠ s + 1)
    (fun _ _ wr => wr.rangeLeft b w.heap.size)
  case atStart => exact ⟨_, _, hrg0, hg0, fun x hx hy => by rw [hx] at hy; cases hy⟩
  case round =>
    obtain ⟨left, ct, hrg, hgw, hlf⟩ := hrel
    have h0w : wr.cell? ⟨g, 0, none⟩ = some (.map (some b)) := (hb.grown hgw (by simp)).cell_ 0 rfl
    have f0w : wr.frozen? ⟨g, 0, none⟩ = false := (hb.grown hgw (by simp)).frozen 0
    go_wp2_with (first
      | (at_next; refine wpList_next_ranges_ii _ rfl _ rfl 3 3 .i64 .i64 kd Try.underlying3 Try.underlying3 b w.heap.size n _ _ _ rfl hrg ?_ ?_)
      | go_in)
    · intro hc0 hl0
      have hmw := hrg.owns
      have hgl := (hb.grown hgw (by simp)).lt
      have hall : pb S k s = true := by
        refine decide_eq_true (show okP S k s from ⟨r1, r2, r3, r4, fun x hx hxk hc => hlf x (hl0 _) ?_ hxk (by simpa using hc)⟩)
        rw [hI.2.1]
        simp only [decide_eq_true_eq]
        refine ⟨by omega, by omega, ?_⟩
        simp; omega
      have hps : pS S k s = upS S k.toNat (s + 1) := by unfold pS; rw [hall, if_pos rfl]
      have hix := hI.put (k := k.toNat) (v := s) (by omega) r3
      rw [Int.toNat_of_nonneg r1] at hix
      have hfin := And.intro hall hps
      clear hall hps hlf hl0
      go_wp2_with (first
        | (at_mapUpdate; refine wpList_mapUpdate_in _ rfl _ _ _ 64 rfl 3 3 kd Try.underlying64 _ b n D rfl hmw hnm _ _ (.int .i64 k) rfl rfl (keyOf_int_mk Try.underlying3 wk) _ [] hpv ?_; intro w2 hown2 hturn2)
        | go_in)
      go_ret
      rw [hfin.1, hfin.2]
      have hgr := hgw.but b |>.andThen hturn2.grown (fun j hj => by cases hj; exact Or.inr rfl)
      refine ⟨rfl, ⟨hb.grown hgr (by simpa using hne), n + 1, _, hown2, by omega, hix, ?_⟩, hgr⟩
      intro x hx
      unfold upS
      split
      · omega
      · exact hbd x hx
    · intro x c w1 cnt1 hwx hwc hlx hat hrg1 hlt hg1 hs1 hen
      have hgw1 := hgw.andThen hg1 (fun j hj => by cases hj; exact Or.inl (Nat.le_refl _))
      have hv := ent_val hI hat
      obtain ⟨v1, v2, v3⟩ := hv
      have hsame := hgw1
      clear hs1
      by_cases hc : c = s
      · by_cases hx : x = k
        · have t1 : (c == s) = true := by simpa using hc
          have t2 : (x != k) = false := by simpa using hx
          have hnew : ∀ y : Int, (left (ik y) && !(ik y).sameKey (.int .i64 x)) = false → has D (ik y) = true → y ≠ k → S y.toNat ≠ s + 1 := fun y hy hd hyk => by
            rw [sameKey_ik] at hy
            by_cases e : y = x
            · exact absurd (e.trans hx) hyk
            · rw [decide_eq_false e] at hy
              exact hlf y (by simpa using hy) hd hyk
          clear hc hx hlf
          go_wp2
          go_roundw
          case rel => exact ⟨_, cnt1, hrg1, hgw1, hnew⟩
          case measure => rw [hrg1.left_eq, hrg.left_eq]; exact hlt
        · have t1 : (c == s) = true := by simpa using hc
          have t2 : (x != k) = true := by simpa using hx
          have hno : pb S k s = false := decide_eq_false (fun h => h.2.2.2.2 x.toNat (by omega) (by omega) (by omega))
          have hfin : pb S k s = false ∧ pS S k s = S := ⟨hno, by unfold pS; rw [hno]; rfl⟩
          clear hc hx hlf hno
          go_wp2
          go_ret
          rw [hfin.1, hfin.2]
          exact ⟨rfl, ⟨hb.grown hgw1 (by simp), n, D, hrg1.owns, by omega, hI, hbd⟩, hgw1.but b⟩
      · have t1 : (c == s) = false := by simpa using hc
        have hnew : ∀ y : Int, (left (ik y) && !(ik y).sameKey (.int .i64 x)) = false → has D (ik y) = true → y ≠ k → S y.toNat ≠ s + 1 := fun y hy hd hyk => by
          rw [sameKey_ik] at hy
          by_cases e : y = x
          · rw [e]; omega
          · rw [decide_eq_false e] at hy
            exact hlf y (by simpa using hy) hd hyk
        clear hc hlf
        go_wp2
        go_roundw
        case rel => exact ⟨_, cnt1, hrg1, hgw1, hnew⟩
        case measure => rw [hrg1.left_eq, hrg.left_eq]; exact hlt
end Go.Proofs.Ytbmpocalapgmjac.index
