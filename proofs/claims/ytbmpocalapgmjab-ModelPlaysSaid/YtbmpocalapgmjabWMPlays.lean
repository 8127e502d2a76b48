/- The walk of the law ModelPlays. -/
import Derived.Test.YtbmpocalapgmjabAny
import Derived.Deep.RegionHeld3
namespace Go.Proofs.Ytbmpocalapgmjab.modelPlays
open Go.RowKit
set_option linter.unusedVariables false
/-- a slice of calls that came in -/
def CallRow (w : World) (A : Option Addr) (len : Nat) : Prop :=
  len = 0 ∨ ∃ b off, A = some ⟨b, off, none⟩ ∧ b < w.heap.size ∧ ∀ i, i < len → ∃ (k l : Int) (B : Option Addr) (n c : Nat) (d : List UInt8),
    w.cell? ⟨b, off + i * 3, none⟩ = some (.int .i64 k) ∧ w.cell? ⟨b, off + i * 3 + 1, none⟩ = some (.int .i64 l) ∧ w.cell? ⟨b, off + i * 3 + 2, none⟩ = some (.slice B n c) ∧
    n ≤ 9223372036854775807 ∧ (n = 32 → Data32 w B d)
/-- a slice of bools that came in -/
def BoolRow (w : World) (A : Option Addr) (len : Nat) : Prop :=
  len = 0 ∨ ∃ b off, A = some ⟨b, off, none⟩ ∧ b < w.heap.size ∧ ∀ i, i < len → ∃ x, w.cell? ⟨b, off + i, none⟩ = some (.bool x)
theorem Data32.below {w w' : World} {B : Option Addr} {d : List UInt8} (h : Data32 w B d) (hb : Below w.heap.size w w') : Data32 w' B d := by
  obtain ⟨hl, b, o, hA, hlt, hc⟩ := h
  exact ⟨hl, b, o, hA, Nat.lt_of_lt_of_le hlt hb.size, fun j u hu => (hb.cell hlt).trans (hc j u hu)⟩
theorem nN_len {k i : Int} {n : Nat} {d : List UInt8} {N : Nat → List UInt8} {w : World} {B : Option Addr} (hN : ∀ j, j < 32 → (N j).length = 32) (hd : n = 32 → Data32 w B d) :
    ∀ j, j < 32 → (nN k i n d N j).length = 32 := by
  intro j hj
  unfold nN
  split
  · rename_i ho
    split
    · rename_i h2
      unfold upd
      split
      · have hn : n = 32 := by unfold okc at ho; omega
        exact (hd hn).1
      · exact hN j hj
    · split
      · unfold upd
        split
        · simp [zeros]
        · exact hN j hj
      · exact hN j hj
  · exact hN j hj
set_option maxRecDepth 100000 in
set_option maxHeartbeats 4000000 in
theorem walk (A1 : Option Addr) (len1 cap1 : Nat) (A2 : Option Addr) (len2 cap2 : Nat) (w : World) (h1 : CallRow w A1 len1) (h2 : BoolRow w A2 len2) (hm1 : len1 ≤ 9223372036854775807) (hm2 : len2 ≤ 9223372036854775807) :
    Calls Try.prog 4 #[.slice A1 len1 cap1, .slice A2 len2 cap2] w fun e w' => e = .returned (.bool true) ∧ Below w.heap.size w w' := by
  by_cases hl : len1 ≤ 200
  · go_enter Try.func4, Try.ntmps4
    go_wp2_with fail
    refine (new_ok _).mono ?_
    rintro e w1 ⟨rfl, m1, bl1⟩
    go_wp2_with fail
    refine (rnew_ok _).mono ?_
    rintro e w2 ⟨rfl, r2, bl2⟩
    have m2 := m1.below bl2
    have bel2 := bl1.trans (bl2.mono bl1.size)
    have hgx : w.heap.size < w1.heap.size := m1.lt
    obtain ⟨g, hg⟩ : ∃ g, g = w.heap.size := ⟨_, rfl⟩
    obtain ⟨x, hx⟩ : ∃ x, x = w1.heap.size := ⟨_, rfl⟩
    rw [← hg] at m2 hgx
    rw [← hx] at r2 hgx
    have hgl : w.heap.size ≤ g := by omega
    have hxl : w.heap.size ≤ x := by omega
    go_wp2_with fail
    rw [← hg, ← hx]
    clear hg hx m1 bl1 bl2
    go_loopw [7] (fun i wr => ∃ (k : Nat) (N L : Nat → List UInt8), k ≤ len1 ∧ i = .int .i64 k ∧ MI wr g N L ∧ RI wr x N L ∧ Below w.heap.size w wr) (fun i _ => len1 - (intOf i).toNat)
    case atStart => exact ⟨0, _, _, by omega, rfl, m2, r2, bel2⟩
    case round =>
      obtain ⟨k, N, L, hk, rfl, hM0, hR0, bel⟩ := hrel
      by_cases hlt : k < len1
      · obtain ⟨b, off, rfl, hbl, hcs⟩ := h1.resolve_left (by omega)
        obtain ⟨kd, lb, B, n, c, d, k0, k1, k2, hn, hd⟩ := hcs k hlt
        have j0 := (bel.cell hbl).trans k0
        have j1 := (bel.cell hbl).trans k1
        have j2 := (bel.cell hbl).trans k2
        by_cases hn100 : n ≤ 100
        · go_wp2_with fail
          have hM := hM0.drew
          have hR : RI wr.drew x N L := hR0
          have hbel := bel.drew
          have hlen : ∀ j, j < 32 → (N j).length = 32 := fun j hj => hM0.len hj
          have hi0 : (0 : Int) ≤ (k : Int) := by omega
          have hi1 : (k : Int) < (len1 : Int) := by omega
          have hxg : some g ≠ some x := by intro e; injection e; omega
          have tok1 : True := trivial
          have tok2 : True := trivial
          clear h1 hcs j0 j1 j2 hM0 hR0 bel m2 r2 bel2
          go_region_held3 (fun w' => w'.cell? ⟨b, off + k * 3, none⟩ = some (.int .i64 kd) ∧ w'.cell? ⟨b, off + k * 3 + 1, none⟩ = some (.int .i64 lb) ∧ w'.cell? ⟨b, off + k * 3 + 2, none⟩ = some (.slice B n c))
            (exact ⟨(hbel.cell hbl).trans k0, (hbel.cell hbl).trans k1, (hbel.cell hbl).trans k2⟩)
            (first | (go_at_call 15; refine (isany kd lb B n c _).mono ?_; rintro e w3 ⟨rfl, hb3⟩; replace hM := hM.below hb3; replace hR := hR.below hb3; replace hbel := hbel.trans (hb3.mono hbel.size)) | (go_at_call 16; refine (risany kd lb B n c _).mono ?_; rintro e w3 ⟨rfl, hb3⟩; replace hM := hM.below hb3; replace hR := hR.below hb3; replace hbel := hbel.trans (hb3.mono hbel.size)) | (go_at_call 10; refine (do_any g kd lb B n c d _ _ _ hM (fun hn => Data32.below (hd hn) hbel)).mono ?_; rintro e w3 ⟨⟨v1, rfl, hv1⟩, hM', hg3⟩; (try (replace hv2 := hv2.only hg3 hM.blk (by decide))); replace hR := hR.only hg3 hM.blk (by decide); replace hM := hM'; replace hbel := below_only hbel hg3 hbel.size hgl) | (go_at_call 17; refine (rdo_any x kd lb B n c d _ _ _ hR hlen (fun hn => Data32.below (hd hn) hbel)).mono ?_; rintro e w3 ⟨⟨v2, rfl, hv2⟩, hR', hg3⟩; (try (replace hv1 := hv1.only hg3 hR (by decide))); replace hM := hM.only hg3 hR (by decide) (by decide); replace hR := hR'; replace hbel := below_only hbel hg3 hbel.size hxl) | (go_at_call 12; refine (same_any v1 v2 _ _ _ hv1 hv2).mono ?_; rintro e w3 ⟨rfl, hb3⟩; replace hM := hM.below hb3; replace hR := hR.below hb3; replace hbel := hbel.trans (hb3.mono hbel.size)))
          have hlen' : ∀ j, j < 32 → (nN kd lb n d N j).length = 32 := fun j hj => hM.len hj
          generalize nN kd lb n d N = N' at hM hR hlen'
          generalize nL kd lb n N L = L' at hM hR
          clear hlen hv1 hv2 hd
          by_cases hc2 : k < len2
          · obtain ⟨b2, off2, rfl, hbl2, hbs⟩ := h2.resolve_left (by omega)
            obtain ⟨y, hy⟩ := hbs k hc2
            have hy3 := (hbel.cell hbl2).trans hy
            clear hbs hy h2
            cases y with
            | false =>
              go_wp2_with fail
              go_roundw
              case rel => exact ⟨k + 1, N', L', by omega, by go_num, hM, hR, hbel⟩
              case measure => simp [intOf]; omega
            | true =>
              go_wp2_with fail
              refine (crash_ok g N' L' _ hM).mono ?_
              rintro e w5 ⟨rfl, hM5, hg5⟩
              have hR5 := hR.only hg5 hM.blk (by decide)
              have hbel5 := below_only hbel hg5 hbel.size hgl
              clear hM hR hy3
              obtain ⟨vs, hvs⟩ : ∃ vs, vs = (List.range 32).map (fun i => Str (L' i)) := ⟨_, rfl⟩
              have hl5 : vs.length = 32 := by rw [hvs]; simp
              have hr : w5.rangeAt x 32 vs := range_of hR5 (fun j u hj => by rw [hvs] at hj; rw [List.getElem?_append_right (by simp)]; simpa using hj)
              have ht : w5.there x 0 vs.toArray.size := there_of hR5 (by simp [hl5])
              have hsz : (Try.prog.info? 42).map (·.size) = some vs.length := by rw [hl5]; exact info42
              have hsz' : (Try.prog.info? 42).map (·.size) = some vs.toArray.size := by rw [List.size_toArray]; exact hsz
              have h1' : vs.toArray.all (·.oneCell') = true := all_oneCell_toArray (by intro v hv; rw [hvs] at hv; simp only [List.mem_map] at hv; obtain ⟨i, _, rfl⟩ := hv; rfl)
              have m6 : RI (w5.setCells x 0 vs) x L' L' := by rw [hvs]; exact hR5.back
              have o6 : w5.grownBy (w5.setCells x 0 vs) (some x) := only_setCells _ _ _ (only_refl _ _)
              have hM6 := hM5.only o6 hR5 (by decide) (by decide)
              have hbel6 := below_only hbel5 o6 hbel5.size hxl
              have M6 := Lib.hid m6; have HM6 := Lib.hid hM6; have B6 := Lib.hid hbel6
              clear m6 hM6 hbel6 o6 hR5 hM5 hvs hl5 hbel5
              go_wp2_with (first | (with_reducible refine wpList_load_mid rfl 42 _ rfl x 32 rfl vs _ hr Try.underlying42 rfl hsz ?_) | (with_reducible refine wpList_store_mid rfl 42 _ _ rfl x 0 vs.toArray rfl rfl ht hsz' h1' ?_; rw [List.toList_toArray]; clear hr ht hsz hsz' h1'; generalize w5.setCells x 0 vs = w6 at M6 HM6 B6 ⊢))
              exact ⟨⟨k + 1, L', L', by omega, by go_num, HM6.out, M6.out, B6.out⟩, by simp [intOf]; omega⟩
          · have hc3 : ¬ ((k : Int) < (len2 : Int)) := by omega
            go_wp2_with fail
            go_roundw
            case rel => exact ⟨k + 1, N', L', by omega, by go_num, hM, hR, hbel⟩
            case measure => simp [intOf]; omega
        · have hgt : (100 : Int) < (n : Int) := by omega
          go_wp2_with fail
          go_ret
          exact ⟨rfl, bel⟩
      · have hdk : decide ((k : Int) < (len1 : Int)) = false := by simp; omega
        have hM1 := hM0
        obtain ⟨wo, hwo⟩ : ∃ wo : World, wo = wr := ⟨_, rfl⟩
        subst hwo
        clear h1 h2 m2 r2 bel2
        go_wp2_with fail
        go_loopw [8] (fun i wr => ∃ (j : Nat), j ≤ 32 ∧ i = .int .i64 j ∧ MI wr g N L ∧ RI wr x N L ∧ Below w.heap.size w wr) (fun i _ => 32 - (intOf i).toNat)
        case atStart => exact ⟨0, by omega, rfl, hM0, hR0, bel⟩
        case round =>
          obtain ⟨j, hj, rfl, hM, hR, bel⟩ := hrel
          by_cases hlj : j < 32
          · have hi0 : (0 : Int) ≤ (j : Int) := by omega
            have hi1 : (j : Int) < 32 := by omega
            have hcv := conv_made (L j) (hM.lenL hlj)
            have c0 := hR.last_ hlj
            have hst : Str (L j) = .string (str (L j)) := rfl
            have hxl3 := hR.lt
            go_wp2_with fail
            go_region_with (first | (go_at_call 18; refine (last_ok g j N L _ hM.drew hlj).mono ?_; rintro e w3 ⟨rfl, rfl⟩))
            all_goals
              go_wp2_with fail
              go_roundw
              case rel => exact ⟨j + 1, by omega, by go_num, (hM.below ((Below.refl _ _).alloc (Nat.le_refl _) (.cells (bcells (L j)) 5))).drew, hR.below (((Below.refl _ _).alloc (Nat.le_refl _) (.cells (bcells (L j)) 5)).drew), (bel.alloc bel.size _).drew⟩
              case measure => simp [intOf]; omega
          · go_wp2_with fail
            refine (last_no g (-1) _ (.inl (by omega))).mono ?_
            rintro e w3 ⟨rfl, rfl⟩
            go_wp2_with fail
            refine (last_no g 32 _ (.inr (by omega))).mono ?_
            rintro e w3 ⟨rfl, rfl⟩
            go_wp2_with fail
            refine (mknown_ok _).mono ?_
            rintro e w3 ⟨rfl, hb3⟩
            go_wp2_with fail
            go_ret
            exact ⟨rfl, bel.trans (hb3.mono bel.size)⟩
  · go_enter Try.func4, Try.ntmps4
    go_wp2_with fail
    go_ret
    exact ⟨rfl, Below.refl _ _⟩
end Go.Proofs.Ytbmpocalapgmjab.modelPlays
