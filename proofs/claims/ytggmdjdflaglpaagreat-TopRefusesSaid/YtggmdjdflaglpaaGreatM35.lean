/- world.New. commit.Load, of a world where nothing was committed; cache.Open. cache.Open: the walk. play.New: a Box of a new world. -/
import Derived.Test.YtggmdjdflaglpaaGreatM33
import Derived.Test.YtggmdjdflaglpaaGreatM09
import Derived.Test.YtggmdjdflaglpaaGreatM24
import Derived.Test.YtggmdjdflaglpaaGreatM34
namespace Go.Proofs.YtggmdjdflaglpaaGreat
open Go.RowKit Go.Proofs.YtggmdjdflaglpaaGreat.geo
set_option linter.unusedVariables false
theorem lreal_ok (w : World) : Calls Tryz.prog 28 #[] w fun e w' => e = .returned (.pointer (some ⟨w.heap.size, 0, none⟩)) ∧ Blk w' w.heap.size 130 rcells ∧ Below w.heap.size w w' := by
  have hmf : ∀ (fn : Fn) (first cap : Array Value) (w : World), (Instr.makeFunc fn first cap).run Tryz.prog w = .ok (.func fn first cap) w := fun _ _ _ _ => rfl
  go_enter Tryz.func28, Tryz.ntmps28
  go_wp2_with fail
  go_ret
  exact ⟨rfl, Blk.new w 130 _, (Below.refl _ _).alloc (Nat.le_refl _) _⟩
/-- a lock that was made: its address, whatever lies behind it -/
def LkNew (i : Bool) : Lk := if i then .ideal ⟨[], [], 0⟩ else .real
def newW (n seed : Nat) (i : Bool) : Wld := ⟨n, ⟨false, false, 0⟩, ⟨List.replicate (n * 160 + 120) 0, [], 0⟩, ⟨fun _ => List.replicate 32 0, [], false, 0⟩, ⟨0, 0, 0⟩, ⟨seed, 1, false⟩, LkNew i⟩
abbrev rtN : Nat → Prop := fun _ => False
theorem Ste.none {T : Nat → Prop} {ρ ρ' : Rl} {w w' : World} (h : Ste rtN ρ w ρ' w') : Ste T ρ w ρ' w' := h.mono (fun r e => e.elim)
theorem SsdR.none {ρ ρ' : Rl} {w w' : World} {p s : Nat} {S : Ssd} (h : SsdR ρ w p s S) (hs : Ste rtN ρ w ρ' w') : SsdR ρ' w' p s S := h.keep hs.size (fun b hb _ => ⟨hs.ch.keep b hb id, hs.old b hb⟩)
theorem DskR.none {ρ ρ' : Rl} {w w' : World} {p s : Nat} {S : Dsk} (h : DskR ρ w p s S) (hs : Ste rtN ρ w ρ' w') : DskR ρ' w' p s S := h.keep hs.size (fun b hb _ => ⟨hs.ch.keep b hb id, hs.old b hb⟩)
theorem LkR.none {ρ ρ' : Rl} {w w' : World} {l : Nat} {L : Lk} (h : LkR ρ w l L) (hs : Ste rtN ρ w ρ' w') : LkR ρ' w' l L := h.keep hs.size (fun b hb _ => ⟨hs.ch.keep b hb id, hs.old b hb⟩)
theorem KysR.none {ρ ρ' : Rl} {w w' : World} {p k : Nat} {K : Kys} (h : KysR ρ w p k K) (hs : Ste rtN ρ w ρ' w') : KysR ρ' w' p k K := h.keep hs.size (fun b hb _ => ⟨hs.ch.keep b hb id, hs.old b hb⟩)
theorem ste_nrl {ρ : Rl} {w w' : World} (hb : Below w.heap.size w w') (hf : Fresh ρ w) (hs : w'.heap.size = w.heap.size + 33) : Ste rtN ρ w (nrl ρ w.heap.size) w' :=
  ⟨Ch.of_below hb, fun i hi => by unfold nrl; rw [if_neg (by omega), if_neg (by omega)], fun i hi => by unfold nrl; rw [if_neg (by omega), if_neg (by omega)]; exact hf i (by omega)⟩
theorem PowR.none {ρ ρ' : Rl} {w w' : World} {p : Nat} {P : Pow} (h : PowR w p P) (hs : Ste rtN ρ w ρ' w') : PowR w' p P := h.keep (hs.ch.keep p h.lt id)
theorem Blk.none {ρ ρ' : Rl} {w w' : World} {g t : Nat} {cs : Array Value} (h : Blk w g t cs) (hs : Ste rtN ρ w ρ' w') : Blk w' g t cs := (hs.ch.keep g h.lt id).trans h
theorem CntR.none {ρ ρ' : Rl} {w w' : World} {p c : Nat} {C : Cnt} (h : CntR w p c C) (hs : Ste rtN ρ w ρ' w') : CntR w' p c C := Blk.none h hs
theorem CntR.lt_ {w : World} {p c : Nat} {C : Cnt} (h : CntR w p c C) : c < w.heap.size := Blk.lt h
theorem s1w {w : World} {g n : Nat} (b : Blk w g 62 #[.int .i64 n]) : w.cell? ⟨g, 0, none⟩ = some (.int .i64 n) := b.cell_ 0 rfl
/-- all pieces, made one behind the other, are a world -/
theorem WldR.made {ρ4 ρ6 : Rl} {w4 w6 w7 w8 w9 : World} {p l s n N seed : Nat} {L : Lk} (hP : PowR w4 p ⟨false, false, 0⟩) (hp : ρ4 p = rPow) (hL : LkR ρ4 w4 l L) (st : Ste rtN ρ4 w4 ρ6 w6)
    (hS : SsdR ρ6 w6 p s ⟨List.replicate N 0, [], 0⟩) (hN : N = n * 160 + 120) (hD : DskR (nrl ρ6 w6.heap.size) w7 p w6.heap.size ⟨fun _ => List.replicate 32 0, [], false, 0⟩) (sD : Ste rtN ρ6 w6 (nrl ρ6 w6.heap.size) w7)
    (hC : CntR w8 p w7.heap.size ⟨0, 0, 0⟩) (q8 : Below w7.heap.size w7 w8) (l8 : w7.heap.size < w8.heap.size)
    (hK : ∀ ρ : Rl, KysR ((ρ.set w8.heap.size rEpo).set (w8.heap.size + 1) rKys) w9 p (w8.heap.size + 1) ⟨seed, 1, false⟩) (q9 : Below w8.heap.size w8 w9) (l9 : w9.heap.size = w8.heap.size + 2) :
    ∃ ρ' a, a.wl = w9.heap.size ∧ WldR ρ' (w9.alloc (.cells #[.int .i64 n, .pointer (some ⟨p, 0, none⟩), .pointer (some ⟨s, 0, none⟩), .pointer (some ⟨w6.heap.size, 0, none⟩), .pointer (some ⟨w7.heap.size, 0, none⟩), .pointer (some ⟨w8.heap.size + 1, 0, none⟩), .pointer (some ⟨l, 0, none⟩)] 70)) a ⟨n, ⟨false, false, 0⟩, ⟨List.replicate (n * 160 + 120) 0, [], 0⟩, ⟨fun _ => List.replicate 32 0, [], false, 0⟩, ⟨0, 0, 0⟩, ⟨seed, 1, false⟩, L⟩ ∧
      Ste rtN ρ4 w4 ρ' (w9.alloc (.cells #[.int .i64 n, .pointer (some ⟨p, 0, none⟩), .pointer (some ⟨s, 0, none⟩), .pointer (some ⟨w6.heap.size, 0, none⟩), .pointer (some ⟨w7.heap.size, 0, none⟩), .pointer (some ⟨w8.heap.size + 1, 0, none⟩), .pointer (some ⟨l, 0, none⟩)] 70)) := by
  subst hN
  have s7 : Ste rtN (nrl ρ6 w6.heap.size) w7 ((nrl ρ6 w6.heap.size).set w7.heap.size rCnt) w8 := (Ste.of_below q8 sD.fresh).label (Nat.le_refl _) l8
  have s8 : Ste rtN ((nrl ρ6 w6.heap.size).set w7.heap.size rCnt) w8 ((((nrl ρ6 w6.heap.size).set w7.heap.size rCnt).set w8.heap.size rEpo).set (w8.heap.size + 1) rKys) w9 := ((Ste.of_below q9 s7.fresh).label (Nat.le_refl _) (by omega)).label (by omega) (by omega)
  obtain ⟨cs, hcs⟩ : ∃ cs : Array Value, cs = #[.int .i64 n, .pointer (some ⟨p, 0, none⟩), .pointer (some ⟨s, 0, none⟩), .pointer (some ⟨w6.heap.size, 0, none⟩), .pointer (some ⟨w7.heap.size, 0, none⟩), .pointer (some ⟨w8.heap.size + 1, 0, none⟩), .pointer (some ⟨l, 0, none⟩)] := ⟨_, rfl⟩
  rw [← hcs]
  have s9 : Ste rtN ((((nrl ρ6 w6.heap.size).set w7.heap.size rCnt).set w8.heap.size rEpo).set (w8.heap.size + 1) rKys) w9 (((((nrl ρ6 w6.heap.size).set w7.heap.size rCnt).set w8.heap.size rEpo).set (w8.heap.size + 1) rKys).set w9.heap.size rWld) (w9.alloc (.cells cs 70)) :=
    (Ste.of_below ((Below.refl _ _).alloc (Nat.le_refl _) _) s8.fresh).label (Nat.le_refl _) (by simp)
  refine ⟨_, ⟨w9.heap.size, p, s, w6.heap.size, w7.heap.size, w8.heap.size + 1, l⟩, rfl, ⟨?_, Rl.set_same _ _ _, ?_, ?_, ?_, ?_, ?_, ?_, ?_, ?_⟩, (((st.trans sD).trans s7).trans s8).trans s9⟩
  · rw [hcs]; exact Blk.new w9 70 _
  · exact ((((hP.none st).none sD).none s7).none s8).none s9
  · exact ((s9.old p (Nat.lt_of_lt_of_le hP.lt (((st.trans sD).trans s7).trans s8).size)).trans ((((st.trans sD).trans s7).trans s8).old p hP.lt)).trans hp
  · exact (((hS.none sD).none s7).none s8).none s9
  · exact ((hD.none s7).none s8).none s9
  · exact (hC.none s8).none s9
  · have h1 : w7.heap.size < w9.heap.size := by omega
    exact ((s9.old _ h1).trans (s8.old _ l8)).trans (Rl.set_same _ _ _)
  · exact (hK _).none s9
  · exact ((((hL.none st).none sD).none s7).none s8).none s9
set_option maxHeartbeats 8000000 in
set_option maxRecDepth 100000 in
theorem wnew_ok (n seed : Nat) (i : Bool) (w : World) (ρ : Rl) (hf : Fresh ρ w) (hV : V n) (hsd : seed < 18446744073709551616) :
    Calls Tryz.prog 15 #[.int .i64 n, .int .u64 seed, .bool i] w fun e w' => ∃ wl, e = .returned (.tuple #[.pointer (some ⟨wl, 0, none⟩), .int .i64 0]) ∧ ∃ ρ' a, a.wl = wl ∧ WldR ρ' w' a (newW n seed i) ∧ Ste rtN ρ w ρ' w' := by
  have hn : 4 ≤ n ∧ n ≤ 16 := by unfold V at hV; omega
  have his := fun W => is_yes (n : Int) W hV
  have hsz := fun W => geo.size_ok (n : Int) W hV
  have H := Lib.hid hV
  clear hV
  cases i with
  | true =>
    go_enter Tryz.func15, Tryz.ntmps15
    go_wp2_with fail
    refine (his _).mono ?_
    rintro e w1 ⟨rfl, rfl⟩
    go_wp2_with fail
    refine (pnew_ok _).mono ?_
    rintro e w1 ⟨rfl, hP, q1⟩
    go_wp2_with fail
    refine (lreal_ok _).mono ?_
    rintro e w3 ⟨rfl, hR, q3⟩
    have hPl := hP.lt
    have g8 := (Blk.new w1 62 #[.int .i64 n]).below_ q3
    have qa : Below w.heap.size w w3 := (q1.alloc q1.size (.cells #[.int .i64 n] 62)).trans (q3.mono (q1.alloc q1.size (.cells #[.int .i64 n] 62)).size)
    have hP3 : PowR w3 w.heap.size ⟨false, false, 0⟩ := (hP.keep (Below.heap_alloc w1 _ _ hPl)).keep (q3.block _ (by simp; omega))
    have st3 : Ste rtN ρ w (ρ.set w.heap.size rPow) w3 := (Ste.of_below qa hf).label (Nat.le_refl _) hP3.lt
    obtain ⟨ρ3, hρ3⟩ : ∃ ρ3, ρ3 = ρ.set w.heap.size rPow := ⟨_, rfl⟩
    have hp3 : ρ3 w.heap.size = rPow := by rw [hρ3]; exact Rl.set_same _ _ _
    rw [← hρ3] at st3
    obtain ⟨p, hp⟩ : ∃ p, p = w.heap.size := ⟨_, rfl⟩
    rw [← hp] at hP3 hp3
    obtain ⟨gb, hgb⟩ : ∃ gb, gb = w1.heap.size := ⟨_, rfl⟩
    rw [← hgb] at g8
    have hli := lideal_lk w3 ρ3 st3.fresh
    go_wp2_with fail
    refine hli.mono ?_
    rintro e w4 ⟨rfl, hL4, l4, q4⟩
    clear hli
    go_wp2_with fail
    have st4a : Ste rtN ρ3 w3 (((ρ3.set w3.heap.size rSum).set (w3.heap.size + 1) rOrc).set (w3.heap.size + 2) rLck) w4 := (((Ste.of_below q4 st3.fresh).label (Nat.le_refl _) (by omega)).label (by omega) (by omega)).label (by omega) (by omega)
    replace g8 := g8.none st4a
    have hP4 := hP3.none st4a
    have hp4 := (st4a.old _ hP3.lt).trans hp3
    have st4 := st3.trans st4a
    obtain ⟨ρ4, hρ4⟩ : ∃ ρ4, ρ4 = ((ρ3.set w3.heap.size rSum).set (w3.heap.size + 1) rOrc).set (w3.heap.size + 2) rLck := ⟨_, rfl⟩
    rw [← hρ4] at hL4 hp4 st4
    clear st4a hρ4 q4 l4 st3 hp3 hP3
    have hkn := fun W => knew_ok p seed W
    obtain ⟨N, hN⟩ : ∃ N, N = n * 160 + 120 := ⟨_, rfl⟩
    have e160 : (n : Int) * 160 + 120 = (N : Int) := by omega
    rw [e160] at hsz
    have hN0 : 0 < N := by omega
    have hN1 : N ≤ 65536 := by omega
    have HN := Lib.hid hN
    have c8 := g8.cell_ 0 rfl
    have l8 := g8.lt
    clear hPl hP hR qa q1 q3 hρ3 hN e160
    clear his
    rw [← hp, ← hgb]
    clear hp hgb
    have g80 := g8
    go_region_held3 (fun w' => w'.cell? ⟨gb, 0, none⟩ = some (.int .i64 n))
      (first | (with_reducible exact s1w g80) | (with_reducible exact s1w (g80.alloc _)) | (with_reducible exact s1w g80.drew))
      (first
        | (go_at_call 31; (with_reducible refine (hsz w4.drew).mono ?_); rintro e w5 ⟨rfl, q5⟩; have r5 : Below w4.heap.size w4 w5 := (Below.refl _ _).drew.trans q5; replace g80 := g80.below_ r5; have s5 : Ste rtN ρ4 w4 ρ4 w5 := Ste.of_below r5 st4.fresh)
        | (go_at_call 30; have c6 := snew_ok p N w5 hN0 hN1 ρ4 s5.fresh; (with_reducible refine c6.mono ?_); clear c6; rintro e w6 ⟨rfl, hS, l6, q6⟩; replace g80 := g80.below_ q6; have s6 : Ste rtN ρ4 w5 ((ρ4.set w5.heap.size rLas).set (w5.heap.size + 1) rSsd) w6 := ((Ste.of_below q6 s5.fresh).label (Nat.le_refl _) (by omega)).label (by omega) (by omega); clear l6)
        | (go_at_call 32; have c7 := dnew_ok p w6 ((ρ4.set w5.heap.size rLas).set (w5.heap.size + 1) rSsd) s6.fresh; (with_reducible refine c7.mono ?_); clear c7; rintro e w7 ⟨rfl, hD, l7, q7⟩; replace g80 := g80.below_ q7; have s7 := ste_nrl q7 s6.fresh l7; clear l7)
        | (go_at_call 33; (with_reducible refine (cnew_ok p w7).mono ?_); rintro e w8 ⟨rfl, hC, q8⟩; have hCl := Lib.hid hC.lt_; replace g80 := g80.below_ q8)
        | (go_at_call 34; (with_reducible refine (hkn w8).mono ?_); rintro e w9 ⟨rfl, hK, l9, q9⟩; have L9 := Lib.hid l9; clear l9; replace g80 := g80.below_ q9)
        | fail)
    have hfin := WldR.made hP4 hp4 hL4 (s5.trans s6) hS HN.out hD s7 hC q8 hCl.out (fun ρ => hK hsd ρ) q9 L9.out
    have HF := Lib.hid hfin
    clear hfin hP4 hp4 hL4 s5 s6 hS hD s7 hC hK g8 g80 r5 q6 q7 q8 q9 L9 hCl c8 l8
    go_wp2_with fail
    go_ret2
    obtain ⟨ρ', a, ha, hw, hs⟩ := HF.out
    exact ⟨_, rfl, ρ', a, ha, hw, st4.trans hs⟩
  | false =>
    go_enter Tryz.func15, Tryz.ntmps15
    go_wp2_with fail
    refine (his _).mono ?_
    rintro e w1 ⟨rfl, rfl⟩
    go_wp2_with fail
    refine (pnew_ok _).mono ?_
    rintro e w1 ⟨rfl, hP, q1⟩
    go_wp2_with fail
    refine (lreal_ok _).mono ?_
    rintro e w3 ⟨rfl, hR, q3⟩
    have hPl := hP.lt
    have g8 := (Blk.new w1 62 #[.int .i64 n]).below_ q3
    have qa : Below w.heap.size w w3 := (q1.alloc q1.size (.cells #[.int .i64 n] 62)).trans (q3.mono (q1.alloc q1.size (.cells #[.int .i64 n] 62)).size)
    have hP3 : PowR w3 w.heap.size ⟨false, false, 0⟩ := (hP.keep (Below.heap_alloc w1 _ _ hPl)).keep (q3.block _ (by simp; omega))
    have st3 : Ste rtN ρ w (ρ.set w.heap.size rPow) w3 := (Ste.of_below qa hf).label (Nat.le_refl _) hP3.lt
    obtain ⟨ρ3, hρ3⟩ : ∃ ρ3, ρ3 = ρ.set w.heap.size rPow := ⟨_, rfl⟩
    have hp3 : ρ3 w.heap.size = rPow := by rw [hρ3]; exact Rl.set_same _ _ _
    rw [← hρ3] at st3
    obtain ⟨p, hp⟩ : ∃ p, p = w.heap.size := ⟨_, rfl⟩
    rw [← hp] at hP3 hp3
    obtain ⟨gb, hgb⟩ : ∃ gb, gb = w1.heap.size := ⟨_, rfl⟩
    rw [← hgb] at g8
    go_wp2_with fail
    obtain ⟨gl, hgl⟩ : ∃ gl, gl = w3.heap.size := ⟨_, rfl⟩
    have hzl : ρ3 (w1.heap.size + 1) = 0 := by
      rw [hρ3, Rl.set_other _ (by have := q1.size; omega)]
      exact hf _ (by have := q1.size; omega)
    have hRl : Blk w3 (w1.heap.size + 1) 130 rcells := by simpa using hR
    have st4 : Ste rtN ρ w (ρ3.set (w1.heap.size + 1) rLck) w3 := st3.label (by have := q1.size; omega) hRl.lt
    have hL4 : LkR (ρ3.set (w1.heap.size + 1) rLck) w3 (w1.heap.size + 1) .real := ⟨hRl, Rl.set_same _ _ _⟩
    have hp4 : (ρ3.set (w1.heap.size + 1) rLck) p = rPow := by rw [Rl.set_other _ (by rw [hp]; have := q1.size; omega)]; exact hp3
    have hP4 := hP3
    obtain ⟨ρ4, hρ4⟩ : ∃ ρ4, ρ4 = ρ3.set (w1.heap.size + 1) rLck := ⟨_, rfl⟩
    rw [← hρ4] at hL4 hp4 st4
    obtain ⟨w4, hw4⟩ : ∃ w4, w4 = w3 := ⟨_, rfl⟩
    subst hw4
    rw [← hgb] at hL4
    clear hρ4 st3 hp3 hP3 hgl hzl hRl
    have hkn := fun W => knew_ok p seed W
    obtain ⟨N, hN⟩ : ∃ N, N = n * 160 + 120 := ⟨_, rfl⟩
    have e160 : (n : Int) * 160 + 120 = (N : Int) := by omega
    rw [e160] at hsz
    have hN0 : 0 < N := by omega
    have hN1 : N ≤ 65536 := by omega
    have HN := Lib.hid hN
    have c8 := g8.cell_ 0 rfl
    have l8 := g8.lt
    clear hPl hP hR qa q1 q3 hρ3 hN e160
    clear his
    rw [← hp, ← hgb]
    clear hp hgb
    have g80 := g8
    go_region_held3 (fun w' => w'.cell? ⟨gb, 0, none⟩ = some (.int .i64 n))
      (first | (with_reducible exact s1w g80) | (with_reducible exact s1w (g80.alloc _)) | (with_reducible exact s1w g80.drew))
      (first
        | (go_at_call 31; (with_reducible refine (hsz w4.drew).mono ?_); rintro e w5 ⟨rfl, q5⟩; have r5 : Below w4.heap.size w4 w5 := (Below.refl _ _).drew.trans q5; replace g80 := g80.below_ r5; have s5 : Ste rtN ρ4 w4 ρ4 w5 := Ste.of_below r5 st4.fresh)
        | (go_at_call 30; have c6 := snew_ok p N w5 hN0 hN1 ρ4 s5.fresh; (with_reducible refine c6.mono ?_); clear c6; rintro e w6 ⟨rfl, hS, l6, q6⟩; replace g80 := g80.below_ q6; have s6 : Ste rtN ρ4 w5 ((ρ4.set w5.heap.size rLas).set (w5.heap.size + 1) rSsd) w6 := ((Ste.of_below q6 s5.fresh).label (Nat.le_refl _) (by omega)).label (by omega) (by omega); clear l6)
        | (go_at_call 32; have c7 := dnew_ok p w6 ((ρ4.set w5.heap.size rLas).set (w5.heap.size + 1) rSsd) s6.fresh; (with_reducible refine c7.mono ?_); clear c7; rintro e w7 ⟨rfl, hD, l7, q7⟩; replace g80 := g80.below_ q7; have s7 := ste_nrl q7 s6.fresh l7; clear l7)
        | (go_at_call 33; (with_reducible refine (cnew_ok p w7).mono ?_); rintro e w8 ⟨rfl, hC, q8⟩; have hCl := Lib.hid hC.lt_; replace g80 := g80.below_ q8)
        | (go_at_call 34; (with_reducible refine (hkn w8).mono ?_); rintro e w9 ⟨rfl, hK, l9, q9⟩; have L9 := Lib.hid l9; clear l9; replace g80 := g80.below_ q9)
        | fail)
    have hfin := WldR.made hP4 hp4 hL4 (s5.trans s6) hS HN.out hD s7 hC q8 hCl.out (fun ρ => hK hsd ρ) q9 L9.out
    have HF := Lib.hid hfin
    clear hfin hP4 hp4 hL4 s5 s6 hS hD s7 hC hK g8 g80 r5 q6 q7 q8 q9 L9 hCl c8 l8
    go_wp2_with fail
    go_ret2
    obtain ⟨ρ', a, ha, hw, hs⟩ := HF.out
    exact ⟨_, rfl, ρ', a, ha, hw, st4.trans hs⟩
end Go.Proofs.YtggmdjdflaglpaaGreat
namespace Go.Proofs.YtggmdjdflaglpaaGreat
open Go.RowKit Go.Proofs.YtggmdjdflaglpaaGreat.geo
set_option linter.unusedVariables false
/-- what Load answers: the error, the leaves, the world -/
def LdP (ρ : Rl) (a : Ads) (er : Int) (ls : List Lf) (W' : Wld) (w : World) (e : Ending) (w' : World) : Prop :=
  ∃ A n c, e = .returned (.tuple #[.slice A n c, .int .i64 er]) ∧ ∃ ρ', (er = 0 → LvsP (fun b => ρ' b = 0 ∧ w.heap.size ≤ b) w' (.slice A n c) ls) ∧ WldR ρ' w' a W' ∧ Ste rtW ρ w ρ' w'
set_option maxHeartbeats 2000000 in
set_option maxRecDepth 100000 in
theorem load_zero (ρ : Rl) (a : Ads) (W : Wld) (w : World) (hf : Fresh ρ w) (h : WldR ρ w a W) (hg : W.pow.gone = false) (hc : W.cnt.value = 0) (hn : W.slots ≤ 16) :
    Calls Tryz.prog 37 #[.pointer (some ⟨a.wl, 0, none⟩)] w (LdP ρ a 0 (List.replicate W.slots Lf.no) W w) := by
  have hon := won_ok ρ a W w h
  have hva := value_ok a.p a.c W.cnt w h.2.2.2.2.2.2.1
  rw [hg] at hon
  rw [hc] at hva
  have c0 := h.1.cell_ 0 rfl
  have c1 := h.1.cell_ 1 rfl
  have c4 := h.1.cell_ 4 rfl
  have lw := h.1.lt
  obtain ⟨n, hn'⟩ : ∃ n, n = W.slots := ⟨_, rfl⟩
  rw [← hn'] at c0 hn
  rw [← hn']
  have hmk := fun W => make_leaves n (by omega) W
  have H := Lib.hid h
  clear h hg hc hn'
  go_enter Tryz.func37, Tryz.ntmps37
  go_wp2_with fail
  refine hon.mono ?_
  rintro e w1 ⟨rfl, rfl⟩
  clear hon
  go_wp2_with fail
  refine hva.mono ?_
  rintro e w1 ⟨rfl, rfl⟩
  clear hva
  go_wp2_with fail
  go_ret2
  have q : Below w.heap.size w (w.alloc (.cells (lcs (List.replicate n Lf.no)).toArray 103)) := (Below.refl _ _).alloc (Nat.le_refl _) _
  exact ⟨_, _, _, rfl, ρ, fun _ => ⟨w.heap.size, n, [], by rw [List.length_replicate], ⟨hf _ (Nat.le_refl _), Nat.le_refl _⟩, by rw [List.append_nil]; exact Blk.new w 103 _⟩, H.out.below_ q, Ste.of_below q hf⟩
/-- the leaves that are there are used, one behind the other -/
def ctouchs (C : Cch) : Nat → Cch
  | 0 => C
  | i + 1 => if (C.lf i).kind ≠ 0 then ctouch (ctouchs C i) i else ctouchs C i
theorem ctouchs_now (C : Cch) : ∀ i, (ctouchs C i).now = C.now ∧ (ctouchs C i).was = C.was ∧ (ctouchs C i).W = C.W ∧ (ctouchs C i).M = C.M ∧ (ctouchs C i).T ≤ C.T + i ∧ (ctouchs C i).pois = C.pois
  | 0 => ⟨rfl, rfl, rfl, rfl, Nat.le_refl _, rfl⟩
  | i + 1 => by
    have ih := ctouchs_now C i
    unfold ctouchs
    split
    · exact ⟨ih.1, ih.2.1, ih.2.2.1, ih.2.2.2.1, by show (ctouchs C i).T + 1 ≤ _; have := ih.2.2.2.2.1; omega, ih.2.2.2.2.2⟩
    · exact ⟨ih.1, ih.2.1, ih.2.2.1, ih.2.2.2.1, by have := ih.2.2.2.2.1; omega, ih.2.2.2.2.2⟩
/-- the cache that Open makes, ahead of finish -/
def cstart (W : Wld) (ls : List Lf) : Cch := ctouchs ⟨W, ⟨W.cnt.boots, 0⟩, ls, ls, [], 0, false⟩ ls.length
/-- Open behind a Load that told ls and left the world W: the error, the cache -/
def copen (W : Wld) (ls : List Lf) : Int × Cch := cfinish (cstart W ls)
theorem ctouchs_age (C : Cch) (hC : C.age = []) (i : Nat) : (∀ j : Nat, (j : Int) ∈ (ctouchs C i).age ↔ j < i ∧ (C.lf j).kind ≠ 0) ∧ ∀ z ∈ (ctouchs C i).age, 0 ≤ z := by
  induction i with
  | zero =>
    have e : (ctouchs C 0).age = [] := hC
    rw [e]
    exact ⟨fun j => ⟨fun h => by simp at h, fun h => by omega⟩, fun z hz => by simp at hz⟩
  | succ i ih =>
    unfold ctouchs
    split
    · rename_i h0
      refine ⟨fun j => ?_, fun z hz => ?_⟩
      · show (j : Int) ∈ dl i (ctouchs C i).age ++ [(i : Int)] ↔ _
        rw [List.mem_append, List.mem_singleton, mem_dl, ih.1 j]
        by_cases e : j = i
        · subst e
          constructor
          · exact fun _ => ⟨by omega, h0⟩
          · exact fun _ => .inr rfl
        · constructor
          · rintro (c | c)
            · exact ⟨by have := c.1.1; omega, c.1.2⟩
            · omega
          · exact fun c => .inl ⟨⟨by have := c.1; omega, c.2⟩, fun q => e (by omega)⟩
      · have hz : z ∈ dl i (ctouchs C i).age ++ [(i : Int)] := hz
        rw [List.mem_append, List.mem_singleton, mem_dl] at hz
        rcases hz with c | c
        · exact ih.2 z c.1
        · omega
    · rename_i h0
      refine ⟨fun j => ?_, ih.2⟩
      rw [ih.1 j]
      constructor
      · exact fun c => ⟨by omega, c.2⟩
      · rintro ⟨c1, c2⟩
        have : j ≠ i := fun e => h0 (by rw [← e]; exact c2)
        exact ⟨by omega, c2⟩
theorem cstart_cok {W : Wld} {ls : List Lf} {k : Nat} (hf : W.fit k) (hg : W.lk.good) (ha : 1 ≤ W.kys.a) (hn : ls.length = W.slots) (hok : ∀ (i : Nat) (l : Lf), ls[i]? = some l → l.ok i) (hk : k ≤ 4000000) : Cok (cstart W ls) k 16 := by
  have hl16 : ls.length ≤ 16 := by have := hf.geo; rw [hn]; unfold V at this; omega
  have ht := ctouchs_now ⟨W, ⟨W.cnt.boots, 0⟩, ls, ls, [], 0, false⟩ ls.length
  have hag := ctouchs_age ⟨W, ⟨W.cnt.boots, 0⟩, ls, ls, [], 0, false⟩ rfl ls.length
  have hlf : ∀ i, (cstart W ls).lf i = ls.getD i Lf.no := fun i => by
    show (ctouchs _ _).now.getD i Lf.no = _
    rw [ht.1]
  refine ⟨?_, ?_, ?_, ?_, ?_, fun i => ?_, fun i => ?_, hag.2, ?_, ?_, ?_⟩
  · show (ctouchs _ _).W.fit k; rw [ht.2.2.1]; exact hf
  · show (ctouchs _ _).W.lk.good; rw [ht.2.2.1]; exact hg
  · show 1 ≤ (ctouchs _ _).W.kys.a; rw [ht.2.2.1]; exact ha
  · show (ctouchs _ _).now.length = (ctouchs _ _).W.slots; rw [ht.1, ht.2.2.1]; exact hn
  · show (ctouchs _ _).was.length = (ctouchs _ _).W.slots; rw [ht.2.1, ht.2.2.1]; exact hn
  · rw [hlf, List.getD_eq_getElem?_getD]
    cases hi : ls[i]? with
    | none => exact Lf.no_ok i
    | some l => exact hok i l hi
  · rw [hlf]
    refine (hag.1 i).trans ⟨fun c => c.2, fun c => ⟨?_, c⟩⟩
    rcases Nat.lt_or_ge i ls.length with q | q
    · exact q
    · rw [List.getD_eq_getElem?_getD, List.getElem?_eq_none q] at c
      exact absurd rfl c
  · show (ctouchs _ _).T ≤ 16
    have := ht.2.2.2.2.1
    simp only at this
    omega
  · show (ctouchs _ _).M.n ≤ 100; rw [ht.2.2.2.1]; exact Nat.zero_le _
  · show (ctouchs _ _).M.boot < 4294967296; rw [ht.2.2.2.1]; have := hf.cnt.2; show W.cnt.boots < 4294967296; omega
end Go.Proofs.YtggmdjdflaglpaaGreat
namespace Go.Proofs.YtggmdjdflaglpaaGreat
open Go.RowKit Go.Proofs.YtggmdjdflaglpaaGreat.geo
set_option linter.unusedVariables false
theorem s2b {w : World} {wl ca : Nat} {x0 x1 x2 x3 x5 x6 : Value} (b : Blk w wl 70 #[x0, x1, x2, x3, .pointer (some ⟨ca, 0, none⟩), x5, x6]) : w.cell? ⟨wl, 4, none⟩ = some (.pointer (some ⟨ca, 0, none⟩)) := b.cell_ 4 rfl
/-- Open's answer: a cache, or an error -/
def OpP (ρ : Rl) (a : Ads) (R : Int × Cch) (w : World) (e : Ending) (w' : World) : Prop :=
  (R.1 = 0 ∧ ∃ cc m, e = .returned (.tuple #[.pointer (some ⟨cc, 0, none⟩), .int .i64 0]) ∧ ∃ ρ' ag, CchR ρ' w' a cc m ag R.2 ∧ Ste rtC ρ w ρ' w') ∨
  (R.1 ≠ 0 ∧ e = .returned (.tuple #[.pointer none, .int .i64 R.1]) ∧ ∃ ρ', WldR ρ' w' a R.2.W ∧ Ste rtC ρ w ρ' w')
set_option maxHeartbeats 8000000 in
set_option maxRecDepth 100000 in
theorem open_ok (HO : OpenOk) (HS : SumOk) (HT : ShutOk) (ρ : Rl) (a : Ads) (W W2 : Wld) (ls : List Lf) (k : Nat) (w : World) (hf : Fresh ρ w) (h : WldR ρ w a W) (hg : W.pow.gone = false) (hsp : (spend W.pow).2 = true) (hfit : W.fit k) (hk : k ≤ 300000)
    (hld : ∀ (ρ1 : Rl) (w1 : World), Fresh ρ1 w1 → WldR ρ1 w1 a W.bot → Calls Tryz.prog 37 #[.pointer (some ⟨a.wl, 0, none⟩)] w1 (LdP ρ1 a 0 ls W2 w1))
    (hf2 : W2.fit (k + 100)) (hg2 : W2.lk.good) (ha2 : 1 ≤ W2.kys.a) (hn2 : ls.length = W2.slots) (hok2 : ∀ (i : Nat) (l : Lf), ls[i]? = some l → l.ok i) :
    Calls Tryz.prog 16 #[.pointer (some ⟨a.wl, 0, none⟩)] w (OpP ρ a (copen W2 ls) w) := by
  have hl16 : 4 ≤ ls.length ∧ ls.length ≤ 16 := by have := hf2.geo; rw [hn2]; unfold V at this; omega
  have hon := won_ok ρ a W w h
  rw [hg] at hon
  have hbo := wboot_ok ρ a W w hf h (by have := hfit.cnt.2; omega)
  rw [hsp] at hbo
  have hcok := cstart_cok hf2 hg2 ha2 hn2 hok2 (by omega)
  have hbb : W2.cnt.boots < 4294967296 := by have := hf2.cnt.2; omega
  have c1 := h.1.cell_ 1 rfl
  have c4 := h.1.cell_ 4 rfl
  have lw := h.1.lt
  obtain ⟨n, hn⟩ : ∃ n, n = ls.length := ⟨_, rfl⟩
  have HN := Lib.hid (And.intro hn (And.intro hl16 (And.intro hcok hbb)))
  have HLD := Lib.hid hld
  obtain ⟨R, hR⟩ : ∃ R, R = copen W2 ls := ⟨_, rfl⟩
  rw [← hR]
  have HR := Lib.hid hR
  clear h hg hsp hfit hld hf2 hg2 ha2 hn2 hok2 hn hl16 hcok hbb hR
  go_enter Tryz.func16, Tryz.ntmps16
  go_wp2_with fail
  refine hon.mono ?_
  rintro e w1 ⟨rfl, rfl⟩
  clear hon
  go_wp2_with fail
  refine hbo.mono ?_
  rintro e w1 ⟨rfl, ρ1, h1, s1⟩
  clear hbo c1 c4 lw
  have hl1 := HLD.out ρ1 w1 s1.fresh h1
  have HS1 := Lib.hid s1
  clear h1 s1
  go_wp2_with fail
  refine hl1.mono ?_
  rintro e w2 ⟨A, ln, lc, rfl, ρ2, hv, h2, s2⟩
  clear hl1
  have hv := hv rfl
  obtain ⟨g, cap, rr, hve, hg0, hgb⟩ := hv
  injection hve with e1 e2 e3
  subst e1 e2 e3
  have hbt := boots_ok a.p a.c W2.cnt w2 h2.2.2.2.2.2.2.1
  obtain ⟨bt, hbt'⟩ : ∃ bt, bt = W2.cnt.boots := ⟨_, rfl⟩
  rw [← hbt'] at hbt
  have hnn := fun W => nce.new_ok (bt : Int) W (by omega) (by rw [hbt']; have := HN.out.2.2.2; omega)
  have c4 := h2.1.cell_ 4 rfl
  have lw2 := h2.1.lt
  have hln : ls.length = n := HN.out.1.symm
  have st2 : Ste rtC ρ w ρ2 w2 := (HS1.out.mono (fun r e => e.c)).trans (s2.mono (fun r e => e.c))
  have H2 := Lib.hid (And.intro h2 (And.intro st2 (And.intro hg0 (And.intro hgb hbt'))))
  have HLN := Lib.hid hln
  rw [hln]
  clear h2 s2 st2 hg0 hgb hbt' hln
  go_wp2_with fail
  refine hbt.mono ?_
  rintro e w3 ⟨rfl, rfl⟩
  clear hbt
  go_wp2_with fail
  refine (hnn _).mono ?_
  rintro e w3 ⟨rfl, rfl⟩
  clear hnn c4
  obtain ⟨h2, st2, hg0, hgb, hbt'⟩ := H2.out
  have q3 : Below w2.heap.size w2 (w2.alloc (.cells #[.int .u64 bt, .int .i64 0] 144)) := (Below.refl _ _).alloc (Nat.le_refl _) _
  have hB3 := Blk.new w2 144 #[.int .u64 bt, .int .i64 0]
  obtain ⟨w3, hw3⟩ : ∃ w3, w3 = w2.alloc (.cells #[.int .u64 bt, .int .i64 0] 144) := ⟨_, rfl⟩
  rw [← hw3] at q3 hB3 ⊢
  obtain ⟨m, hm⟩ : ∃ m, m = w2.heap.size := ⟨_, rfl⟩
  rw [← hm] at hB3 ⊢
  have h3 := h2.below_ q3
  have hgb3 := hgb.below_ q3
  have hcl := lclone_ok (fun _ => True) (.slice (some ⟨g, 0, none⟩) ls.length lc) ls w3 ⟨g, lc, rr, rfl, trivial, hgb3⟩ (by have := HN.out.2.1; omega)
  rw [HLN.out] at hcl
  have H3 := Lib.hid (And.intro h3 (And.intro hgb3 (And.intro hB3 (And.intro q3 hm))))
  clear h2 st2 hg0 hgb hbt' q3 hB3 hw3 hm h3 hgb3
  go_wp2_with fail
  refine hcl.mono ?_
  rintro e w4 ⟨v4, rfl, ho4, q4⟩
  clear hcl
  obtain ⟨A4, z4, rfl⟩ := row_form ho4
  obtain ⟨h3, hgb3, hB3, q3, hm⟩ := H3.out
  obtain ⟨h2, st2, hg0, hgb, hbt'⟩ := H2.out
  rw [← HLN.out] at ho4
  obtain ⟨g4, hv4, hg4, hgl4⟩ := LvsP.of_row ho4 (by have := HN.out.2.1; omega)
  have h4 := h3.below_ q4
  have hgb4 := hgb3.below_ q4
  have hB4 := hB3.below_ q4
  have q24 : Below w2.heap.size w2 w4 := q3.trans (q4.mono q3.size)
  have hmg : m ≠ g := fun c => by have := hgb.lt; omega
  have hm4 : m < w4.heap.size := hB4.lt
  have hg3 : w2.heap.size < w3.heap.size := by rw [← hm]; exact hB3.lt
  have hgl2 := hgb.lt
  have hgold := hg0.2
  have hs12 : w.heap.size ≤ w1.heap.size := HS1.out.size
  have st4 : Ste rtC ρ w (((ρ2.set m rMkr).set g rNow).set g4 rWas) w4 := (((st2.trans (Ste.of_below (T := rtC) q24 st2.fresh)).label (by rw [hm]; exact st2.size) hm4).label (by omega) hgb4.lt).label (by have := st2.size; omega) hgl4
  obtain ⟨ρ4, hρ4⟩ : ∃ ρ4, ρ4 = ((ρ2.set m rMkr).set g rNow).set g4 rWas := ⟨_, rfl⟩
  have rg : ρ4 g = rNow := by rw [hρ4, Rl.set_other _ (by omega), Rl.set_same]
  have rm : ρ4 m = rMkr := by rw [hρ4, Rl.set_other _ (by omega), Rl.set_other _ hmg, Rl.set_same]
  have r4 : ρ4 g4 = rWas := by rw [hρ4, Rl.set_same]
  have rold : ∀ b, ρ2 b ≠ 0 → ρ4 b = ρ2 b := fun b e => by
    have z1 : ρ2 g = 0 := hg0.1
    have z2 : ρ2 m = 0 := st2.fresh m (by omega)
    have z3 : ρ2 g4 = 0 := st2.fresh g4 (by omega)
    rw [hρ4, Rl.set_other _ (fun c => e (by rw [c]; exact z3)), Rl.set_other _ (fun c => e (by rw [c]; exact z1)), Rl.set_other _ (fun c => e (by rw [c]; exact z2))]
  rw [← hρ4] at st4
  have hw4 : WldR ρ4 w4 a W2 := h4.keep (Nat.le_refl _) (fun b hb e => ⟨rfl, rold b (by unfold rsW at e; omega)⟩)
  have hag := aage_ok ρ4 w4 st4.fresh
  have HB := Lib.hid (And.intro hw4 (And.intro hgb4 (And.intro hB4 (And.intro st4 (And.intro hv4 (And.intro rg (And.intro rm r4)))))))
  clear h3 hgb3 hB3 q3 hm h2 st2 hg0 hgb hbt' ho4 hv4 hg4 hgl4 h4 hgb4 hB4 q24 hmg hm4 hg3 hgl2 hgold hs12 st4 hρ4 rg rm r4 rold hw4 q4
  go_wp2_with fail
  refine hag.mono ?_
  rintro e w5 ⟨rfl, ρ5, hA5, hs5, q5⟩
  clear hag
  obtain ⟨hw4, hgb4, hB4, st4, hv4, rg, rm, r4⟩ := HB.out
  have s5 := hs5 rtN
  have hsz5 := q5.size
  have hl4 : m < w4.heap.size := hB4.lt
  have hlg := hgb4.lt
  obtain ⟨g4', cap4, rr4, he4, hp4, hb4⟩ := hv4
  have q6 : Below w5.heap.size w5 (w5.alloc (.cells #[.pointer (some ⟨a.wl, 0, none⟩), .pointer (some ⟨m, 0, none⟩), .slice (some ⟨g, 0, none⟩) n lc, .slice A4 n z4, .pointer (some ⟨w4.heap.size, 0, none⟩), .bool false] 107)) := (Below.refl _ _).alloc (Nat.le_refl _) _
  have hcB := Blk.new w5 107 #[.pointer (some ⟨a.wl, 0, none⟩), .pointer (some ⟨m, 0, none⟩), .slice (some ⟨g, 0, none⟩) n lc, .slice A4 n z4, .pointer (some ⟨w4.heap.size, 0, none⟩), .bool false]
  have s6 : Ste rtN ρ5 w5 (ρ5.set w5.heap.size rCch) (w5.alloc (.cells #[.pointer (some ⟨a.wl, 0, none⟩), .pointer (some ⟨m, 0, none⟩), .slice (some ⟨g, 0, none⟩) n lc, .slice A4 n z4, .pointer (some ⟨w4.heap.size, 0, none⟩), .bool false] 107)) := (Ste.of_below q6 s5.fresh).label (Nat.le_refl _) hcB.lt
  have s46 := s5.trans s6
  obtain ⟨w6, hw6⟩ : ∃ w6, w6 = w5.alloc (.cells #[.pointer (some ⟨a.wl, 0, none⟩), .pointer (some ⟨m, 0, none⟩), .slice (some ⟨g, 0, none⟩) n lc, .slice A4 n z4, .pointer (some ⟨w4.heap.size, 0, none⟩), .bool false] 107) := ⟨_, rfl⟩
  obtain ⟨ρ6, hρ6⟩ : ∃ ρ6, ρ6 = ρ5.set w5.heap.size rCch := ⟨_, rfl⟩
  obtain ⟨cc, hcc⟩ : ∃ cc, cc = w5.heap.size := ⟨_, rfl⟩
  obtain ⟨ag, hag⟩ : ∃ ag, ag = w4.heap.size := ⟨_, rfl⟩
  have rcc : ρ6 cc = rCch := by rw [hρ6, hcc]; exact Rl.set_same _ _ _
  have hkw : ∀ b, b < w4.heap.size → w6.heap[b]? = w4.heap[b]? ∧ ρ6 b = ρ4 b := fun b hb => by rw [hw6, hρ6]; exact ⟨s46.ch.keep b hb id, s46.old b hb⟩
  have hA6 : AgeR ρ6 w6 ag 0 [] := by
    rw [hag]
    exact hA5.keep (fun b hb _ => by rw [hw6, hρ6]; exact ⟨s6.ch.keep b hb id, s6.old b hb⟩)
  have hcB6 : Blk w6 cc 107 #[.pointer (some ⟨a.wl, 0, none⟩), .pointer (some ⟨m, 0, none⟩), .slice (some ⟨g, 0, none⟩) n lc, .slice A4 n z4, .pointer (some ⟨ag, 0, none⟩), .bool false] := by rw [hw6, hcc, hag]; exact hcB
  have hC6 : CchR ρ6 w6 a cc m ag ⟨W2, ⟨W2.cnt.boots, 0⟩, ls, ls, [], 0, false⟩ := by
    refine ⟨_, _, hcB6, rcc, hw4.keep (by rw [hw6]; exact s46.size) (fun b hb _ => hkw b hb), ?_, ?_, ?_, hA6⟩
    · have := hkw m hl4
      refine ⟨?_, this.2.trans rm, by show (0 : Nat) ≤ 100; omega, HN.out.2.2.2⟩
      have hb := this.1.trans hB4
      rw [H2.out.2.2.2.2] at hb
      exact hb
    · have := hkw g hlg
      exact ⟨g, lc, rr, by rw [HLN.out], this.2.trans rg, this.1.trans hgb4⟩
    · subst hp4
      have := hkw g4' hb4.lt
      exact ⟨g4', cap4, rr4, by rw [← HLN.out]; exact he4, this.2.trans r4, this.1.trans hb4⟩
  have hgb6 : Blk w6 g 103 (lcs ls ++ rr).toArray := (hkw g hlg).1.trans hgb4
  have rg6 : ρ6 g = rNow := (hkw g hlg).2.trans rg
  have st6 : Ste rtC ρ w ρ6 w6 := by rw [hw6, hρ6]; exact st4.trans s46.none
  have HW6 := Lib.hid hw6
  have HCC := Lib.hid (And.intro hcc hag)
  have hC60 : CchR ρ6 w6 a cc m ag (ctouchs ⟨W2, ⟨W2.cnt.boots, 0⟩, ls, ls, [], 0, false⟩ 0) := hC6
  have hcc0 := hcB6.lt
  clear hA5 hs5 q5 hw4 hgb4 hB4 st4 rg rm r4 s5 hsz5 hl4 hlg he4 hp4 hb4 q6 hcB s6 s46 hw6 hρ6 hcc hag hkw hA6 hC6 rcc hcB6
  go_wp2_with fail
  rw [← HW6.out, ← HCC.out.1]
  try rw [← HCC.out.2]
  have hstep : ∀ i, ctouchs ⟨W2, ⟨W2.cnt.boots, 0⟩, ls, ls, [], 0, false⟩ (i + 1) = if ((⟨W2, ⟨W2.cnt.boots, 0⟩, ls, ls, [], 0, false⟩ : Cch).lf i).kind ≠ 0 then ctouch (ctouchs ⟨W2, ⟨W2.cnt.boots, 0⟩, ls, ls, [], 0, false⟩ i) i else ctouchs ⟨W2, ⟨W2.cnt.boots, 0⟩, ls, ls, [], 0, false⟩ i := fun _ => rfl
  have hTT : ∀ i, (ctouchs ⟨W2, ⟨W2.cnt.boots, 0⟩, ls, ls, [], 0, false⟩ i).T ≤ i := fun i => by have := (ctouchs_now ⟨W2, ⟨W2.cnt.boots, 0⟩, ls, ls, [], 0, false⟩ i).2.2.2.2.1; simp only at this; omega
  have hlf : ∀ i, i < n → ls[i]? = some ((⟨W2, ⟨W2.cnt.boots, 0⟩, ls, ls, [], 0, false⟩ : Cch).lf i) := fun i hi => lf_at ⟨W2, ⟨W2.cnt.boots, 0⟩, ls, ls, [], 0, false⟩ (by show i < ls.length; rw [HLN.out]; exact hi)
  obtain ⟨S, hS⟩ : ∃ S, S = ctouchs ⟨W2, ⟨W2.cnt.boots, 0⟩, ls, ls, [], 0, false⟩ := ⟨_, rfl⟩
  obtain ⟨F, hF⟩ : ∃ F : Nat → Lf, F = (⟨W2, ⟨W2.cnt.boots, 0⟩, ls, ls, [], 0, false⟩ : Cch).lf := ⟨_, rfl⟩
  rw [← hS, ← hF] at hstep
  rw [← hS] at hTT hC60
  rw [← hF] at hlf
  have H0 := Lib.hid (And.intro hstep (And.intro hTT (And.intro hlf hS)))
  have rgA : ρ6 g ≠ rAge := by rw [rg6]; decide
  have hglt : g < w6.heap.size := hgb6.lt
  have hst0 : Ste rtC ρ6 w6 ρ6 w6 := Ste.refl _ st6.fresh
  clear hstep hTT hlf hS hF
  go_loopw [59] (fun t wr => ∃ (i : Nat) (ρr : Rl), t = .int .i64 i ∧ i ≤ n ∧ CchR ρr wr a cc m ag (S i) ∧ Ste rtC ρ6 w6 ρr wr ∧ Blk wr g 103 (lcs ls ++ rr).toArray ∧ ρr g = rNow) (fun t _ => n - (intOf t).toNat)
  case atStart => exact ⟨0, ρ6, rfl, by omega, hC60, hst0, hgb6, rg6⟩
  case round =>
    obtain ⟨i, ρr, rfl, hi, hCr, hst, hgr, hrg⟩ := hrel
    clear hC60 hst0 hgb6
    obtain ⟨hstep, hTT, hlf, hS⟩ := H0.out
    by_cases hlt : i < n
    · have hgl := hgr.leaf (hlf i hlt)
      have lg := hgr.lt
      obtain ⟨l, hl⟩ : ∃ l, l = F i := ⟨_, rfl⟩
      have hst1 := hstep i
      rw [← hl] at hst1 hgl
      obtain ⟨kind, dirty, lba, ⟨ep, sl, ver⟩, ta, tb⟩ := l
      unfold lfc at hgl
      simp only at hgl hst1
      have m0 : (0 : Int) ≤ (i : Int) := by omega
      have m1 : (i : Int) < (n : Int) := by omega
      have hn16 := HN.out.2.1
      have hln' := HLN.out
      have hi16 : i < 16 := by omega
      obtain ⟨x, hx⟩ : ∃ x : Int, x = (kind : Int) := ⟨_, rfl⟩
      rw [← hx] at hgl
      have sz8 : (Tryz.prog.info? 103).map (·.size) = some ([.int .i64 x, .bool dirty, .int .i64 lba, .int .u32 ep, .int .u32 sl, .int .u64 ver, .int .u64 ta, .int .u64 tb] : List Value).length := sz103
      have q1 : Below wr.heap.size wr (wr.alloc (.cells #[.int .i64 x, .bool dirty, .int .i64 lba, .int .u32 ep, .int .u32 sl, .int .u64 ver, .int .u64 ta, .int .u64 tb] 103)) := (Below.refl _ _).alloc (Nat.le_refl _) _
      have hC1 := hCr.below_ q1
      have hg1 := hgr.below_ q1
      have st1 := hst.trans (Ste.of_below (T := rtC) q1 hst.fresh)
      obtain ⟨W1, hW1⟩ : ∃ W1, W1 = wr.alloc (.cells #[.int .i64 x, .bool dirty, .int .i64 lba, .int .u32 ep, .int .u32 sl, .int .u64 ver, .int .u64 ta, .int .u64 tb] 103) := ⟨_, rfl⟩
      rw [← hW1] at hC1 hg1 st1
      have hto := atouch_ok ρr ag (S i).T i (S i).age W1 st1.fresh hC1.age (by have := hTT i; omega) (by omega)
      have hCr' := hCr
      obtain ⟨vn, vw, hb, _⟩ := hCr'
      have c4 := hb.cell_ 4 rfl
      have lc := hb.lt
      have HW1 := Lib.hid hW1
      have HR := Lib.hid (And.intro hst1 (And.intro hC1 (And.intro st1 (And.intro hg1 (And.intro hrg hx)))))
      clear hstep hTT hlf hS hst1 hC1 st1 hg1 hCr hst hgr hrg hl hW1 q1 hb hn16 hln' hx
      by_cases hk : x = 0
      · have t0 : (x == 0) = true := by simpa using hk
        have t1 : (x != 0) = false := by simpa using hk
        have HK := Lib.hid hk
        clear hk hto
        go_wp2_with (with_reducible refine wpList_load_mid rfl 103 _ rfl g (i * 8) rfl _ _ hgl Tryz.underlying103 rfl sz8 ?_)
        rw [← HW1.out]
        go_roundw
        case rel =>
          obtain ⟨hst1, hC1, st1, hg1, hrg, hx⟩ := HR.out
          have hk0 := HK.out
          rw [if_neg (by omega)] at hst1
          exact ⟨i + 1, ρr, by go_num, by omega, by rw [hst1]; exact hC1, st1, hg1, hrg⟩
        case measure => simp [intOf]; omega
      · have t0 : (x == 0) = false := by simpa using hk
        have t1 : (x != 0) = true := by simpa using hk
        have HK := Lib.hid hk
        clear hk
        go_wp2_with (with_reducible refine wpList_load_mid rfl 103 _ rfl g (i * 8) rfl _ _ hgl Tryz.underlying103 rfl sz8 ?_)
        rw [← HW1.out]
        refine hto.mono ?_
        rintro e w2 ⟨rfl, ρ2', hA2, s2⟩
        clear hto
        have HA := Lib.hid (And.intro hA2 s2)
        clear hA2 s2
        go_wp2_with fail
        go_roundw
        case rel =>
          obtain ⟨hst1, hC1, st1, hg1, hrg, hx⟩ := HR.out
          obtain ⟨hA2, s2⟩ := HA.out
          have hk0 := HK.out
          rw [if_pos (by omega)] at hst1
          exact ⟨i + 1, ρ2', by go_num, by omega, by rw [hst1]; exact hC1.put_age hA2 s2, st1.trans (s2.mono (fun r e => by rw [e]; unfold rtC; decide)), hg1.ste s2 (by rw [hrg]; decide), (s2.old _ hg1.lt).trans hrg⟩
        case measure => simp [intOf]; omega
    · obtain rfl : n = i := by omega
      have hd : decide ((n : Int) < (n : Int)) = false := by simp
      have hSn : S n = cstart W2 ls := by rw [hS, ← HLN.out]; rfl
      have hfi := finish_ok HO HS HT ρr a cc m ag (S n) (k + 100) 16 wr hst.fresh hCr (by rw [hSn]; exact HN.out.2.2.1) (by omega)
      have hRR : R = cfinish (S n) := by rw [HR.out, hSn]; rfl
      rw [← hRR] at hfi
      have HX := Lib.hid (st6.trans hst)
      clear hstep hTT hlf hS hSn hRR hCr hst hgr hrg
      go_wp2_with fail
      refine hfi.mono ?_
      rintro e w7 ⟨rfl, ρ7, ag7, hC7, s7⟩
      clear hfi
      obtain ⟨R1, RC⟩ := R
      have HY := Lib.hid (And.intro hC7 s7)
      simp only at hC7
      clear hC7 s7
      simp only
      by_cases he : R1 = 0
      · subst he
        go_wp2_with fail
        go_ret2
        obtain ⟨hC7, s7⟩ := HY.out
        exact .inl ⟨rfl, cc, m, rfl, ρ7, ag7, hC7, HX.out.trans s7⟩
      · have t1 : (R1 != 0) = true := by simpa using he
        have HE := Lib.hid he
        clear he
        go_wp2_with fail
        go_ret2
        obtain ⟨hC7, s7⟩ := HY.out
        exact .inr ⟨HE.out, rfl, ρ7, hC7.wld, HX.out.trans s7⟩
end Go.Proofs.YtggmdjdflaglpaaGreat
namespace Go.Proofs.YtggmdjdflaglpaaGreat
open Go.RowKit Go.Proofs.YtggmdjdflaglpaaGreat.geo
set_option linter.unusedVariables false
/-- a box: its world, its cache, the foe's copies -/
def BoxR (ρ : Rl) (w : World) (bx : Nat) (a : Ads) (cc m ag : Nat) (sv : Value) (C : Cch) : Prop :=
  Blk w bx 59 #[.pointer (some ⟨a.wl, 0, none⟩), .pointer (some ⟨cc, 0, none⟩), sv] ∧ ρ bx = rBox ∧ CchR ρ w a cc m ag C
/-- the cache of a new box -/
def newC (n seed : Nat) (i : Bool) : Cch := cstart (newW n seed i).bot (List.replicate n Lf.no)
theorem newW_bot (n seed : Nat) (i : Bool) : (newW n seed i).bot = ⟨n, ⟨false, false, 0⟩, ⟨List.replicate (n * 160 + 120) 0, [], 0⟩, ⟨fun _ => List.replicate 32 0, [], false, 0⟩, ⟨0, 1, 0⟩, ⟨seed, 1, false⟩, LkNew i⟩ := by
  rfl
theorem LkNew_lim (i : Bool) (k : Nat) : (LkNew i).lim k := by
  cases i
  · trivial
  · exact ⟨Nat.zero_le _, Nat.zero_le _⟩
theorem LkNew_good (i : Bool) : (LkNew i).good := by
  cases i
  · trivial
  · intro j x hx
    simp at hx
theorem newW_fit (n seed : Nat) (i : Bool) (hV : V n) : (newW n seed i).fit 1 :=
  ⟨hV, List.length_replicate, Nat.zero_le _, Nat.zero_le _, LkNew_lim i 1, ⟨Nat.zero_le _, Nat.zero_le _⟩, Nat.le_refl _, fun o ho => absurd ho List.not_mem_nil⟩
theorem newW_bot_fit (n seed : Nat) (i : Bool) (hV : V n) : (newW n seed i).bot.fit 1 := by
  rw [newW_bot]
  exact ⟨hV, List.length_replicate, Nat.zero_le _, Nat.zero_le _, LkNew_lim i 1, ⟨Nat.zero_le _, Nat.le_refl _⟩, Nat.le_refl _, fun o ho => absurd ho List.not_mem_nil⟩
theorem no_at (n : Nat) (i : Nat) (l : Lf) (h : (List.replicate n Lf.no)[i]? = some l) : l.ok i := by
  rw [List.getElem?_replicate] at h
  split at h
  · injection h with h
    rw [← h]
    exact Lf.no_ok i
  · cases h
theorem newC_open (n seed : Nat) (i : Bool) : copen (newW n seed i).bot (List.replicate n Lf.no) = (0, newC n seed i) := by
  have h : (newC n seed i).W.kys.two = false := by
    show (cstart _ _).W.kys.two = false
    unfold cstart
    rw [(ctouchs_now _ _).2.2.1]
    rfl
  show cfinish (newC n seed i) = _
  unfold cfinish
  rw [if_pos h]
theorem newC_same (n seed : Nat) (i : Bool) : (newC n seed i).now = List.replicate n Lf.no ∧ (newC n seed i).W = (newW n seed i).bot ∧ (newC n seed i).M = ⟨1, 0⟩ ∧ (newC n seed i).pois = false :=
  have h := ctouchs_now ⟨(newW n seed i).bot, ⟨(newW n seed i).bot.cnt.boots, 0⟩, List.replicate n Lf.no, List.replicate n Lf.no, [], 0, false⟩ (List.replicate n Lf.no).length
  ⟨h.1, h.2.2.1, h.2.2.2.1, h.2.2.2.2.2⟩
theorem newC_cin (n seed : Nat) (i : Bool) (hV : V n) : Cin (newC n seed i) 1 16 := by
  have hs := newC_same n seed i
  refine ⟨cstart_cok (newW_bot_fit n seed i hV) (by rw [newW_bot]; exact LkNew_good i) (by rw [newW_bot]; exact Nat.le_refl 1) List.length_replicate (no_at n) (by omega), fun h => ?_, ?_⟩
  · rw [hs.2.1, newW_bot] at h
    cases h
  · rw [hs.2.1, newW_bot]
    exact ⟨fun i hi => List.length_replicate, fun o ho => absurd ho List.not_mem_nil⟩
set_option maxHeartbeats 2000000 in
set_option maxRecDepth 100000 in
theorem pnew_box (HO : OpenOk) (HS : SumOk) (HT : ShutOk) (n seed : Nat) (i : Bool) (w : World) (ρ : Rl) (hf : Fresh ρ w) (hV : V n) (hsd : seed < 18446744073709551616) :
    Calls Tryz.prog 7 #[.int .i64 n, .int .u64 seed, .bool i] w fun e w' => ∃ bx, e = .returned (.tuple #[.pointer (some ⟨bx, 0, none⟩), .int .i64 0]) ∧ ∃ ρ' a cc m ag, BoxR ρ' w' bx a cc m ag (.slice none 0 0) (newC n seed i) ∧ Ste rtC ρ w ρ' w' := by
  have hnw := wnew_ok n seed i w ρ hf hV hsd
  have hop : ∀ (ρ1 : Rl) (a : Ads) (w1 : World), Fresh ρ1 w1 → WldR ρ1 w1 a (newW n seed i) → Calls Tryz.prog 16 #[.pointer (some ⟨a.wl, 0, none⟩)] w1 (OpP ρ1 a (0, newC n seed i) w1) := fun ρ1 a w1 hf1 h1 => by
    have := open_ok HO HS HT ρ1 a (newW n seed i) (newW n seed i).bot (List.replicate n Lf.no) 1 w1 hf1 h1 rfl rfl (newW_fit n seed i hV) (by decide)
      (fun ρ2 w2 hf2 h2 => load_zero ρ2 a _ w2 hf2 h2 rfl rfl (by show n ≤ 16; unfold V at hV; omega))
      ((newW_bot_fit n seed i hV).mono (by omega)) (by rw [newW_bot]; exact LkNew_good i) (by rw [newW_bot]; exact Nat.le_refl 1) List.length_replicate (no_at n)
    rw [newC_open] at this
    exact this
  obtain ⟨C, hC⟩ : ∃ C, C = newC n seed i := ⟨_, rfl⟩
  rw [← hC] at hop ⊢
  obtain ⟨W, hW⟩ : ∃ W, W = newW n seed i := ⟨_, rfl⟩
  rw [← hW] at hop hnw
  have HOP := Lib.hid hop
  clear hop hf hV hsd hC hW
  go_enter Tryz.func7, Tryz.ntmps7
  go_wp2_with fail
  refine hnw.mono ?_
  rintro e w1 ⟨wl, rfl, ρ1, a, rfl, h1, s1⟩
  clear hnw
  have hop1 := HOP.out ρ1 a w1 s1.fresh h1
  have H1 := Lib.hid s1
  clear h1 s1
  go_wp2_with fail
  refine hop1.mono ?_
  rintro e w2 h2
  clear hop1
  rcases h2 with ⟨_, cc, m, rfl, ρ2, ag, h2, s2⟩ | ⟨h2, _⟩
  · have H2 := Lib.hid (And.intro h2 s2)
    clear h2 s2
    go_wp2_with fail
    go_ret2
    obtain ⟨h2, s2⟩ := H2.out
    have hB := Blk.new w2 59 #[.pointer (some ⟨a.wl, 0, none⟩), .pointer (some ⟨cc, 0, none⟩), .slice none 0 0]
    have q : Below w2.heap.size w2 (w2.alloc (.cells #[.pointer (some ⟨a.wl, 0, none⟩), .pointer (some ⟨cc, 0, none⟩), .slice none 0 0] 59)) := (Below.refl _ _).alloc (Nat.le_refl _) _
    refine ⟨w2.heap.size, rfl, ρ2.set w2.heap.size rBox, a, cc, m, ag, ⟨hB, Rl.set_same _ _ _, h2.keep q.size (fun b hb _ => ⟨q.block b hb, Rl.set_other _ (by omega)⟩)⟩, ?_⟩
    exact ((H1.out.none).trans s2).trans ((Ste.of_below q s2.fresh).label (Nat.le_refl _) hB.lt)
  · exact absurd rfl h2
/-- Refuse, said of the world -/
def Wld.ref (W : Wld) (b : Bool) : Wld := { W with dsk := { W.dsk with refuses := b } }
set_option maxHeartbeats 2000000 in
set_option maxRecDepth 100000 in
theorem refuse_w (ρ : Rl) (p d : Nat) (D : Dsk) (b : Bool) (w : World) (hf : Fresh ρ w) (h : DskR ρ w p d D) :
    Calls Tryz.prog 23 #[.pointer (some ⟨d, 0, none⟩), .bool b] w fun e w' => e = .returned (.tuple #[]) ∧ DskR ρ w' p d { D with refuses := b } ∧ Ste (fun r => r = rDsk) ρ w ρ w' := by
  obtain ⟨vs, vW, vT, T, h1, h2, h3, h4, h5, h6⟩ := h
  have c := h1.cell_ 35 dc35
  have f := h1.frozen 35
  have hl := h1.lt
  have H1 := Lib.hid h1
  clear h1
  go_enter Tryz.func23, Tryz.ntmps23
  go_wp2_with fail
  go_end0
  have hk : ∀ i, ρ i ≠ rDsk → (w.setCell ⟨d, 35, none⟩ (.bool b)).heap[i]? = w.heap[i]? := fun i hi => Below.heap_setCell w _ _ i (fun e => hi (by simp only at e; rw [e]; exact h2))
  have hs : w.heap.size ≤ (w.setCell ⟨d, 35, none⟩ (.bool b)).heap.size := by simp [World.setCell]
  refine ⟨rfl, ⟨vs, vW, vT, T, H1.out.set_to 35 _ (ds35 b), h2, fun k hk' => ⟨(h3 k hk').1.keepR hs (fun i _ e => ⟨hk i (by rw [e]; decide), rfl⟩), (h3 k hk').2⟩, h4.keepR hs (fun i _ e => ⟨hk i (by rcases e with e | e <;> rw [e] <;> decide), rfl⟩), h5.keepR hs (fun i _ e => ⟨hk i (by rcases e with e | e <;> rw [e] <;> decide), rfl⟩), h6⟩, Ste.of_ch (Ch.set_ (p := ⟨d, 35, none⟩) (by simp only; exact h2) _ _) hf⟩
theorem wref_ok (ρ : Rl) (a : Ads) (W : Wld) (b : Bool) (w : World) (hf : Fresh ρ w) (h : WldR ρ w a W) :
    Calls Tryz.prog 23 #[.pointer (some ⟨a.d, 0, none⟩), .bool b] w fun e w' => e = .returned (.tuple #[]) ∧ WldR ρ w' a (W.ref b) ∧ Ste (fun r => r = rDsk) ρ w ρ w' := by
  refine (refuse_w ρ a.p a.d W.dsk b w hf h.2.2.2.2.2.1).mono ?_
  rintro e w1 ⟨rfl, hD, hs⟩
  exact ⟨rfl, h.put_dsk (h.2.2.1.keep (hs.ch.keep _ h.2.2.1.lt (by rw [h.2.2.2.1]; decide))) hD (hs.mono (fun r e => by rw [e]; exact .inr (.inl rfl))), hs⟩
/-- what may turn where a box does an act -/
def rtB (r : Nat) : Prop := rtC r ∨ r = rBox
theorem rtC.b {r : Nat} (h : rtC r) : rtB r := .inl h
end Go.Proofs.YtggmdjdflaglpaaGreat
