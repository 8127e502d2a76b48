/- lockboxtop.TopAgain: the walk, whole. -/
import Derived.Test.YtggmdjdflaglpaaGreatS02
namespace Go.Proofs.YtggmdjdflaglpaaGreat
open Go.RowKit Go.Proofs.YtggmdjdflaglpaaGreat.geo
open Go.Proofs.YtggmdjdflaglpaaGreat.r27 (Str str upd)
set_option linter.unusedVariables false
set_option maxHeartbeats 16000000 in
set_option maxRecDepth 100000 in
theorem tagain_ok (HO : OpenOk) (HS : SumOk) (HT : ShutOk) (lg : Int) (A : Option Addr) (len cap : Nat) (KA : Option Addr) (kn kc : Nat) (ks : List Bool) (w : World) (h : ActXRow w A len) (hl : len ≤ 9223372036854775807) (hkv : HasK (fun _ => True) w (.slice KA kn kc) ks) (hkl : ks.length = kn) (hkm : kn ≤ 9223372036854775807) :
    Calls Tryz.prog 3 #[.int .i64 lg, .slice A len cap, .slice KA kn kc] w fun e w' => e = .returned (.bool true) ∧ Below w.heap.size w w' := by
  have hlo := longx_ok A len cap w h.row hl
  have H := Lib.hid h
  have HK := Lib.hid (And.intro hkv hkl)
  clear h hkv hkl
  by_cases g1 : lg < 2
  · go_enter Tryz.func3, Tryz.ntmps3
    go_wp2_with fail
    go_ret
    exact ⟨rfl, Below.refl _ _⟩
  · by_cases g2 : 4 < lg
    · go_enter Tryz.func3, Tryz.ntmps3
      go_wp2_with fail
      go_ret
      exact ⟨rfl, Below.refl _ _⟩
    · have g3 : lg = 2 ∨ lg = 3 ∨ lg = 4 := by omega
      clear g1 g2
      have hp4 : ∀ W, Calls Tryz.prog 7 #[.int .i64 4, .int .u64 1, .bool true] W (NewP W) := fun W => new_p HO HS HT 4 (by unfold V; omega) W
      have hp8 : ∀ W, Calls Tryz.prog 7 #[.int .i64 8, .int .u64 1, .bool true] W (NewP W) := fun W => new_p HO HS HT 8 (by unfold V; omega) W
      have hp16 : ∀ W, Calls Tryz.prog 7 #[.int .i64 16, .int .u64 1, .bool true] W (NewP W) := fun W => new_p HO HS HT 16 (by unfold V; omega) W
      rcases g3 with rfl | rfl | rfl
      all_goals
        go_enter Tryz.func3, Tryz.ntmps3
        go_wp2_with fail
        refine hlo.mono ?_
        rintro e w1 ⟨lb, rfl, hlb, q1⟩
        clear hlo
        cases lb with
        | true =>
          go_wp2_with fail
          go_ret
          exact ⟨rfl, q1⟩
        | false =>
          by_cases gk : (50 : Int) < (kn : Int)
          · go_wp2_with fail
            go_ret
            exact ⟨rfl, q1⟩
          · obtain ⟨hl200, hkn⟩ := hlb rfl
            have hk50 : kn ≤ 50 := by omega
            have HKN := Lib.hid (And.intro hkn hk50)
            clear hlb hkn
            go_wp2_with fail
            first
              | (with_reducible refine (hp4 _).mono ?_)
              | (with_reducible refine (hp8 _).mono ?_)
              | (with_reducible refine (hp16 _).mono ?_)
            rintro e w2 ⟨bx, rfl, ρ1, a, S0, hB2, s2, hrs2, hrf2⟩
            clear hp4 hp8 hp16
            have h0 : Rga w bx a 0 w2 ρ1 S0 := ⟨⟨hB2, fun b hb => s2.old b (Nat.lt_of_lt_of_le hb q1.size), s2.fresh, q1.trans ((s2.below (Nat.le_refl _) (fun _ _ => rtC0)).mono q1.size)⟩, hrs2, hrf2⟩
            have H3 := Lib.hid h0
            clear q1 hB2 s2 hrs2 hrf2 h0
            go_wp2_with fail
            go_loopw [9] (fun t wr => ∃ i : Nat, t = .int .i64 i ∧ i ≤ len ∧ ∃ ρr S, Rga w bx a i wr ρr S) (fun t _ => len - (intOf t).toNat)
            case atStart => exact ⟨0, rfl, by omega, _, _, H3.out⟩
            case round =>
              obtain ⟨i, rfl, hi, ρr, S, hr⟩ := hrel
              by_cases hlt : i < len
              · rcases H.out with hz | ⟨b, off, rfl, hb, hx⟩
                · omega
                · obtain ⟨x, ks', hx⟩ := hx i hlt
                  have hk100 := HKN.out.1 b off rfl i hlt x hx.at_
                  have m0 : (0 : Int) ≤ (i : Int) := by omega
                  have m1 : (i : Int) < (len : Int) := by omega
                  have hxr := hx.below_ hb hr.r.bel
                  obtain ⟨k, kd, l, N, F, data, V, vn, vc, D, dn, dc, K, kn', kc'⟩ := x
                  obtain ⟨c0, c1, c2, c3, c4, c5, c6, c7⟩ := s8 hxr.at_
                  have lb := Nat.lt_of_lt_of_le hb hr.r.bel.size
                  have hfoe := foe_ok k kd l N F V D K vn dn kn' vc dc kc'
                  have HR := Lib.hid (And.intro hr (And.intro hx hk100))
                  by_cases kf : k = 4 ∨ k = 6
                  · have hdf : decide (k = 4 ∨ k = 6) = true := by simpa using kf
                    rw [hdf] at hfoe
                    clear hr hx hxr hk100
                    go_wp2_with fail
                    refine (hfoe _).mono ?_
                    rintro e w5 ⟨rfl, q5⟩
                    have HQ := Lib.hid q5
                    clear c0 c1 c2 c3 c4 c5 c6 c7 hfoe q5
                    go_wp2_with fail
                    go_roundw
                    case rel => exact ⟨i + 1, by go_num, by omega, _, _, HR.out.1.next HQ.out⟩
                    case measure => simp [intOf]; omega
                  · have hdf : decide (k = 4 ∨ k = 6) = false := by simpa using kf
                    rw [hdf] at hfoe
                    have k4 : k ≠ 4 := fun c => kf (.inl c)
                    have k6 : k ≠ 6 := fun c => kf (.inr c)
                    have HKF := Lib.hid (And.intro k4 k6)
                    clear hr hx hxr hk100 kf hdf k4 k6
                    go_wp2_with fail
                    refine (hfoe _).mono ?_
                    rintro e w5 ⟨rfl, q5⟩
                    clear c0 c1 c2 c3 c4 c5 c6 c7 hfoe lb
                    have bel5 := HR.out.1.r.bel.trans (q5.mono HR.out.1.r.bel.size)
                    obtain ⟨c0, c1, c2, c3, c4, c5, c6, c7⟩ := s8 (HR.out.2.1.below_ hb bel5).at_
                    have lb := Nat.lt_of_lt_of_le hb bel5.size
                    have HQ := Lib.hid q5
                    clear q5 bel5
                    by_cases k7 : k = 7
                    · subst k7
                      go_wp2_with fail
                      go_roundw
                      case rel => exact ⟨i + 1, by go_num, by omega, _, _, HR.out.1.next HQ.out⟩
                      case measure => simp [intOf]; omega
                    · have hcall : Calls Tryz.prog 9 #[.pointer (some ⟨bx, 0, none⟩), .agg #[.int .i64 k, .int .i64 kd, .int .i64 l, .slice V vn vc, .int .i64 N, .int .i64 F, .slice D dn dc, .slice K kn' kc']] w5 fun e w' => ∃ er A n c, e = .returned (.agg #[.int .i64 er, .slice A n c]) ∧ ∃ ρ' S', Rga w bx a (i + 1) w' ρ' S' :=
                        Rga.act HO HS HT (i := i) ⟨HR.out.1.r.below_ HQ.out, HR.out.1.rs, HR.out.1.rf⟩ HR.out.2.1 (by omega) HKF.out.1 HKF.out.2 k7 HR.out.2.2
                      go_wp2_with fail
                      refine hcall.mono ?_
                      rintro e w6 ⟨er, A6, n6, c6', rfl, ρ6, S6, hr6⟩
                      have HR6 := Lib.hid hr6
                      clear hcall c0 c1 c2 c3 c4 c5 c6 c7 hr6 lb
                      go_wp2_with fail
                      go_roundw
                      case rel => exact ⟨i + 1, by go_num, by omega, _, _, HR6.out⟩
                      case measure => simp [intOf]; omega
              · have hin : i = len := by omega
                subst hin
                have hc1 := hr.r.crash HO HS HT KA kn kc ks (fun S' => S'.mid 28135 16) (Rs.may (k := 28001) (t := 216) (hr.rs.mono (by omega) (by omega)) (by omega)) (by omega) (by omega) HK.out.1 HK.out.2 (by have := HKN.out.2; omega) (again_first (k := 28001) (t := 216) (hr.rs.mono (by omega) (by omega)) hr.rf (by omega) (by omega) 0 0 0 [] ks)
                clear hr
                go_wp2_with fail
                refine hc1.mono ?_
                rintro e w3 ⟨A3, c3, rfl, ρ3, S3, hr3, hm3, kp3⟩
                clear hc1
                have hc2 := hr3.crash HO HS HT KA kn kc ks (fun S' => ∃ B, S'.q B 28169 16) hm3.may (by omega) (by omega) HK.out.1 HK.out.2 (by have := HKN.out.2; omega) (again_second hm3 (by omega) 0 0 0 [] ks)
                have hf38 := fun W => field38 (.int .i64 0) (.slice A3 0 c3) W
                clear hr3 hm3 kp3
                go_wp2_with fail
                refine hc2.mono ?_
                rintro e w4 ⟨A4, c4, rfl, ρ4, S4, hr4, ⟨B, hq4⟩, kp4⟩
                clear hc2 hf38
                have hf38 := fun W => field38 (.int .i64 0) (.slice A4 0 c4) W
                have H4 := Lib.hid (And.intro hr4 hq4)
                clear hr4 hq4 kp4
                go_wp2_with fail
                go_loopw [11] (fun t wr => ∃ i : Nat, t = .int .i64 i ∧ i ≤ 32 ∧ ∃ ρr S N, Rag w bx a wr ρr S ∧ S.q B (28169 + 3 * i) (16 + i) ∧ WasR wr w4.heap.size N ∧ ρr w4.heap.size = 0 ∧ ∀ j, j < i → N j = B j) (fun t _ => 32 - (intOf t).toNat)
                case atStart =>
                  obtain ⟨hr4, hq4⟩ := H4.out
                  exact ⟨0, rfl, by omega, ρ4, S4, fun _ => [], hr4.below_ ((Below.refl _ _).alloc (Nat.le_refl _) _), hq4, Blk.new _ _ _, hr4.fresh _ (Nat.le_refl _), fun j hj => absurd hj (Nat.not_lt_zero j)⟩
                case round =>
                  obtain ⟨i, rfl, hi, ρr, S, N, hr, hq, hg, hg0, hN⟩ := hrel
                  have hge : w.heap.size ≤ w4.heap.size := H4.out.1.bel.size
                  obtain ⟨g, hgg⟩ : ∃ g, g = w4.heap.size := ⟨_, rfl⟩
                  rw [← hgg] at hg hg0 hge ⊢
                  have HGG := Lib.hid hgg
                  clear hgg
                  have m0 : (0 : Int) ≤ (i : Int) := by omega
                  by_cases hlt : i < 32
                  · have m1 : (i : Int) < 32 := by omega
                    have HZ := Lib.hid (And.intro hr (And.intro hq (And.intro hg (And.intro hg0 hN))))
                    clear hr hq hg hg0 hN
                    go_wp2_with fail
                    refine (tcall_ok 1 i none 0 0 wr).mono ?_
                    rintro e w5 ⟨rfl, q5⟩
                    have hread := (HZ.out.1.below_ q5).read HO HS HT (x := i) HZ.out.2.1 hlt (by omega) (by omega)
                    have HQ5 := Lib.hid q5
                    clear q5
                    go_wp2_with fail
                    refine hread.mono ?_
                    rintro e w6 ⟨A6, c6, rfl, ρ6, S6, hv6, hr6, hq6, kp6⟩
                    clear hread
                    obtain ⟨hg6, hz6⟩ := (HZ.out.2.2.1.below_ HQ5.out).kp kp6 HZ.out.2.2.2.1
                    have q7 : Below w6.heap.size w6 (w6.alloc (.cells #[.int .i64 0, .slice A6 32 c6] 38)) := (Below.refl _ _).alloc (Nat.le_refl _) _
                    have hg7 := hg6.alloc (.cells #[.int .i64 0, .slice A6 32 c6] 38)
                    have k1 := conv_hp (hv6.below_ q7)
                    have cg := hg7.at_ hlt
                    have cf := Blk.frozen hg7 i
                    have cl := Blk.lt hg6
                    have ne6 : w6.heap.size ≠ g := by omega
                    have H7 := Lib.hid (And.intro hr6 (And.intro hq6 (And.intro hg6 hz6)))
                    clear hv6 hr6 hq6 kp6 hg6 hz6 q7 hg7
                    go_wp2_with fail
                    go_roundw
                    case rel =>
                      refine ⟨i + 1, by go_num, by omega, ρ6, S6, upd N i (B i), (H7.out.1.set H7.out.2.2.2 hge i _).below_ ((Below.refl _ _).alloc (Nat.le_refl _) _), H7.out.2.1.mono_ (by omega) (by omega), (H7.out.2.2.1.store hlt _).alloc _, H7.out.2.2.2, fun j hj => ?_⟩
                      by_cases c : j = i
                      · subst c; exact upd_eq _ _ _
                      · rw [upd_ne _ _ c]; exact HZ.out.2.2.2.2 j (by omega)
                    case measure => simp [intOf]; omega
                  · have hin : i = 32 := by omega
                    subst hin
                    have hc3 := hr.crash HO HS HT none 0 0 [] (fun S' => S'.q B 28299 16) hq.may (by omega) (by omega) (hask_nil w) rfl (by omega) (again_third hq (by omega) 0 0 0 [] [])
                    have HZ := Lib.hid (And.intro hg (And.intro hg0 hN))
                    clear hr hq hg hg0 hN
                    go_wp2_with fail
                    refine hc3.mono ?_
                    rintro e w5 ⟨A5, c5, rfl, ρ5, S5, hr5, hq5, kp5⟩
                    clear hc3 hf38
                    have hf38 := fun W => field38 (.int .i64 0) (.slice A5 0 c5) W
                    obtain ⟨hg5, hz5⟩ := HZ.out.1.kp kp5 HZ.out.2.1
                    have H5 := Lib.hid (And.intro hr5 (And.intro hq5 (And.intro hg5 hz5)))
                    clear hr5 hq5 kp5 hg5 hz5
                    go_wp2_with fail
                    go_loopw [13] (fun t wr => ∃ i : Nat, t = .int .i64 i ∧ i ≤ 32 ∧ ∃ ρr S, Rag w bx a wr ρr S ∧ S.q B (28299 + 3 * i) (16 + i) ∧ WasR wr g N ∧ ρr g = 0) (fun t _ => 32 - (intOf t).toNat)
                    case atStart => exact ⟨0, rfl, by omega, ρ5, S5, H5.out⟩
                    case round =>
                      obtain ⟨i, rfl, hi, ρr, S, hr, hq, hg, hg0⟩ := hrel
                      have m0 : (0 : Int) ≤ (i : Int) := by omega
                      by_cases hlt : i < 32
                      · have m1 : (i : Int) < 32 := by omega
                        have hlen := hq.len hlt
                        obtain ⟨l, hll⟩ : ∃ l, l = B i := ⟨_, rfl⟩
                        have hNi : i < 32 ∧ N i = l := ⟨hlt, by rw [hll]; exact HZ.out.2.2 i hlt⟩
                        have hread : ∀ W, Below wr.heap.size wr W → Calls Tryz.prog 9 #[.pointer (some ⟨bx, 0, none⟩), .agg #[.int .i64 1, .int .i64 1, .int .i64 i, .slice none 0 0, .int .i64 0, .int .i64 0, .slice none 0 0, .slice none 0 0]] W (fun e w' => ∃ A c, e = .returned (.agg #[.int .i64 0, .slice A 32 c]) ∧ ∃ ρ' S', HasP (ρ' · = 0) w' (.slice A 32 c) l ∧ Rag w bx a w' ρ' S' ∧ S'.q B (28299 + 3 * i + 3) (16 + i + 1) ∧ Kp ρr W ρ' w') := fun W q => by
                          rw [hll]
                          exact (hr.below_ q).read HO HS HT hq hlt (by omega) (by omega)
                        rw [← hll] at hlen
                        have hconv := conv_b l hlen
                        have HC10 := Lib.hid (fun (W : World) (q : Below wr.heap.size wr W) => tcall_ok 1 i none 0 0 W)
                        have HC9 := Lib.hid hread
                        have HL := Lib.hid hlen
                        have HNi := Lib.hid hNi
                        have cg := hg.cell0 hNi
                        have lg := Blk.lt hg
                        have HR := Lib.hid (And.intro hr (And.intro hq (And.intro hg hg0)))
                        clear hll hNi hlen hread hr hq hg hg0 hf38
                        go_wp2_with fail
                        go_region_law
                          (first
                            | (go_simp; go_at_call 11; (with_reducible refine (tsame_ok 0 A6 _ 32 32 c6 _ l w6 (Cv.hasp hv6) (Cv.has hcv6)).mono ?_); rintro e w7 ⟨rfl, q7⟩; have hr7 := hr6.below_ q7; have hg7 : WasR w7 g N := hg6.below_ q7)
                            | (go_simp; go_at_call 11; (with_reducible refine (tsame_ok 0 A6 _ 32 32 c6 _ l (w6.alloc (brow w6 l)).drew (Cv.hasp (hv6.below_ ((Below.refl _ _).alloc (Nat.le_refl _) _).drew)) (Cv.has (has_b l HL.out w6).drew)).mono ?_); rintro e w7 ⟨rfl, q7⟩; have q7b := (((Below.refl _ w6).alloc (Nat.le_refl _) (brow w6 l)).drew).trans (q7.mono (Nat.le_trans (Nat.le_succ _) (by simp))); have hr7 := hr6.below_ q7b; have hg7 : WasR w7 g N := hg6.below_ q7b)
                            | (go_simp; go_at_call 9; have hcv5' := hcv5; (with_reducible refine (HC9.out w5 q5).mono ?_); rintro e w6 ⟨A6, c6, rfl, ρ6, S6, hv6, hr6, hq6, kp6⟩; have hg6 : WasR w6 g N := (hg5.kp kp6 HR.out.2.2.2).1; have hz6 := (hg5.kp kp6 HR.out.2.2.2).2; have hcv6 := has_kp hcv5 kp6 (HR.out.1.fresh _ (Nat.le_refl _)))
                            | (go_simp; go_at_call 9; (with_reducible refine (HC9.out (w5.alloc (brow w5 l)).drew (q5.alloc q5.size _).drew).mono ?_); rintro e w6 ⟨A6, c6, rfl, ρ6, S6, hv6, hr6, hq6, kp6⟩; have hg6 : WasR w6 g N := ((hg5.alloc (brow w5 l)).drew.kp kp6 HR.out.2.2.2).1; have hz6 := ((hg5.alloc (brow w5 l)).drew.kp kp6 HR.out.2.2.2).2; have hcv6 := has_kp (has_b l HL.out w5).drew kp6 (HR.out.1.fresh _ q5.size))
                            | (go_simp; go_at_call 9; (with_reducible refine (HC9.out w5 q5).mono ?_); rintro e w6 ⟨A6, c6, rfl, ρ6, S6, hv6, hr6, hq6, kp6⟩; have hg6 : WasR w6 g N := (hg5.kp kp6 HR.out.2.2.2).1; have hz6 := (hg5.kp kp6 HR.out.2.2.2).2; replace cg := hg6.cell0 HNi.out)
                            | (go_simp; go_at_call 10; (with_reducible refine (HC10.out _ (Below.refl _ _).drew).mono ?_); rintro e w5 ⟨rfl, q5'⟩; have q5 : Below wr.heap.size wr w5 := ((Below.refl _ wr).drew).trans q5'; have hg5 : WasR w5 g N := HR.out.2.2.1.below_ q5; replace cg := hg5.cell0 HNi.out)
                            | (go_simp; go_at_call 10; (with_reducible refine (HC10.out _ (((Below.refl _ _).alloc (Nat.le_refl _) _).drew.drew)).mono ?_); rintro e w5 ⟨rfl, q5'⟩; have q5 : Below wr.heap.size wr w5 := (((Below.refl _ wr).alloc (Nat.le_refl _) (brow wr.drew l)).drew.drew).trans (q5'.mono (by simp)); have hg5 : WasR w5 g N := HR.out.2.2.1.below_ q5; have hcv5 : r27.Has w5 (.slice (some ⟨wr.heap.size, 0, none⟩) 32 (bcap wr.drew l)) l := (show r27.Has _ _ l from has_b l HL.out wr.drew).drew.below q5'; replace cg := hg5.cell0 HNi.out))
                        all_goals
                          have HF := Lib.hid (And.intro hr7 (And.intro (hq6.mono_ (k' := 28299 + 3 * (i + 1)) (t' := 16 + (i + 1)) (by omega) (by omega)) (And.intro hg7 hz6)))
                          clear hr7 hq6 hg7 hz6 cg hconv
                          go_wp2_with fail
                          go_roundw
                          case rel => exact ⟨i + 1, by go_num, by omega, _, _, HF.out⟩
                          case measure => simp [intOf]; omega
                      · have hin : i = 32 := by omega
                        subst hin
                        have hkn := tknown_ok HO HS HT wr
                        have HB := Lib.hid hr.bel
                        clear hr hq hg hg0 hf38
                        go_wp2_with fail
                        refine hkn.mono ?_
                        rintro e w9 ⟨rfl, q9⟩
                        have q := HB.out.trans (q9.mono HB.out.size)
                        have HQ := Lib.hid q
                        clear hkn q q9
                        go_wp2_with fail
                        go_ret
                        exact ⟨rfl, HQ.out⟩
end Go.Proofs.YtggmdjdflaglpaaGreat
