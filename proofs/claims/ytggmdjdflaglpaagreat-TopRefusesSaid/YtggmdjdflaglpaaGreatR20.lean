/- The contracts of the places: the program's and the reference's. -/
import Derived.Test.YtggmdjdflaglpaaGreatR01
import Derived.BigRegion
import Derived.Deep.QuietTactic
import Derived.BigQuiet
import Derived.Deep.RegionHeld3
namespace Go.Proofs.YtggmdjdflaglpaaGreat.geo
open Go.RowKit
set_option linter.unusedVariables false
def V (n:Int):Prop:=n=4\/n=8\/n=16
theorem is_yes (n:Int) (w:World) (h:V n):Calls Tryz.prog 26 #[.int .i64 n] w fun e w'=>e=.returned (.bool true)/\w=w':=by
 rcases h with rfl|rfl|rfl
 all_goals
  go_enter Tryz.func26,Tryz.ntmps26
  go_wp2
  go_ret
  exact⟨rfl,rfl⟩
theorem is_no (n:Int) (w:World) (h:¬V n):Calls Tryz.prog 26 #[.int .i64 n] w fun e w'=>e=.returned (.bool false)/\w=w':=by
 have h1:(n == 4)=false:=by unfold V at h;simp;omega
 have h2:(n == 8)=false:=by unfold V at h;simp;omega
 have h3:(n == 16)=false:=by unfold V at h;simp;omega
 clear h
 go_enter Tryz.func26,Tryz.ntmps26
 go_wp2
 go_ret
 exact⟨rfl,rfl⟩
theorem among_yes (n i m:Int) (w:World) (h:V n) (h0:0<=i) (h1:i<m):
 Calls Tryz.prog 94 #[.agg #[.int .i64 n],.int .i64 i,.int .i64 m] w fun e w'=>e=.returned (.bool true)/\Below w.heap.size w w':=by
 have H:=Lib.hid h;clear h
 go_enter Tryz.func94,Tryz.ntmps94
 go_wp2_with fail
 refine(is_yes n _ H.out).mono ?_
 rintro e w1 ⟨rfl,rfl⟩
 go_wp2_with fail
 go_ret
 exact⟨rfl,(Below.refl _ _).alloc (Nat.le_refl _) _⟩
theorem among_no (n i m:Int) (w:World) (h:¬(V n/\0<=i/\i<m)):
 Calls Tryz.prog 94 #[.agg #[.int .i64 n],.int .i64 i,.int .i64 m] w fun e w'=>e=.returned (.bool false)/\Below w.heap.size w w':=by
 by_cases hv:V n
 ·have hc:i<0\/(0<=i/\m<=i):=by
   by_cases c:i<0
   ·exact .inl c
   ·refine .inr ⟨by omega,?_⟩
    by_cases d:i<m
    ·exact absurd ⟨hv,by omega,d⟩ h
    ·omega
  clear h
  have H:=Lib.hid hv;clear hv
  rcases hc with h|⟨h,h1⟩
  all_goals
   have h2:0<=i->decide (i<m)=false:=by intro _;simp;omega
   try have h3:=h2 h
   clear h2
   go_enter Tryz.func94,Tryz.ntmps94
   go_wp2_with fail
   refine(is_yes n _ H.out).mono ?_
   rintro e w1 ⟨rfl,rfl⟩
   go_wp2_with fail
   go_ret
   exact⟨rfl,(Below.refl _ _).alloc (Nat.le_refl _) _⟩
 ·clear h
  have H:=Lib.hid hv;clear hv
  go_enter Tryz.func94,Tryz.ntmps94
  go_wp2_with fail
  refine(is_no n _ H.out).mono ?_
  rintro e w1 ⟨rfl,rfl⟩
  go_wp2_with fail
  go_ret
  exact⟨rfl,(Below.refl _ _).alloc (Nat.le_refl _) _⟩
theorem area_ok (n:Int) (w:World) (h:V n):Calls Tryz.prog 95 #[.agg #[.int .i64 n]] w fun e w'=>e=.returned (.int .i64 (n*64))/\Below w.heap.size w w':=by
 have h0:4<=n/\n<=16:=by unfold V at h;omega
 clear h
 go_enter Tryz.func95,Tryz.ntmps95
 go_wp2
 go_ret
 exact⟨rfl,(Below.refl _ _).alloc (Nat.le_refl _) _⟩
theorem data_ok (n i:Int) (w:World) (h:V n) (h0:0<=i) (h1:i<n):
 Calls Tryz.prog 150 #[.agg #[.int .i64 n],.int .i64 i] w fun e w'=>e=.returned (.int .i64 (i*32))/\Below w.heap.size w w':=by
 have hn:4<=n/\n<=16:=by unfold V at h;omega
 have H:=Lib.hid h;clear h
 go_enter Tryz.func150,Tryz.ntmps150
 go_wp2_with fail
 refine(among_yes n i n _ H.out h0 h1).mono ?_
 rintro e w2 ⟨rfl,hb2⟩
 go_wp2_with fail
 go_ret
 exact⟨rfl,((Below.refl _ _).alloc (Nat.le_refl _) _).trans (hb2.mono (by simp))⟩
theorem data_no (n i:Int) (w:World) (h:¬(V n/\0<=i/\i<n)):
 Calls Tryz.prog 150 #[.agg #[.int .i64 n],.int .i64 i] w fun e w'=>e=.returned (.int .i64 (-1))/\Below w.heap.size w w':=by
 have H:=Lib.hid h;clear h
 go_enter Tryz.func150,Tryz.ntmps150
 go_wp2_with fail
 refine(among_no n i n _ H.out).mono ?_
 rintro e w2 ⟨rfl,hb2⟩
 go_wp2_with fail
 go_ret
 exact⟨rfl,((Below.refl _ _).alloc (Nat.le_refl _) _).trans (hb2.mono (by simp))⟩
theorem wr_in (x:Int) (h:-9223372036854775808<=x) (h':x<=9223372036854775807):IntKind.i64.wrap x=x:=IntWalk.i64_in _ ⟨h,h'⟩
theorem an_bd {n a:Int}(hn:4<=n/\n<=16) (a0:0<=a) (a1:a<2):0<=a*(n*64)/\a*(n*64)<=1024:=by
 rcases(by omega:a=0\/a=1)with rfl|rfl<;>omega
theorem leaf_ok (n a i:Int) (w:World) (h:V n) (h0:0<=i) (h1:i<n) (ha0:0<=a) (ha1:a<2):
 Calls Tryz.prog 100 #[.agg #[.int .i64 n],.int .i64 a,.int .i64 i] w fun e w'=>e=.returned (.int .i64 (n*32+a*(n*64)+i*32))/\Below w.heap.size w w':=by
 have hn:4<=n/\n<=16:=by unfold V at h;omega
 have e1:=an_bd hn ha0 ha1
 have H:=Lib.hid h;clear h
 go_enter Tryz.func100,Tryz.ntmps100
 go_wp2_with fail
 refine(among_yes n a 2 _ H.out ha0 ha1).mono ?_
 rintro e w2 ⟨rfl,hb2⟩
 have hs2:=hb2.size
 have c2:w2.cell? ⟨w.heap.size,0,none⟩=some (.int .i64 n):=(hb2.cell (by simp)).trans (by simp)
 have bel2:Below w.heap.size w w2:=((Below.refl _ _).alloc (Nat.le_refl _) _).trans (hb2.mono (by simp))
 simp only[World.size_alloc]at hs2
 clear hb2
 go_wp2_with fail
 refine(among_yes n i n _ H.out h0 h1).mono ?_
 rintro e w3 ⟨rfl,hb3⟩
 have hs3:=hb3.size
 have c3:w3.cell? ⟨w.heap.size,0,none⟩=some (.int .i64 n):=(hb3.cell (by simp;omega)).trans c2
 have bel3:Below w.heap.size w w3:=bel2.trans (hb3.mono (by omega))
 clear hb3 bel2 c2
 go_wp2_with fail
 go_region_held3 (fun w'=>w'.cell? ⟨w.heap.size,0,none⟩=some (.int .i64 n)/\Below w.heap.size w w'/\w.heap.size<w'.heap.size)
  (first|exact⟨c3,bel3.drew,(by simp;omega)⟩|exact⟨(hb4.cell (by simp;omega)).trans c3,bel3.drew.trans (hb4.mono (by simp;omega)),(by have:=hb4.size;simp at this;omega)⟩)
  (first|(go_at_call 95;refine(area_ok n _ H.out).mono ?_;rintro e w4 ⟨rfl,hb4⟩))
 rw[wr_in (n*32) (by omega) (by omega),wr_in (a*(n*64)) (by omega) (by omega),wr_in (i*32) (by omega) (by omega),wr_in (n*32+a*(n*64)) (by omega) (by omega),wr_in (n*32+a*(n*64)+i*32) (by omega) (by omega)]
 go_wp2_with fail
 go_ret
 exact⟨rfl,bel3.drew.trans (hb4.mono (by simp;omega))⟩
theorem leaf_no (n a i:Int) (w:World) (h:¬(V n/\(0<=a/\a<2)/\0<=i/\i<n)):
 Calls Tryz.prog 100 #[.agg #[.int .i64 n],.int .i64 a,.int .i64 i] w fun e w'=>e=.returned (.int .i64 (-1))/\Below w.heap.size w w':=by
 by_cases c:V n/\0<=a/\a<2
 ·have H2:Hid (¬(V n/\0<=i/\i<n)):=Lib.hid (fun d=>h ⟨d.1,c.2,d.2⟩)
  have H1:=Lib.hid c.1
  have a0:=c.2.1
  have a1:=c.2.2
  clear h c
  go_enter Tryz.func100,Tryz.ntmps100
  go_wp2_with fail
  refine(among_yes n a 2 _ H1.out a0 a1).mono ?_
  rintro e w2 ⟨rfl,hb2⟩
  have hs2:=hb2.size
  have c2:w2.cell? ⟨w.heap.size,0,none⟩=some (.int .i64 n):=(hb2.cell (by simp)).trans (by simp)
  have bel2:Below w.heap.size w w2:=((Below.refl _ _).alloc (Nat.le_refl _) _).trans (hb2.mono (by simp))
  simp only[World.size_alloc]at hs2
  clear hb2
  go_wp2_with fail
  refine(among_no n i n _ H2.out).mono ?_
  rintro e w3 ⟨rfl,hb3⟩
  go_wp2_with fail
  go_ret
  exact⟨rfl,bel2.trans (hb3.mono (by omega))⟩
 ·have H:=Lib.hid c
  clear h c
  go_enter Tryz.func100,Tryz.ntmps100
  go_wp2_with fail
  refine(among_no n a 2 _ H.out).mono ?_
  rintro e w2 ⟨rfl,hb2⟩
  go_wp2_with fail
  go_ret
  exact⟨rfl,((Below.refl _ _).alloc (Nat.le_refl _) _).trans (hb2.mono (by simp))⟩
theorem behind_ok (n a:Int) (w:World) (h:V n) (ha0:0<=a) (ha1:a<2):
 Calls Tryz.prog 185 #[.agg #[.int .i64 n],.func (.func 100) #[] #[],.int .i64 a] w fun e w'=>e=.returned (.int .i64 (n*32+a*(n*64)+n*32))/\Below w.heap.size w w':=by
 have hn:4<=n/\n<=16:=by unfold V at h;omega
 have H:=Lib.hid h;clear h
 have e0:n*32+a*(n*64)+(n-1)*32+32=n*32+a*(n*64)+n*32:=by omega
 have e1:0<=a*(n*64)/\a*(n*64)<=1024:=an_bd hn ha0 ha1
 have E0:=Lib.hid e0;clear e0
 go_enter Tryz.func185,Tryz.ntmps185
 go_wp2_with fail
 refine(leaf_ok n a (n-1) _ H.out (by omega) (by omega) ha0 ha1).mono ?_
 rintro e w2 ⟨rfl,hb2⟩
 go_wp2_with fail
 rw[E0.out]
 go_ret
 exact⟨rfl,((Below.refl _ _).alloc (Nat.le_refl _) _).trans (hb2.mono (by simp))⟩
theorem node_ok (n a i:Int) (w:World) (h:V n) (h0:0<=i) (h1:i<2*n) (ha0:0<=a) (ha1:a<2):
 Calls Tryz.prog 181 #[.agg #[.int .i64 n],.int .i64 a,.int .i64 i] w fun e w'=>e=.returned (.int .i64 (n*32+a*(n*64)+n*32+i*16))/\Below w.heap.size w w':=by
 have hn:4<=n/\n<=16:=by unfold V at h;omega
 have e1:=an_bd hn ha0 ha1
 have H:=Lib.hid h;clear h
 go_enter Tryz.func181,Tryz.ntmps181
 go_wp2_with fail
 refine(among_yes n a 2 _ H.out ha0 ha1).mono ?_
 rintro e w2 ⟨rfl,hb2⟩
 have hs2:=hb2.size
 have c2:w2.cell? ⟨w.heap.size,0,none⟩=some (.int .i64 n):=(hb2.cell (by simp)).trans (by simp)
 have bel2:Below w.heap.size w w2:=((Below.refl _ _).alloc (Nat.le_refl _) _).trans (hb2.mono (by simp))
 simp only[World.size_alloc]at hs2
 clear hb2
 go_wp2_with fail
 refine(among_yes n i (2*n) _ H.out h0 h1).mono ?_
 rintro e w3 ⟨rfl,hb3⟩
 have hs3:=hb3.size
 have c3:w3.cell? ⟨w.heap.size,0,none⟩=some (.int .i64 n):=(hb3.cell (by simp;omega)).trans c2
 have bel3:Below w.heap.size w w3:=bel2.trans (hb3.mono (by omega))
 clear hb3 bel2 c2
 go_wp2_with fail
 refine(behind_ok n a _ H.out ha0 ha1).mono ?_
 rintro e w4 ⟨rfl,hb4⟩
 go_wp2_with fail
 go_ret
 exact⟨rfl,bel3.trans (hb4.mono (by omega))⟩
theorem node_no (n a i:Int) (w:World) (hl:-9223372036854775808<=n/\n<=9223372036854775807) (h:¬(V n/\(0<=a/\a<2)/\0<=i/\i<2*n)):
 Calls Tryz.prog 181 #[.agg #[.int .i64 n],.int .i64 a,.int .i64 i] w fun e w'=>e=.returned (.int .i64 (-1))/\Below w.heap.size w w':=by
 by_cases c:V n/\0<=a/\a<2
 ·have H2:Hid (¬(V n/\0<=i/\i<2*n)):=Lib.hid (fun d=>h ⟨d.1,c.2,d.2⟩)
  have hn:4<=n/\n<=16:=by have:=c.1;unfold V at this;omega
  have H1:=Lib.hid c.1
  have a0:=c.2.1
  have a1:=c.2.2
  clear h c
  go_enter Tryz.func181,Tryz.ntmps181
  go_wp2_with fail
  refine(among_yes n a 2 _ H1.out a0 a1).mono ?_
  rintro e w2 ⟨rfl,hb2⟩
  have hs2:=hb2.size
  have c2:w2.cell? ⟨w.heap.size,0,none⟩=some (.int .i64 n):=(hb2.cell (by simp)).trans (by simp)
  have bel2:Below w.heap.size w w2:=((Below.refl _ _).alloc (Nat.le_refl _) _).trans (hb2.mono (by simp))
  simp only[World.size_alloc]at hs2
  clear hb2
  go_wp2_with fail
  refine(among_no n i (2*n) _ H2.out).mono ?_
  rintro e w3 ⟨rfl,hb3⟩
  go_wp2_with fail
  go_ret
  exact⟨rfl,bel2.trans (hb3.mono (by omega))⟩
 ·have H:=Lib.hid c
  clear h c
  go_enter Tryz.func181,Tryz.ntmps181
  go_wp2_with fail
  refine(among_no n a 2 _ H.out).mono ?_
  rintro e w2 ⟨rfl,hb2⟩
  go_wp2_with fail
  go_ret
  exact⟨rfl,((Below.refl _ _).alloc (Nat.le_refl _) _).trans (hb2.mono (by simp))⟩
theorem rec_ok (n i:Int) (w:World) (h:V n) (h0:0<=i) (h1:i<2):
 Calls Tryz.prog 60 #[.agg #[.int .i64 n],.int .i64 i] w fun e w'=>e=.returned (.int .i64 (n*32+2*(n*64)+i*60))/\Below w.heap.size w w':=by
 have hn:4<=n/\n<=16:=by unfold V at h;omega
 have H:=Lib.hid h;clear h
 go_enter Tryz.func60,Tryz.ntmps60
 go_wp2_with fail
 refine(among_yes n i 2 _ H.out h0 h1).mono ?_
 rintro e w3 ⟨rfl,hb3⟩
 have hs3:=hb3.size
 have c3:w3.cell? ⟨w.heap.size,0,none⟩=some (.int .i64 n):=(hb3.cell (by simp)).trans (by simp)
 have bel3:Below w.heap.size w w3:=((Below.refl _ _).alloc (Nat.le_refl _) _).trans (hb3.mono (by simp))
 simp only[World.size_alloc]at hs3
 clear hb3
 go_wp2_with fail
 go_region_held3 (fun w'=>w'.cell? ⟨w.heap.size,0,none⟩=some (.int .i64 n)/\Below w.heap.size w w'/\w.heap.size<w'.heap.size)
  (first|exact⟨c3,bel3.drew,(by simp;omega)⟩|exact⟨(hb4.cell (by simp;omega)).trans c3,bel3.drew.trans (hb4.mono (by simp;omega)),(by have:=hb4.size;simp at this;omega)⟩)
  (first|(go_at_call 95;refine(area_ok n _ H.out).mono ?_;rintro e w4 ⟨rfl,hb4⟩))
 rw[wr_in (n*32) (by omega) (by omega),wr_in (2*(n*64)) (by omega) (by omega),wr_in (i*60) (by omega) (by omega),wr_in (n*32+2*(n*64)) (by omega) (by omega),wr_in (n*32+2*(n*64)+i*60) (by omega) (by omega)]
 go_wp2_with fail
 go_ret
 exact⟨rfl,bel3.drew.trans (hb4.mono (by simp;omega))⟩
theorem rec_no (n i:Int) (w:World) (h:¬(V n/\0<=i/\i<2)):
 Calls Tryz.prog 60 #[.agg #[.int .i64 n],.int .i64 i] w fun e w'=>e=.returned (.int .i64 (-1))/\Below w.heap.size w w':=by
 have H:=Lib.hid h;clear h
 go_enter Tryz.func60,Tryz.ntmps60
 go_wp2_with fail
 refine(among_no n i 2 _ H.out).mono ?_
 rintro e w3 ⟨rfl,hb2⟩
 go_wp2_with fail
 go_ret
 exact⟨rfl,((Below.refl _ _).alloc (Nat.le_refl _) _).trans (hb2.mono (by simp))⟩
theorem size_ok (n:Int) (w:World) (h:V n):
 Calls Tryz.prog 31 #[.agg #[.int .i64 n]] w fun e w'=>e=.returned (.int .i64 (n*160+120))/\Below w.heap.size w w':=by
 have hn:4<=n/\n<=16:=by unfold V at h;omega
 have e0:n*32+2*(n*64)+60+60=n*160+120:=by omega
 have E0:=Lib.hid e0;clear e0
 have H:=Lib.hid h;clear h
 go_enter Tryz.func31,Tryz.ntmps31
 go_wp2_with fail
 refine(is_yes n _ H.out).mono ?_
 rintro e w3 ⟨rfl,rfl⟩
 go_wp2_with fail
 refine(rec_ok n 1 _ H.out (by omega) (by omega)).mono ?_
 rintro e w3 ⟨rfl,hb3⟩
 go_wp2_with fail
 rw[E0.out]
 go_ret
 exact⟨rfl,((Below.refl _ _).alloc (Nat.le_refl _) _).trans (hb3.mono (by simp))⟩
theorem size_no (n:Int) (w:World) (h:¬V n):
 Calls Tryz.prog 31 #[.agg #[.int .i64 n]] w fun e w'=>e=.returned (.int .i64 0)/\Below w.heap.size w w':=by
 have H:=Lib.hid h;clear h
 go_enter Tryz.func31,Tryz.ntmps31
 go_wp2_with fail
 refine(is_no n _ H.out).mono ?_
 rintro e w3 ⟨rfl,rfl⟩
 go_wp2_with fail
 go_ret
 exact⟨rfl,(Below.refl _ _).alloc (Nat.le_refl _) _⟩
end Go.Proofs.YtggmdjdflaglpaaGreat.geo
