/- The cache: Do. The cache: Do, each kind of call. The cache: Do, whole; what a call does to sizes. The cache: what holds ahead of a call holds behind it (no walk). What is read of the device behind a write, a barrier; what a leaf opens to behind each step (no walk). -/
import Derived.Test.YtggmdjdflaglpaaGreatR30
namespace Go.Proofs.YtggmdjdflaglpaaGreat
open Go.RowKit Go.Proofs.YtggmdjdflaglpaaGreat.geo
open Go.Proofs.YtggmdjdflaglpaaGreat.r27 (okc is_ok is_no nokc)
set_option linter.unusedVariables false
instance okcDec (k i:Int) (n:Nat):Decidable (okc k i n):=by unfold okc;infer_instance
def cdo (C:Cch) (kd l:Int) (data:By):Int×By×Cch:=
 if C.W.pow.gone then(7,[],C)else if C.pois then(4,[],C)else if ¬okc kd l data.length then(1,[],C)
 else if kd=1 then cread C l.toNat
 else if kd=2 then((cwrite C l.toNat data).1,[],(cwrite C l.toNat data).2)
 else if kd=3 then((ccommit C).1,[],(ccommit C).2)
 else if kd=4 then((cdiscard C l.toNat).1,[],(cdiscard C l.toNat).2)
 else((crotate C).1,[],(crotate C).2)
theorem tany {ρ ρ':Rl}{w w':World}{a:Ads}{cc m ag g:Nat}{C:Cch}{x y v:Value}{b:By}(hB:Blk w' g 38 #[x,y]) (hz:ρ' g=rTmp) (hg:w.heap.size<=g) (hC:CchR ρ' w' a cc m ag C) (hs:Ste rtC ρ w ρ' w') (hv:HasP (ρ' · =0) w' v b) (er:Int):
 TolP ρ a cc m er b C w (.returned (.agg [.int .i64 er,v].toArray)) ((w'.setCell ⟨g,0,none⟩ (.int .i64 er)).setCell ⟨g,1,none⟩ v):=by
 obtain⟨_,h2,h3,h4⟩:=tend hB hz hg hC hs (.int .i64 er) v
 exact⟨_,rfl,ρ',ag,hv.keep h4.size (fun i hi e=>h4.block i hi (fun c=>by injection c with c;rw[c,hz]at e;exact absurd e (by decide))),h2,h3⟩
set_option maxHeartbeats 4000000 in
set_option maxRecDepth 100000 in
theorem do_not (ρ:Rl) (a:Ads) (cc m ag:Nat) (C:Cch) (kd l:Int) (Av:Option Addr) (n c:Nat) (w:World) (hf:Fresh ρ w) (h:CchR ρ w a cc m ag C) (er:Int)
 (he:(C.W.pow.gone=true/\er=7)\/(C.W.pow.gone=false/\C.pois=true/\er=4)\/(C.W.pow.gone=false/\C.pois=false/\¬okc kd l n/\er=1)):
 Calls Tryz.prog 44 #[.pointer (some ⟨cc,0,none⟩),.agg #[.int .i64 kd,.int .i64 l,.slice Av n c]] w (TolP ρ a cc m er [] C w):=by
 obtain⟨q1,b1,b2⟩:=boxes w kd l (.slice Av n c)
 obtain⟨W1,hW1⟩:∃W1,W1=(w.alloc (.cells #[.int .i64 kd,.int .i64 l,.slice Av n c] 34)).alloc (.cells #[.int .i64 0,.slice none 0 0] 38):=⟨_,rfl⟩
 rw[<-hW1]at q1 b1 b2
 have b2l:=b2.lt
 obtain⟨ρ1,hρ1⟩:∃ρ1,ρ1=ρ.set (w.heap.size+1) rTmp:=⟨_,rfl⟩
 have st1:Ste rtC ρ w ρ1 W1:=by rw[hρ1];exact(Ste.of_below q1 hf).label (by omega) b2l
 have hz:ρ1 (w.heap.size+1)=rTmp:=by rw[hρ1];exact Rl.set_same _ _ _
 have h1:CchR ρ1 W1 a cc m ag C:=h.keep q1.size (fun b hb e=>⟨q1.block b hb,by rw[hρ1];exact Rl.set_other _ (by omega)⟩)
 have hon:=won_ok ρ1 a C.W W1 h1.wld
 have h1':=h1
 obtain⟨vn,vw,hb,_,hw,_⟩:=h1'
 have c0:=hb.cell_ 0 rfl
 have c5:=hb.cell_ 5 rfl
 have c1:=hw.1.cell_ 1 rfl
 have lc:=hb.lt
 have lw:=hw.1.lt
 have hh:=h
 obtain⟨un,uw,hbh,_,hwh,_⟩:=hh
 have k0:=hbh.cell_ 0 rfl
 have k1:=hwh.1.cell_ 1 rfl
 have lk0:=hbh.lt
 have lk1:=hwh.1.lt
 have d0:=b1.cell_ 0 rfl
 have d1:=b1.cell_ 1 rfl
 have d2:=b1.cell_ 2 rfl
 have ld:=b1.lt
 have e0:=b2.cell_ 0 rfl
 have e1:=b2.cell_ 1 rfl
 have f0:=b2.frozen 0
 have f1:=b2.frozen 1
 have HW:=Lib.hid hW1
 have H:=Lib.hid (And.intro b2 (And.intro hz (And.intro h1 st1)))
 obtain⟨G,hG⟩:∃G,G=C.W.pow.gone:=⟨_,rfl⟩
 obtain⟨P,hP⟩:∃P,P=C.pois:=⟨_,rfl⟩
 rw[<-hG,<-hP]at he
 rw[<-hG]at hon
 rw[<-hP]at c5
 clear h h1 hb hw b1 b2 hbh hwh hW1 hρ1 st1 hz hG hP
 rcases he with⟨rfl,rfl⟩|⟨rfl,rfl,rfl⟩|⟨rfl,rfl,hno,rfl⟩
 ·go_enter Tryz.func44,Tryz.ntmps44
  go_wp2_with fail
  rw[<-HW.out]
  refine hon.mono ?_
  rintro e w2 ⟨rfl,rfl⟩
  clear hon
  go_wp2_with fail
  obtain⟨b2,hz,h1,st1⟩:=H.out
  exact ret_cell 4 38 (by rfl) (w.heap.size+1) 0 (by rfl) [.int .i64 7,.slice none 0 0] _ (tend b2 hz (by omega) h1 st1 _ _).1.range Tryz.underlying38 rfl sz38 rfl (tnil b2 hz (by omega) h1 st1 7)
 ·go_enter Tryz.func44,Tryz.ntmps44
  go_wp2_with fail
  rw[<-HW.out]
  refine hon.mono ?_
  rintro e w2 ⟨rfl,rfl⟩
  clear hon
  go_wp2_with fail
  obtain⟨b2,hz,h1,st1⟩:=H.out
  exact ret_cell 4 38 (by rfl) (w.heap.size+1) 0 (by rfl) [.int .i64 4,.slice none 0 0] _ (tend b2 hz (by omega) h1 st1 _ _).1.range Tryz.underlying38 rfl sz38 rfl (tnil b2 hz (by omega) h1 st1 4)
 ·have his:=is_no kd l Av n c W1 hno
  clear hno
  go_enter Tryz.func44,Tryz.ntmps44
  go_wp2_with fail
  rw[<-HW.out]
  refine hon.mono ?_
  rintro e w2 ⟨rfl,rfl⟩
  clear hon
  go_wp2_with fail
  refine his.mono ?_
  rintro e w2 ⟨rfl,q2⟩
  clear his e0 e1 f0 f1 c0 c1 c5 d0 d1 d2
  obtain⟨b2,hz,h1,st1⟩:=H.out
  have b3:=b2.below_ q2
  have h3:=h1.below_ q2
  have st3:=st1.trans (Ste.of_below (T:=rtC) q2 st1.fresh)
  have e0:=b3.cell_ 0 rfl
  have e1:=b3.cell_ 1 rfl
  have f0:=b3.frozen 0
  have f1:=b3.frozen 1
  have lb:=b3.lt
  have HK:=Lib.hid (And.intro b3 (And.intro hz (And.intro h3 st3)))
  clear b2 hz h1 st1 b3 h3 st3 q2
  go_wp2_with fail
  obtain⟨b2,hz,h1,st1⟩:=HK.out
  exact ret_cell 4 38 (by rfl) (w.heap.size+1) 0 (by rfl) [.int .i64 1,.slice none 0 0] _ (tend b2 hz (by omega) h1 st1 _ _).1.range Tryz.underlying38 rfl sz38 rfl (tnil b2 hz (by omega) h1 st1 1)
end Go.Proofs.YtggmdjdflaglpaaGreat
namespace Go.Proofs.YtggmdjdflaglpaaGreat
open Go.RowKit Go.Proofs.YtggmdjdflaglpaaGreat.geo
open Go.Proofs.YtggmdjdflaglpaaGreat.r27 (okc is_ok is_no nokc)
set_option linter.unusedVariables false
set_option maxHeartbeats 4000000 in
set_option maxRecDepth 100000 in
theorem do_go0 (ρ:Rl) (a:Ads) (cc m ag:Nat) (C:Cch) (l:Int) (Av:Option Addr) (n c:Nat) (w:World) (hf:Fresh ρ w) (h:CchR ρ w a cc m ag C) (hg:C.W.pow.gone=false) (hp:C.pois=false) (hok:okc 1 l n) (er:Int) (b:By) (C':Cch)
 (hc:∀(ρ1:Rl) (W:World),Fresh ρ1 W->CchR ρ1 W a cc m ag C->Ste rtC ρ w ρ1 W->Calls Tryz.prog 72 #[.pointer (some ⟨cc,0,none⟩),.agg #[.int .i64 1,.int .i64 l,.slice Av n c]] W (TolP ρ1 a cc m er b C' W)):
 Calls Tryz.prog 44 #[.pointer (some ⟨cc,0,none⟩),.agg #[.int .i64 1,.int .i64 l,.slice Av n c]] w (TolP ρ a cc m er b C' w):=by
 obtain⟨q1,b1,b2⟩:=boxes w 1 l (.slice Av n c)
 obtain⟨W1,hW1⟩:∃W1,W1=(w.alloc (.cells #[.int .i64 1,.int .i64 l,.slice Av n c] 34)).alloc (.cells #[.int .i64 0,.slice none 0 0] 38):=⟨_,rfl⟩
 rw[<-hW1]at q1 b1 b2
 have b2l:=b2.lt
 obtain⟨ρ1,hρ1⟩:∃ρ1,ρ1=ρ.set (w.heap.size+1) rTmp:=⟨_,rfl⟩
 have st1:Ste rtC ρ w ρ1 W1:=by rw[hρ1];exact(Ste.of_below q1 hf).label (by omega) b2l
 have hz:ρ1 (w.heap.size+1)=rTmp:=by rw[hρ1];exact Rl.set_same _ _ _
 have h1:CchR ρ1 W1 a cc m ag C:=h.keep q1.size (fun b hb e=>⟨q1.block b hb,by rw[hρ1];exact Rl.set_other _ (by omega)⟩)
 have hon:=won_ok ρ1 a C.W W1 h1.wld
 have h1':=h1
 obtain⟨vn,vw,hb,_,hw,_⟩:=h1'
 have c0:=hb.cell_ 0 rfl
 have c5:=hb.cell_ 5 rfl
 have c1:=hw.1.cell_ 1 rfl
 have lc:=hb.lt
 have lw:=hw.1.lt
 have hh:=h
 obtain⟨un,uw,hbh,_,hwh,_⟩:=hh
 have k0:=hbh.cell_ 0 rfl
 have k1:=hwh.1.cell_ 1 rfl
 have lk0:=hbh.lt
 have lk1:=hwh.1.lt
 have d0:=b1.cell_ 0 rfl
 have d1:=b1.cell_ 1 rfl
 have d2:=b1.cell_ 2 rfl
 have ld:=b1.lt
 have HW:=Lib.hid hW1
 have H:=Lib.hid (And.intro b2 (And.intro hz (And.intro h1 (And.intro st1 b1))))
 rw[hg]at hon
 rw[hp]at c5
 have his:=is_ok 1 l Av n c W1 hok
 have hmm:=@run_makeMap Tryz.prog
 have i1:∀w:World,(Instr.mapUpdate 155 (.map (some w.heap.size)) (.int .i64 1) (.func (.func 72) #[] #[])).run Tryz.prog (w.alloc (.map #[] 0))=.ok () (w.alloc (.map (ents 1) 1)):=fun w=>ins_run w 0
 have i2:∀w:World,(Instr.mapUpdate 155 (.map (some w.heap.size)) (.int .i64 2) (.func (.func 73) #[] #[])).run Tryz.prog (w.alloc (.map (ents 1) 1))=.ok () (w.alloc (.map (ents 2) 2)):=fun w=>ins_run w 1
 have i3:∀w:World,(Instr.mapUpdate 155 (.map (some w.heap.size)) (.int .i64 3) (.func (.func 74) #[] #[])).run Tryz.prog (w.alloc (.map (ents 2) 2))=.ok () (w.alloc (.map (ents 3) 3)):=fun w=>ins_run w 2
 have i4:∀w:World,(Instr.mapUpdate 155 (.map (some w.heap.size)) (.int .i64 4) (.func (.func 75) #[] #[])).run Tryz.prog (w.alloc (.map (ents 3) 3))=.ok () (w.alloc (.map (ents 4) 4)):=fun w=>ins_run w 3
 have i5:∀w:World,(Instr.mapUpdate 155 (.map (some w.heap.size)) (.int .i64 5) (.func (.func 76) #[] #[])).run Tryz.prog (w.alloc (.map (ents 4) 4))=.ok () (w.alloc (.map (ents 5) 5)):=fun w=>ins_run w 4
 have lk:∀w:World,(Instr.lookup 155 (.map (some w.heap.size)) (.int .i64 1) false).run Tryz.prog (w.alloc (.map (ents 5) 5))=.ok (.func (.func 72) #[] #[]) (w.alloc (.map (ents 5) 5)):=fun w=>look_run _ _ 0 (heap_alloc_new w _) (by omega)
 have HC:=Lib.hid hc
 clear h h1 hb hw b1 b2 hbh hwh hW1 hρ1 st1 hz hg hp hok hc
 go_enter Tryz.func44,Tryz.ntmps44
 go_wp2_with fail
 rw[<-HW.out]
 refine hon.mono ?_
 rintro e w2 ⟨rfl,rfl⟩
 clear hon
 go_wp2_with fail
 refine his.mono ?_
 rintro e w2 ⟨rfl,q2⟩
 clear his c0 c1 c5 d0 d1 d2
 obtain⟨b2,hz,h1,st1,b1⟩:=H.out
 have b3:=b2.below_ q2
 have b4:=b1.below_ q2
 have d0:=b4.cell_ 0 rfl
 have d1:=b4.cell_ 1 rfl
 have d2:=b4.cell_ 2 rfl
 have ld2:=b4.lt
 go_wp2_with fail
 obtain⟨W3,hW3⟩:∃W3,W3=w2.alloc (.map (ents 5) 5):=⟨_,rfl⟩
 have q3:Below w2.heap.size w2 W3:=by rw[hW3];exact(Below.refl _ _).alloc (Nat.le_refl _) _
 have h3:=(h1.below_ q2).below_ q3
 have b5:=b3.below_ q3
 have st3:=(st1.trans (Ste.of_below (T:=rtC) q2 st1.fresh)).trans (Ste.of_below (T:=rtC) q3 (fun i hi=>st1.fresh i (Nat.le_trans q2.size hi)))
 have hcc:=HC.out ρ1 W3 st3.fresh h3 st3
 have b5l:=b5.lt
 rw[<-hW3]
 have HF:=Lib.hid (And.intro b5 (And.intro hz st3))
 clear b2 hz h1 st1 b1 b3 b4 d0 d1 d2 hW3 q3 h3 b5 st3 q2 lk hmm i1 i2 i3 i4 i5
 refine hcc.mono ?_
 rintro e w5 ⟨v,rfl,ρ5,ag5,hv,hC5,s5⟩
 clear hcc
 obtain⟨b5,hz,st3⟩:=HF.out
 obtain⟨A5,z5,rfl⟩:=hv.slice
 have b6:=b5.ste s5 (by rw[hz];exact rtC24)
 have hz5:=(s5.old _ b5l).trans hz
 have st5:=st3.trans s5
 have e0:=b6.cell_ 0 rfl
 have e1:=b6.cell_ 1 rfl
 have f0:=b6.frozen 0
 have f1:=b6.frozen 1
 have lb:=b6.lt
 have HK:=Lib.hid (And.intro b6 (And.intro hz5 (And.intro hC5 (And.intro st5 hv))))
 obtain⟨nb,hnb⟩:∃nb,nb=b.length:=⟨_,rfl⟩
 rw[<-hnb]
 have HNB:=Lib.hid hnb
 clear b5 hz st3 b6 hz5 hC5 st5 hv s5 hnb
 go_wp2_with fail
 obtain⟨b6,hz5,hC5,st5,hv⟩:=HK.out
 rw[<-HNB.out]at hv
 exact ret_cell 4 38 (by rfl) (w.heap.size+1) 0 (by rfl) [.int .i64 er,.slice A5 nb z5] _ (tend b6 hz5 (by omega) hC5 st5 _ _).1.range Tryz.underlying38 rfl sz38 rfl (tany b6 hz5 (by omega) hC5 st5 hv er)
set_option maxHeartbeats 4000000 in
set_option maxRecDepth 100000 in
theorem do_go1 (ρ:Rl) (a:Ads) (cc m ag:Nat) (C:Cch) (l:Int) (Av:Option Addr) (n c:Nat) (w:World) (hf:Fresh ρ w) (h:CchR ρ w a cc m ag C) (hg:C.W.pow.gone=false) (hp:C.pois=false) (hok:okc 2 l n) (er:Int) (b:By) (C':Cch)
 (hc:∀(ρ1:Rl) (W:World),Fresh ρ1 W->CchR ρ1 W a cc m ag C->Ste rtC ρ w ρ1 W->Calls Tryz.prog 73 #[.pointer (some ⟨cc,0,none⟩),.agg #[.int .i64 2,.int .i64 l,.slice Av n c]] W (TolP ρ1 a cc m er b C' W)):
 Calls Tryz.prog 44 #[.pointer (some ⟨cc,0,none⟩),.agg #[.int .i64 2,.int .i64 l,.slice Av n c]] w (TolP ρ a cc m er b C' w):=by
 obtain⟨q1,b1,b2⟩:=boxes w 2 l (.slice Av n c)
 obtain⟨W1,hW1⟩:∃W1,W1=(w.alloc (.cells #[.int .i64 2,.int .i64 l,.slice Av n c] 34)).alloc (.cells #[.int .i64 0,.slice none 0 0] 38):=⟨_,rfl⟩
 rw[<-hW1]at q1 b1 b2
 have b2l:=b2.lt
 obtain⟨ρ1,hρ1⟩:∃ρ1,ρ1=ρ.set (w.heap.size+1) rTmp:=⟨_,rfl⟩
 have st1:Ste rtC ρ w ρ1 W1:=by rw[hρ1];exact(Ste.of_below q1 hf).label (by omega) b2l
 have hz:ρ1 (w.heap.size+1)=rTmp:=by rw[hρ1];exact Rl.set_same _ _ _
 have h1:CchR ρ1 W1 a cc m ag C:=h.keep q1.size (fun b hb e=>⟨q1.block b hb,by rw[hρ1];exact Rl.set_other _ (by omega)⟩)
 have hon:=won_ok ρ1 a C.W W1 h1.wld
 have h1':=h1
 obtain⟨vn,vw,hb,_,hw,_⟩:=h1'
 have c0:=hb.cell_ 0 rfl
 have c5:=hb.cell_ 5 rfl
 have c1:=hw.1.cell_ 1 rfl
 have lc:=hb.lt
 have lw:=hw.1.lt
 have hh:=h
 obtain⟨un,uw,hbh,_,hwh,_⟩:=hh
 have k0:=hbh.cell_ 0 rfl
 have k1:=hwh.1.cell_ 1 rfl
 have lk0:=hbh.lt
 have lk1:=hwh.1.lt
 have d0:=b1.cell_ 0 rfl
 have d1:=b1.cell_ 1 rfl
 have d2:=b1.cell_ 2 rfl
 have ld:=b1.lt
 have HW:=Lib.hid hW1
 have H:=Lib.hid (And.intro b2 (And.intro hz (And.intro h1 (And.intro st1 b1))))
 rw[hg]at hon
 rw[hp]at c5
 have his:=is_ok 2 l Av n c W1 hok
 have hmm:=@run_makeMap Tryz.prog
 have i1:∀w:World,(Instr.mapUpdate 155 (.map (some w.heap.size)) (.int .i64 1) (.func (.func 72) #[] #[])).run Tryz.prog (w.alloc (.map #[] 0))=.ok () (w.alloc (.map (ents 1) 1)):=fun w=>ins_run w 0
 have i2:∀w:World,(Instr.mapUpdate 155 (.map (some w.heap.size)) (.int .i64 2) (.func (.func 73) #[] #[])).run Tryz.prog (w.alloc (.map (ents 1) 1))=.ok () (w.alloc (.map (ents 2) 2)):=fun w=>ins_run w 1
 have i3:∀w:World,(Instr.mapUpdate 155 (.map (some w.heap.size)) (.int .i64 3) (.func (.func 74) #[] #[])).run Tryz.prog (w.alloc (.map (ents 2) 2))=.ok () (w.alloc (.map (ents 3) 3)):=fun w=>ins_run w 2
 have i4:∀w:World,(Instr.mapUpdate 155 (.map (some w.heap.size)) (.int .i64 4) (.func (.func 75) #[] #[])).run Tryz.prog (w.alloc (.map (ents 3) 3))=.ok () (w.alloc (.map (ents 4) 4)):=fun w=>ins_run w 3
 have i5:∀w:World,(Instr.mapUpdate 155 (.map (some w.heap.size)) (.int .i64 5) (.func (.func 76) #[] #[])).run Tryz.prog (w.alloc (.map (ents 4) 4))=.ok () (w.alloc (.map (ents 5) 5)):=fun w=>ins_run w 4
 have lk:∀w:World,(Instr.lookup 155 (.map (some w.heap.size)) (.int .i64 2) false).run Tryz.prog (w.alloc (.map (ents 5) 5))=.ok (.func (.func 73) #[] #[]) (w.alloc (.map (ents 5) 5)):=fun w=>look_run _ _ 1 (heap_alloc_new w _) (by omega)
 have HC:=Lib.hid hc
 clear h h1 hb hw b1 b2 hbh hwh hW1 hρ1 st1 hz hg hp hok hc
 go_enter Tryz.func44,Tryz.ntmps44
 go_wp2_with fail
 rw[<-HW.out]
 refine hon.mono ?_
 rintro e w2 ⟨rfl,rfl⟩
 clear hon
 go_wp2_with fail
 refine his.mono ?_
 rintro e w2 ⟨rfl,q2⟩
 clear his c0 c1 c5 d0 d1 d2
 obtain⟨b2,hz,h1,st1,b1⟩:=H.out
 have b3:=b2.below_ q2
 have b4:=b1.below_ q2
 have d0:=b4.cell_ 0 rfl
 have d1:=b4.cell_ 1 rfl
 have d2:=b4.cell_ 2 rfl
 have ld2:=b4.lt
 go_wp2_with fail
 obtain⟨W3,hW3⟩:∃W3,W3=w2.alloc (.map (ents 5) 5):=⟨_,rfl⟩
 have q3:Below w2.heap.size w2 W3:=by rw[hW3];exact(Below.refl _ _).alloc (Nat.le_refl _) _
 have h3:=(h1.below_ q2).below_ q3
 have b5:=b3.below_ q3
 have st3:=(st1.trans (Ste.of_below (T:=rtC) q2 st1.fresh)).trans (Ste.of_below (T:=rtC) q3 (fun i hi=>st1.fresh i (Nat.le_trans q2.size hi)))
 have hcc:=HC.out ρ1 W3 st3.fresh h3 st3
 have b5l:=b5.lt
 rw[<-hW3]
 have HF:=Lib.hid (And.intro b5 (And.intro hz st3))
 clear b2 hz h1 st1 b1 b3 b4 d0 d1 d2 hW3 q3 h3 b5 st3 q2 lk hmm i1 i2 i3 i4 i5
 refine hcc.mono ?_
 rintro e w5 ⟨v,rfl,ρ5,ag5,hv,hC5,s5⟩
 clear hcc
 obtain⟨b5,hz,st3⟩:=HF.out
 obtain⟨A5,z5,rfl⟩:=hv.slice
 have b6:=b5.ste s5 (by rw[hz];exact rtC24)
 have hz5:=(s5.old _ b5l).trans hz
 have st5:=st3.trans s5
 have e0:=b6.cell_ 0 rfl
 have e1:=b6.cell_ 1 rfl
 have f0:=b6.frozen 0
 have f1:=b6.frozen 1
 have lb:=b6.lt
 have HK:=Lib.hid (And.intro b6 (And.intro hz5 (And.intro hC5 (And.intro st5 hv))))
 obtain⟨nb,hnb⟩:∃nb,nb=b.length:=⟨_,rfl⟩
 rw[<-hnb]
 have HNB:=Lib.hid hnb
 clear b5 hz st3 b6 hz5 hC5 st5 hv s5 hnb
 go_wp2_with fail
 obtain⟨b6,hz5,hC5,st5,hv⟩:=HK.out
 rw[<-HNB.out]at hv
 exact ret_cell 4 38 (by rfl) (w.heap.size+1) 0 (by rfl) [.int .i64 er,.slice A5 nb z5] _ (tend b6 hz5 (by omega) hC5 st5 _ _).1.range Tryz.underlying38 rfl sz38 rfl (tany b6 hz5 (by omega) hC5 st5 hv er)
set_option maxHeartbeats 4000000 in
set_option maxRecDepth 100000 in
theorem do_go2 (ρ:Rl) (a:Ads) (cc m ag:Nat) (C:Cch) (l:Int) (Av:Option Addr) (n c:Nat) (w:World) (hf:Fresh ρ w) (h:CchR ρ w a cc m ag C) (hg:C.W.pow.gone=false) (hp:C.pois=false) (hok:okc 3 l n) (er:Int) (b:By) (C':Cch)
 (hc:∀(ρ1:Rl) (W:World),Fresh ρ1 W->CchR ρ1 W a cc m ag C->Ste rtC ρ w ρ1 W->Calls Tryz.prog 74 #[.pointer (some ⟨cc,0,none⟩),.agg #[.int .i64 3,.int .i64 l,.slice Av n c]] W (TolP ρ1 a cc m er b C' W)):
 Calls Tryz.prog 44 #[.pointer (some ⟨cc,0,none⟩),.agg #[.int .i64 3,.int .i64 l,.slice Av n c]] w (TolP ρ a cc m er b C' w):=by
 obtain⟨q1,b1,b2⟩:=boxes w 3 l (.slice Av n c)
 obtain⟨W1,hW1⟩:∃W1,W1=(w.alloc (.cells #[.int .i64 3,.int .i64 l,.slice Av n c] 34)).alloc (.cells #[.int .i64 0,.slice none 0 0] 38):=⟨_,rfl⟩
 rw[<-hW1]at q1 b1 b2
 have b2l:=b2.lt
 obtain⟨ρ1,hρ1⟩:∃ρ1,ρ1=ρ.set (w.heap.size+1) rTmp:=⟨_,rfl⟩
 have st1:Ste rtC ρ w ρ1 W1:=by rw[hρ1];exact(Ste.of_below q1 hf).label (by omega) b2l
 have hz:ρ1 (w.heap.size+1)=rTmp:=by rw[hρ1];exact Rl.set_same _ _ _
 have h1:CchR ρ1 W1 a cc m ag C:=h.keep q1.size (fun b hb e=>⟨q1.block b hb,by rw[hρ1];exact Rl.set_other _ (by omega)⟩)
 have hon:=won_ok ρ1 a C.W W1 h1.wld
 have h1':=h1
 obtain⟨vn,vw,hb,_,hw,_⟩:=h1'
 have c0:=hb.cell_ 0 rfl
 have c5:=hb.cell_ 5 rfl
 have c1:=hw.1.cell_ 1 rfl
 have lc:=hb.lt
 have lw:=hw.1.lt
 have hh:=h
 obtain⟨un,uw,hbh,_,hwh,_⟩:=hh
 have k0:=hbh.cell_ 0 rfl
 have k1:=hwh.1.cell_ 1 rfl
 have lk0:=hbh.lt
 have lk1:=hwh.1.lt
 have d0:=b1.cell_ 0 rfl
 have d1:=b1.cell_ 1 rfl
 have d2:=b1.cell_ 2 rfl
 have ld:=b1.lt
 have HW:=Lib.hid hW1
 have H:=Lib.hid (And.intro b2 (And.intro hz (And.intro h1 (And.intro st1 b1))))
 rw[hg]at hon
 rw[hp]at c5
 have his:=is_ok 3 l Av n c W1 hok
 have hmm:=@run_makeMap Tryz.prog
 have i1:∀w:World,(Instr.mapUpdate 155 (.map (some w.heap.size)) (.int .i64 1) (.func (.func 72) #[] #[])).run Tryz.prog (w.alloc (.map #[] 0))=.ok () (w.alloc (.map (ents 1) 1)):=fun w=>ins_run w 0
 have i2:∀w:World,(Instr.mapUpdate 155 (.map (some w.heap.size)) (.int .i64 2) (.func (.func 73) #[] #[])).run Tryz.prog (w.alloc (.map (ents 1) 1))=.ok () (w.alloc (.map (ents 2) 2)):=fun w=>ins_run w 1
 have i3:∀w:World,(Instr.mapUpdate 155 (.map (some w.heap.size)) (.int .i64 3) (.func (.func 74) #[] #[])).run Tryz.prog (w.alloc (.map (ents 2) 2))=.ok () (w.alloc (.map (ents 3) 3)):=fun w=>ins_run w 2
 have i4:∀w:World,(Instr.mapUpdate 155 (.map (some w.heap.size)) (.int .i64 4) (.func (.func 75) #[] #[])).run Tryz.prog (w.alloc (.map (ents 3) 3))=.ok () (w.alloc (.map (ents 4) 4)):=fun w=>ins_run w 3
 have i5:∀w:World,(Instr.mapUpdate 155 (.map (some w.heap.size)) (.int .i64 5) (.func (.func 76) #[] #[])).run Tryz.prog (w.alloc (.map (ents 4) 4))=.ok () (w.alloc (.map (ents 5) 5)):=fun w=>ins_run w 4
 have lk:∀w:World,(Instr.lookup 155 (.map (some w.heap.size)) (.int .i64 3) false).run Tryz.prog (w.alloc (.map (ents 5) 5))=.ok (.func (.func 74) #[] #[]) (w.alloc (.map (ents 5) 5)):=fun w=>look_run _ _ 2 (heap_alloc_new w _) (by omega)
 have HC:=Lib.hid hc
 clear h h1 hb hw b1 b2 hbh hwh hW1 hρ1 st1 hz hg hp hok hc
 go_enter Tryz.func44,Tryz.ntmps44
 go_wp2_with fail
 rw[<-HW.out]
 refine hon.mono ?_
 rintro e w2 ⟨rfl,rfl⟩
 clear hon
 go_wp2_with fail
 refine his.mono ?_
 rintro e w2 ⟨rfl,q2⟩
 clear his c0 c1 c5 d0 d1 d2
 obtain⟨b2,hz,h1,st1,b1⟩:=H.out
 have b3:=b2.below_ q2
 have b4:=b1.below_ q2
 have d0:=b4.cell_ 0 rfl
 have d1:=b4.cell_ 1 rfl
 have d2:=b4.cell_ 2 rfl
 have ld2:=b4.lt
 go_wp2_with fail
 obtain⟨W3,hW3⟩:∃W3,W3=w2.alloc (.map (ents 5) 5):=⟨_,rfl⟩
 have q3:Below w2.heap.size w2 W3:=by rw[hW3];exact(Below.refl _ _).alloc (Nat.le_refl _) _
 have h3:=(h1.below_ q2).below_ q3
 have b5:=b3.below_ q3
 have st3:=(st1.trans (Ste.of_below (T:=rtC) q2 st1.fresh)).trans (Ste.of_below (T:=rtC) q3 (fun i hi=>st1.fresh i (Nat.le_trans q2.size hi)))
 have hcc:=HC.out ρ1 W3 st3.fresh h3 st3
 have b5l:=b5.lt
 rw[<-hW3]
 have HF:=Lib.hid (And.intro b5 (And.intro hz st3))
 clear b2 hz h1 st1 b1 b3 b4 d0 d1 d2 hW3 q3 h3 b5 st3 q2 lk hmm i1 i2 i3 i4 i5
 refine hcc.mono ?_
 rintro e w5 ⟨v,rfl,ρ5,ag5,hv,hC5,s5⟩
 clear hcc
 obtain⟨b5,hz,st3⟩:=HF.out
 obtain⟨A5,z5,rfl⟩:=hv.slice
 have b6:=b5.ste s5 (by rw[hz];exact rtC24)
 have hz5:=(s5.old _ b5l).trans hz
 have st5:=st3.trans s5
 have e0:=b6.cell_ 0 rfl
 have e1:=b6.cell_ 1 rfl
 have f0:=b6.frozen 0
 have f1:=b6.frozen 1
 have lb:=b6.lt
 have HK:=Lib.hid (And.intro b6 (And.intro hz5 (And.intro hC5 (And.intro st5 hv))))
 obtain⟨nb,hnb⟩:∃nb,nb=b.length:=⟨_,rfl⟩
 rw[<-hnb]
 have HNB:=Lib.hid hnb
 clear b5 hz st3 b6 hz5 hC5 st5 hv s5 hnb
 go_wp2_with fail
 obtain⟨b6,hz5,hC5,st5,hv⟩:=HK.out
 rw[<-HNB.out]at hv
 exact ret_cell 4 38 (by rfl) (w.heap.size+1) 0 (by rfl) [.int .i64 er,.slice A5 nb z5] _ (tend b6 hz5 (by omega) hC5 st5 _ _).1.range Tryz.underlying38 rfl sz38 rfl (tany b6 hz5 (by omega) hC5 st5 hv er)
set_option maxHeartbeats 4000000 in
set_option maxRecDepth 100000 in
theorem do_go3 (ρ:Rl) (a:Ads) (cc m ag:Nat) (C:Cch) (l:Int) (Av:Option Addr) (n c:Nat) (w:World) (hf:Fresh ρ w) (h:CchR ρ w a cc m ag C) (hg:C.W.pow.gone=false) (hp:C.pois=false) (hok:okc 4 l n) (er:Int) (b:By) (C':Cch)
 (hc:∀(ρ1:Rl) (W:World),Fresh ρ1 W->CchR ρ1 W a cc m ag C->Ste rtC ρ w ρ1 W->Calls Tryz.prog 75 #[.pointer (some ⟨cc,0,none⟩),.agg #[.int .i64 4,.int .i64 l,.slice Av n c]] W (TolP ρ1 a cc m er b C' W)):
 Calls Tryz.prog 44 #[.pointer (some ⟨cc,0,none⟩),.agg #[.int .i64 4,.int .i64 l,.slice Av n c]] w (TolP ρ a cc m er b C' w):=by
 obtain⟨q1,b1,b2⟩:=boxes w 4 l (.slice Av n c)
 obtain⟨W1,hW1⟩:∃W1,W1=(w.alloc (.cells #[.int .i64 4,.int .i64 l,.slice Av n c] 34)).alloc (.cells #[.int .i64 0,.slice none 0 0] 38):=⟨_,rfl⟩
 rw[<-hW1]at q1 b1 b2
 have b2l:=b2.lt
 obtain⟨ρ1,hρ1⟩:∃ρ1,ρ1=ρ.set (w.heap.size+1) rTmp:=⟨_,rfl⟩
 have st1:Ste rtC ρ w ρ1 W1:=by rw[hρ1];exact(Ste.of_below q1 hf).label (by omega) b2l
 have hz:ρ1 (w.heap.size+1)=rTmp:=by rw[hρ1];exact Rl.set_same _ _ _
 have h1:CchR ρ1 W1 a cc m ag C:=h.keep q1.size (fun b hb e=>⟨q1.block b hb,by rw[hρ1];exact Rl.set_other _ (by omega)⟩)
 have hon:=won_ok ρ1 a C.W W1 h1.wld
 have h1':=h1
 obtain⟨vn,vw,hb,_,hw,_⟩:=h1'
 have c0:=hb.cell_ 0 rfl
 have c5:=hb.cell_ 5 rfl
 have c1:=hw.1.cell_ 1 rfl
 have lc:=hb.lt
 have lw:=hw.1.lt
 have hh:=h
 obtain⟨un,uw,hbh,_,hwh,_⟩:=hh
 have k0:=hbh.cell_ 0 rfl
 have k1:=hwh.1.cell_ 1 rfl
 have lk0:=hbh.lt
 have lk1:=hwh.1.lt
 have d0:=b1.cell_ 0 rfl
 have d1:=b1.cell_ 1 rfl
 have d2:=b1.cell_ 2 rfl
 have ld:=b1.lt
 have HW:=Lib.hid hW1
 have H:=Lib.hid (And.intro b2 (And.intro hz (And.intro h1 (And.intro st1 b1))))
 rw[hg]at hon
 rw[hp]at c5
 have his:=is_ok 4 l Av n c W1 hok
 have hmm:=@run_makeMap Tryz.prog
 have i1:∀w:World,(Instr.mapUpdate 155 (.map (some w.heap.size)) (.int .i64 1) (.func (.func 72) #[] #[])).run Tryz.prog (w.alloc (.map #[] 0))=.ok () (w.alloc (.map (ents 1) 1)):=fun w=>ins_run w 0
 have i2:∀w:World,(Instr.mapUpdate 155 (.map (some w.heap.size)) (.int .i64 2) (.func (.func 73) #[] #[])).run Tryz.prog (w.alloc (.map (ents 1) 1))=.ok () (w.alloc (.map (ents 2) 2)):=fun w=>ins_run w 1
 have i3:∀w:World,(Instr.mapUpdate 155 (.map (some w.heap.size)) (.int .i64 3) (.func (.func 74) #[] #[])).run Tryz.prog (w.alloc (.map (ents 2) 2))=.ok () (w.alloc (.map (ents 3) 3)):=fun w=>ins_run w 2
 have i4:∀w:World,(Instr.mapUpdate 155 (.map (some w.heap.size)) (.int .i64 4) (.func (.func 75) #[] #[])).run Tryz.prog (w.alloc (.map (ents 3) 3))=.ok () (w.alloc (.map (ents 4) 4)):=fun w=>ins_run w 3
 have i5:∀w:World,(Instr.mapUpdate 155 (.map (some w.heap.size)) (.int .i64 5) (.func (.func 76) #[] #[])).run Tryz.prog (w.alloc (.map (ents 4) 4))=.ok () (w.alloc (.map (ents 5) 5)):=fun w=>ins_run w 4
 have lk:∀w:World,(Instr.lookup 155 (.map (some w.heap.size)) (.int .i64 4) false).run Tryz.prog (w.alloc (.map (ents 5) 5))=.ok (.func (.func 75) #[] #[]) (w.alloc (.map (ents 5) 5)):=fun w=>look_run _ _ 3 (heap_alloc_new w _) (by omega)
 have HC:=Lib.hid hc
 clear h h1 hb hw b1 b2 hbh hwh hW1 hρ1 st1 hz hg hp hok hc
 go_enter Tryz.func44,Tryz.ntmps44
 go_wp2_with fail
 rw[<-HW.out]
 refine hon.mono ?_
 rintro e w2 ⟨rfl,rfl⟩
 clear hon
 go_wp2_with fail
 refine his.mono ?_
 rintro e w2 ⟨rfl,q2⟩
 clear his c0 c1 c5 d0 d1 d2
 obtain⟨b2,hz,h1,st1,b1⟩:=H.out
 have b3:=b2.below_ q2
 have b4:=b1.below_ q2
 have d0:=b4.cell_ 0 rfl
 have d1:=b4.cell_ 1 rfl
 have d2:=b4.cell_ 2 rfl
 have ld2:=b4.lt
 go_wp2_with fail
 obtain⟨W3,hW3⟩:∃W3,W3=w2.alloc (.map (ents 5) 5):=⟨_,rfl⟩
 have q3:Below w2.heap.size w2 W3:=by rw[hW3];exact(Below.refl _ _).alloc (Nat.le_refl _) _
 have h3:=(h1.below_ q2).below_ q3
 have b5:=b3.below_ q3
 have st3:=(st1.trans (Ste.of_below (T:=rtC) q2 st1.fresh)).trans (Ste.of_below (T:=rtC) q3 (fun i hi=>st1.fresh i (Nat.le_trans q2.size hi)))
 have hcc:=HC.out ρ1 W3 st3.fresh h3 st3
 have b5l:=b5.lt
 rw[<-hW3]
 have HF:=Lib.hid (And.intro b5 (And.intro hz st3))
 clear b2 hz h1 st1 b1 b3 b4 d0 d1 d2 hW3 q3 h3 b5 st3 q2 lk hmm i1 i2 i3 i4 i5
 refine hcc.mono ?_
 rintro e w5 ⟨v,rfl,ρ5,ag5,hv,hC5,s5⟩
 clear hcc
 obtain⟨b5,hz,st3⟩:=HF.out
 obtain⟨A5,z5,rfl⟩:=hv.slice
 have b6:=b5.ste s5 (by rw[hz];exact rtC24)
 have hz5:=(s5.old _ b5l).trans hz
 have st5:=st3.trans s5
 have e0:=b6.cell_ 0 rfl
 have e1:=b6.cell_ 1 rfl
 have f0:=b6.frozen 0
 have f1:=b6.frozen 1
 have lb:=b6.lt
 have HK:=Lib.hid (And.intro b6 (And.intro hz5 (And.intro hC5 (And.intro st5 hv))))
 obtain⟨nb,hnb⟩:∃nb,nb=b.length:=⟨_,rfl⟩
 rw[<-hnb]
 have HNB:=Lib.hid hnb
 clear b5 hz st3 b6 hz5 hC5 st5 hv s5 hnb
 go_wp2_with fail
 obtain⟨b6,hz5,hC5,st5,hv⟩:=HK.out
 rw[<-HNB.out]at hv
 exact ret_cell 4 38 (by rfl) (w.heap.size+1) 0 (by rfl) [.int .i64 er,.slice A5 nb z5] _ (tend b6 hz5 (by omega) hC5 st5 _ _).1.range Tryz.underlying38 rfl sz38 rfl (tany b6 hz5 (by omega) hC5 st5 hv er)
set_option maxHeartbeats 4000000 in
set_option maxRecDepth 100000 in
theorem do_go4 (ρ:Rl) (a:Ads) (cc m ag:Nat) (C:Cch) (l:Int) (Av:Option Addr) (n c:Nat) (w:World) (hf:Fresh ρ w) (h:CchR ρ w a cc m ag C) (hg:C.W.pow.gone=false) (hp:C.pois=false) (hok:okc 5 l n) (er:Int) (b:By) (C':Cch)
 (hc:∀(ρ1:Rl) (W:World),Fresh ρ1 W->CchR ρ1 W a cc m ag C->Ste rtC ρ w ρ1 W->Calls Tryz.prog 76 #[.pointer (some ⟨cc,0,none⟩),.agg #[.int .i64 5,.int .i64 l,.slice Av n c]] W (TolP ρ1 a cc m er b C' W)):
 Calls Tryz.prog 44 #[.pointer (some ⟨cc,0,none⟩),.agg #[.int .i64 5,.int .i64 l,.slice Av n c]] w (TolP ρ a cc m er b C' w):=by
 obtain⟨q1,b1,b2⟩:=boxes w 5 l (.slice Av n c)
 obtain⟨W1,hW1⟩:∃W1,W1=(w.alloc (.cells #[.int .i64 5,.int .i64 l,.slice Av n c] 34)).alloc (.cells #[.int .i64 0,.slice none 0 0] 38):=⟨_,rfl⟩
 rw[<-hW1]at q1 b1 b2
 have b2l:=b2.lt
 obtain⟨ρ1,hρ1⟩:∃ρ1,ρ1=ρ.set (w.heap.size+1) rTmp:=⟨_,rfl⟩
 have st1:Ste rtC ρ w ρ1 W1:=by rw[hρ1];exact(Ste.of_below q1 hf).label (by omega) b2l
 have hz:ρ1 (w.heap.size+1)=rTmp:=by rw[hρ1];exact Rl.set_same _ _ _
 have h1:CchR ρ1 W1 a cc m ag C:=h.keep q1.size (fun b hb e=>⟨q1.block b hb,by rw[hρ1];exact Rl.set_other _ (by omega)⟩)
 have hon:=won_ok ρ1 a C.W W1 h1.wld
 have h1':=h1
 obtain⟨vn,vw,hb,_,hw,_⟩:=h1'
 have c0:=hb.cell_ 0 rfl
 have c5:=hb.cell_ 5 rfl
 have c1:=hw.1.cell_ 1 rfl
 have lc:=hb.lt
 have lw:=hw.1.lt
 have hh:=h
 obtain⟨un,uw,hbh,_,hwh,_⟩:=hh
 have k0:=hbh.cell_ 0 rfl
 have k1:=hwh.1.cell_ 1 rfl
 have lk0:=hbh.lt
 have lk1:=hwh.1.lt
 have d0:=b1.cell_ 0 rfl
 have d1:=b1.cell_ 1 rfl
 have d2:=b1.cell_ 2 rfl
 have ld:=b1.lt
 have HW:=Lib.hid hW1
 have H:=Lib.hid (And.intro b2 (And.intro hz (And.intro h1 (And.intro st1 b1))))
 rw[hg]at hon
 rw[hp]at c5
 have his:=is_ok 5 l Av n c W1 hok
 have hmm:=@run_makeMap Tryz.prog
 have i1:∀w:World,(Instr.mapUpdate 155 (.map (some w.heap.size)) (.int .i64 1) (.func (.func 72) #[] #[])).run Tryz.prog (w.alloc (.map #[] 0))=.ok () (w.alloc (.map (ents 1) 1)):=fun w=>ins_run w 0
 have i2:∀w:World,(Instr.mapUpdate 155 (.map (some w.heap.size)) (.int .i64 2) (.func (.func 73) #[] #[])).run Tryz.prog (w.alloc (.map (ents 1) 1))=.ok () (w.alloc (.map (ents 2) 2)):=fun w=>ins_run w 1
 have i3:∀w:World,(Instr.mapUpdate 155 (.map (some w.heap.size)) (.int .i64 3) (.func (.func 74) #[] #[])).run Tryz.prog (w.alloc (.map (ents 2) 2))=.ok () (w.alloc (.map (ents 3) 3)):=fun w=>ins_run w 2
 have i4:∀w:World,(Instr.mapUpdate 155 (.map (some w.heap.size)) (.int .i64 4) (.func (.func 75) #[] #[])).run Tryz.prog (w.alloc (.map (ents 3) 3))=.ok () (w.alloc (.map (ents 4) 4)):=fun w=>ins_run w 3
 have i5:∀w:World,(Instr.mapUpdate 155 (.map (some w.heap.size)) (.int .i64 5) (.func (.func 76) #[] #[])).run Tryz.prog (w.alloc (.map (ents 4) 4))=.ok () (w.alloc (.map (ents 5) 5)):=fun w=>ins_run w 4
 have lk:∀w:World,(Instr.lookup 155 (.map (some w.heap.size)) (.int .i64 5) false).run Tryz.prog (w.alloc (.map (ents 5) 5))=.ok (.func (.func 76) #[] #[]) (w.alloc (.map (ents 5) 5)):=fun w=>look_run _ _ 4 (heap_alloc_new w _) (by omega)
 have HC:=Lib.hid hc
 clear h h1 hb hw b1 b2 hbh hwh hW1 hρ1 st1 hz hg hp hok hc
 go_enter Tryz.func44,Tryz.ntmps44
 go_wp2_with fail
 rw[<-HW.out]
 refine hon.mono ?_
 rintro e w2 ⟨rfl,rfl⟩
 clear hon
 go_wp2_with fail
 refine his.mono ?_
 rintro e w2 ⟨rfl,q2⟩
 clear his c0 c1 c5 d0 d1 d2
 obtain⟨b2,hz,h1,st1,b1⟩:=H.out
 have b3:=b2.below_ q2
 have b4:=b1.below_ q2
 have d0:=b4.cell_ 0 rfl
 have d1:=b4.cell_ 1 rfl
 have d2:=b4.cell_ 2 rfl
 have ld2:=b4.lt
 go_wp2_with fail
 obtain⟨W3,hW3⟩:∃W3,W3=w2.alloc (.map (ents 5) 5):=⟨_,rfl⟩
 have q3:Below w2.heap.size w2 W3:=by rw[hW3];exact(Below.refl _ _).alloc (Nat.le_refl _) _
 have h3:=(h1.below_ q2).below_ q3
 have b5:=b3.below_ q3
 have st3:=(st1.trans (Ste.of_below (T:=rtC) q2 st1.fresh)).trans (Ste.of_below (T:=rtC) q3 (fun i hi=>st1.fresh i (Nat.le_trans q2.size hi)))
 have hcc:=HC.out ρ1 W3 st3.fresh h3 st3
 have b5l:=b5.lt
 rw[<-hW3]
 have HF:=Lib.hid (And.intro b5 (And.intro hz st3))
 clear b2 hz h1 st1 b1 b3 b4 d0 d1 d2 hW3 q3 h3 b5 st3 q2 lk hmm i1 i2 i3 i4 i5
 refine hcc.mono ?_
 rintro e w5 ⟨v,rfl,ρ5,ag5,hv,hC5,s5⟩
 clear hcc
 obtain⟨b5,hz,st3⟩:=HF.out
 obtain⟨A5,z5,rfl⟩:=hv.slice
 have b6:=b5.ste s5 (by rw[hz];exact rtC24)
 have hz5:=(s5.old _ b5l).trans hz
 have st5:=st3.trans s5
 have e0:=b6.cell_ 0 rfl
 have e1:=b6.cell_ 1 rfl
 have f0:=b6.frozen 0
 have f1:=b6.frozen 1
 have lb:=b6.lt
 have HK:=Lib.hid (And.intro b6 (And.intro hz5 (And.intro hC5 (And.intro st5 hv))))
 obtain⟨nb,hnb⟩:∃nb,nb=b.length:=⟨_,rfl⟩
 rw[<-hnb]
 have HNB:=Lib.hid hnb
 clear b5 hz st3 b6 hz5 hC5 st5 hv s5 hnb
 go_wp2_with fail
 obtain⟨b6,hz5,hC5,st5,hv⟩:=HK.out
 rw[<-HNB.out]at hv
 exact ret_cell 4 38 (by rfl) (w.heap.size+1) 0 (by rfl) [.int .i64 er,.slice A5 nb z5] _ (tend b6 hz5 (by omega) hC5 st5 _ _).1.range Tryz.underlying38 rfl sz38 rfl (tany b6 hz5 (by omega) hC5 st5 hv er)
end Go.Proofs.YtggmdjdflaglpaaGreat
namespace Go.Proofs.YtggmdjdflaglpaaGreat
open Go.RowKit Go.Proofs.YtggmdjdflaglpaaGreat.geo
open Go.Proofs.YtggmdjdflaglpaaGreat.r27 (okc is_ok is_no nokc)
set_option linter.unusedVariables false
def HasD (p:Nat->Prop) (w:World) (v:Value) (l:By):Prop:=∃A c,v=.slice A l.length c/\(l.length=32->HasP p w v l)
theorem HasD.of {p:Nat->Prop}{w:World}{v:Value}{l:By}(h:HasP p w v l):HasD p w v l:=by
 obtain⟨A,c,e⟩:=h.slice
 exact⟨A,c,e,fun _=>h⟩
theorem HasD.slice {p:Nat->Prop}{w:World}{v:Value}{l:By}(h:HasD p w v l):∃A c,v=.slice A l.length c:=by
 obtain⟨A,c,e,_⟩:=h
 exact⟨A,c,e⟩
theorem HasD.has {p:Nat->Prop}{w:World}{v:Value}{l:By}(h:HasD p w v l) (hl:l.length=32):HasP p w v l:=by
 obtain⟨_,_,_,h⟩:=h
 exact h hl
theorem HasD.below_ {p:Nat->Prop}{w w':World}{v:Value}{l:By}(h:HasD p w v l) (hb:Below w.heap.size w w'):HasD p w' v l:=by
 obtain⟨A,c,e,h⟩:=h
 exact⟨A,c,e,fun hl=>(h hl).below_ hb⟩
theorem HasD.weakB {p q:Nat->Prop}{w:World}{v:Value}{l:By}(h:HasD p w v l) (hpq:∀b,b<w.heap.size->p b->q b):HasD q w v l:=by
 obtain⟨A,c,e,h⟩:=h
 exact⟨A,c,e,fun hl=>(h hl).weakB hpq⟩
theorem cdo_ok (HO:OpenOk) (HS:SumOk) (HT:ShutOk) (ρ:Rl) (a:Ads) (cc m ag:Nat) (C:Cch) (k t:Nat) (kd l:Int) (data:By) (vd:Value) (w:World) (hf:Fresh ρ w) (h:CchR ρ w a cc m ag C) (hC:Cok C k t) (hk6:k<=300000) (ht:t<=900) (htw:C.tw) (hv:HasD (fun b=>¬rtC (ρ b)) w vd data):
 Calls Tryz.prog 44 #[.pointer (some ⟨cc,0,none⟩),.agg #[.int .i64 kd,.int .i64 l,vd]] w (TolP ρ a cc m (cdo C kd l data).1 (cdo C kd l data).2.1 (cdo C kd l data).2.2 w):=by
 have hvv:=hv
 obtain⟨Av,c,rfl⟩:=hv.slice
 unfold cdo
 cases hg:C.W.pow.gone with
 |true=>rw[if_pos rfl];exact do_not ρ a cc m ag C kd l Av data.length c w hf h 7 (.inl ⟨hg,rfl⟩)
 |false=>
  rw[if_neg (by simp)]
  cases hp:C.pois with
  |true=>rw[if_pos rfl];exact do_not ρ a cc m ag C kd l Av data.length c w hf h 4 (.inr (.inl ⟨hg,hp,rfl⟩))
  |false=>
   rw[if_neg (by simp)]
   by_cases hok:okc kd l data.length
   ·rw[if_neg (by simpa using hok)]
    have hok':=hok
    rcases hok' with⟨h1|h1,h2,h3⟩|⟨h1,⟨h2,h3⟩,h4⟩|h1|h1
    ·subst h1
     rw[if_pos rfl]
     obtain⟨x,rfl⟩:∃x:Nat,l=x:=⟨l.toNat,by omega⟩
     rw[Int.toNat_natCast]
     exact do_go0 ρ a cc m ag C x Av data.length c w hf h hg hp hok _ _ _ (fun ρ1 W hf1 hc1 _=>read_ok HO HT ρ1 a cc m ag C k t 1 x Av data.length c W hf1 hc1 hC hk6 ht (by omega))
    ·subst h1
     rw[if_neg (by decide),if_neg (by decide),if_neg (by decide),if_pos rfl]
     obtain⟨x,rfl⟩:∃x:Nat,l=x:=⟨l.toNat,by omega⟩
     rw[Int.toNat_natCast]
     exact do_go3 ρ a cc m ag C x Av data.length c w hf h hg hp hok _ _ _ (fun ρ1 W hf1 hc1 _=>discard_ok HO HS HT ρ1 a cc m ag C k t 4 x Av data.length c W hf1 hc1 hC hk6 ht (by omega))
    ·subst h1
     rw[if_neg (by decide),if_pos rfl]
     obtain⟨x,rfl⟩:∃x:Nat,l=x:=⟨l.toNat,by omega⟩
     rw[Int.toNat_natCast]
     exact do_go1 ρ a cc m ag C x Av data.length c w hf h hg hp hok _ _ _ (fun ρ1 W hf1 hc1 s1=>write_ok HO HS HT ρ1 a cc m ag C k t 2 x data (.slice Av data.length c) W hf1 hc1 hC hk6 ht (by omega) ((hvv.has h4).steN s1) h4)
    ·subst h1
     rw[if_neg (by decide),if_neg (by decide),if_pos rfl]
     exact do_go2 ρ a cc m ag C l Av data.length c w hf h hg hp hok _ _ _ (fun ρ1 W hf1 hc1 _=>flush_ok HS HT ρ1 a cc m ag C k t 3 l Av data.length c W hf1 hc1 hC (by omega))
    ·subst h1
     rw[if_neg (by decide),if_neg (by decide),if_neg (by decide),if_neg (by decide)]
     exact do_go4 ρ a cc m ag C l Av data.length c w hf h hg hp hok _ _ _ (fun ρ1 W hf1 hc1 _=>rotate_ok HO HS HT ρ1 a cc m ag C k t 5 l Av data.length c W hf1 hc1 hC (by omega) htw)
   ·rw[if_pos hok]
    exact do_not ρ a cc m ag C kd l Av data.length c w hf h 1 (.inr (.inr ⟨hg,hp,hok,rfl⟩))
theorem tw_bad {C:Cch}(h:C.tw):C.bad.tw:=h
theorem tw_lay {C:Cch}(h:C.tw) (hn:C.M.n≠100) (s x:Nat) (data:By):(lcch C s x data).tw:=fun ht=>by
 rcases h ht with e|e
 ·exact absurd e hn
 ·exact .inr (spend_keep (show C.W.pow.gone=true from e))
theorem cputs_W (C:Cch) (s:Nat) (l:Lf):(cputs C s l).W=C.W/\(cputs C s l).M=C.M:=by
 unfold cputs
 split<;>exact⟨rfl,rfl⟩
theorem tw_of {C D:Cch}(h:C.tw) (h1:D.W=C.W) (h2:D.M=C.M):D.tw:=fun ht=>by
 rw[h1]at ht ⊢
 rw[h2]
 exact h ht
theorem dread_len {W:Wld}{D:Dsk}(hl:∀i,i<32->(D.lasts i).length=32) (hw:∀o∈D.waits,o.bytes.length=32) {x:Nat}(hx:x<32):(dread D x).length=32:=by
 unfold dread
 have:∀(L:List Opn) (b:By),b.length=32->(∀o∈L,o.bytes.length=32)->(L.foldl (dstep x) b).length=32:=by
  intro L
  induction L with
  |nil=>exact fun b hb _=>hb
  |cons o L ih=>
   intro b hb h
   refine ih _ ?_ (fun o' ho=>h o' (by simp[ho]))
   unfold dstep
   split
   ·exact h o (by simp)
   ·exact hb
 exact this _ _ (hl x hx) hw
end Go.Proofs.YtggmdjdflaglpaaGreat
namespace Go.Proofs.YtggmdjdflaglpaaGreat
open Go.RowKit Go.Proofs.YtggmdjdflaglpaaGreat.geo
open Go.Proofs.YtggmdjdflaglpaaGreat.r27 (okc)
set_option linter.unusedVariables false
def Dsk.ok (D:Dsk):Prop:=(∀i,i<32->(D.lasts i).length=32)/\∀o∈D.waits,o.dk
theorem Dsk.ok.len {D:Dsk}(h:D.ok) {x:Nat}(hx:x<32):(dread D x).length=32:=dread_len (W:=⟨0,⟨false,false,0⟩,⟨[],[],0⟩,D,⟨0,0,0⟩,⟨0,0,false⟩,.real⟩) h.1 (fun o ho=>(h.2 o ho).2.2) hx
theorem Dsk.ok.push {D:Dsk}(h:D.ok) {k:Int}{b:By}(k0:0<=k) (k1:k<32) (hb:b.length=32):(dpush D k b).ok:=⟨h.1,fun o ho=>by
 rcases List.mem_append.1 ho with ho|ho
 ·exact h.2 o ho
 ·rw[List.mem_singleton.1 ho]
  exact⟨k0,k1,hb⟩⟩
theorem Dsk.ok.settled {D:Dsk}(h:D.ok):(dsettled D).ok:=⟨fun i hi=>h.len hi,fun o ho=>by simp[dsettled]at ho⟩
theorem dok_dwr {W:Wld}(h:W.dsk.ok) {k:Int}{b:By}(k0:0<=k) (k1:k<32) (hb:b.length=32):(W.dwr k b).dsk.ok:=by
 unfold Wld.dwr
 split
 ·exact h
 ·simp only
  split
  ·exact h.push k0 k1 hb
  ·exact h
theorem dok_dbar {W:Wld}(h:W.dsk.ok):W.dbar.dsk.ok:=by
 unfold Wld.dbar
 simp only
 split
 ·exact h.settled
 ·exact h
structure Cin (C:Cch) (k t:Nat):Prop where
 cok:Cok C k t
 tw:C.tw
 dok:C.W.dsk.ok
theorem Cin.mono {C:Cch}{k t k' t':Nat}(h:Cin C k t) (hk:k<=k') (ht:t<=t'):Cin C k' t':=⟨h.cok.mono hk ht,h.tw,h.dok⟩
theorem Cin.commit {C:Cch}{k t:Nat}(h:Cin C k t) (hk:k<=900000):Cin (ccommit C).2 (k+50) t:=
 ⟨h.cok.commit hk,tw_commit h.tw,by show(cmt C.W C.M C.now).2.1.dsk.ok;rw[(cmt_same C.W C.M C.now).2.2.1];exact h.dok⟩
theorem Cin.bad {C:Cch}{k t:Nat}(h:Cin C k t):Cin C.bad k t:=⟨h.cok.bad,h.tw,h.dok⟩
theorem Cin.val {C:Cch}{k t:Nat}(h:Cin C k t) (s:Nat):Cin (cval C s).2.2 k t:=by
 rcases cval_cch C s with e|e<;>rw[e]
 ·exact h
 ·exact h.bad
theorem Cin.drops {C:Cch}{k t:Nat}(h:Cin C k t) {s:Nat}(hs:s<C.now.length):Cin (cdrops C s) k t:=⟨h.cok.drops hs,h.tw,h.dok⟩
theorem tw_spill {C:Cch}(h:C.tw) (s:Nat):(cspill C s).2.tw:=fun ht=>by
 rw[(cspill_now C s).2.2.2.2.2.1]at ht
 rcases h ht with e|e
 ·exact .inl (by rw[(cspill_now C s).2.2.2.1];exact e)
 ·exact .inr (cspill_gone e s)
theorem Cin.spill {C:Cch}{k t:Nat}(h:Cin C k t) {s:Nat}(hs:s<C.now.length):Cin (cspill C s).2 (k+2) t:=by
 refine⟨h.cok.spill s,tw_spill h.tw s,?_⟩
 unfold cspill
 split
 ·rcases cval_cch C s with e|e<;>rw[e]<;>exact h.dok
 ·rename_i he
  have he':(cval C s).1=0:=by
   rcases cval_err C s with e|e|e
   ·exact e.1
   ·rw[e.1]at he;exact absurd (by decide) he
   ·rw[e.1]at he;exact absurd (by decide) he
  have:=(h.cok.ok s).bd.2.1
  exact dok_dwr h.dok (by omega) (by omega) (h.cok.vlen hs he')
theorem tw_dbar {C:Cch}(h:C.tw):(C.wld C.W.dbar).tw:=fun ht=>by
 rcases h ht with e|e
 ·exact .inl e
 ·exact .inr (spend_keep e)
theorem Cin.dbar {C:Cch}{k t:Nat}(h:Cin C k t):Cin (C.wld C.W.dbar) (k+1) t:=⟨h.cok.dbar,tw_dbar h.tw,dok_dbar h.dok⟩
theorem Cin.evict {C:Cch}{k t:Nat}(h:Cin C k t) (hk:k<=800000) {s:Nat}(hs:s<C.now.length):Cin (cevict C s).2 (k+53) t:=by
 have h1:=h.spill hs
 have hl:s<(cspill C s).2.now.length:=by rw[(cspill_now C s).1];exact hs
 unfold cevict
 split
 ·split
  ·exact h1.mono (by omega) (Nat.le_refl _)
  ·split
   ·exact h1.dbar.mono (by omega) (Nat.le_refl _)
   ·exact(h1.dbar.drops hl).commit (by omega)
 ·exact((h.drops hs).commit (by omega)).mono (by omega) (Nat.le_refl _)
theorem commit_was {C:Cch}(h:¬(ccommit C).1≠0):(ccommit C).2.was=(ccommit C).2.now:=by
 have h2':(cmt C.W C.M C.now).1=0:=by
  have:¬(cmt C.W C.M C.now).1≠0:=h
  omega
 show(if(cmt C.W C.M C.now).1=0 then C.now else C.was)=C.now
 rw[if_pos h2']
theorem Cin.room {C:Cch}{k t:Nat}(h:Cin C k t) (hk:k<=700000):Cin (croom C).2 (k+103) t:=by
 unfold croom
 split
 ·exact h.mono (by omega) (Nat.le_refl _)
 ·have h1:=h.commit (by omega)
  split
  ·exact h1.mono (by omega) (Nat.le_refl _)
  ·rename_i h2
   split
   ·exact h1.mono (by omega) (Nat.le_refl _)
   ·rename_i h3
    exact(h1.evict (by omega) (oldest_lt h1.cok (by omega) (commit_was h2)).1).mono (by omega) (Nat.le_refl _)
theorem Cin.lay {C:Cch}{k t:Nat}(h:Cin C k t) (hn:C.M.n≠100) {s:Nat}(hs:s<C.now.length) (x:Nat) (data:By) (hd:data.length=32):Cin (lcch C s x data) (k+3) t:=⟨h.cok.lay hn hs x data hd,tw_lay h.tw hn s x data,h.dok⟩
theorem Cin.puts {C:Cch}{k t:Nat}(h:Cin C k t) {s:Nat}(hs:s<C.now.length) {l:Lf}(hl:l.ok s) (h0:l.kind≠0):Cin (cputs C s l) k (t+1):=
 ⟨h.cok.puts hs hl h0,tw_of h.tw (cputs_W C s l).1 (cputs_W C s l).2,by rw[(cputs_W C s l).1];exact h.dok⟩
theorem Cin.touch {C:Cch}{k t:Nat}(h:Cin C k t) {s:Nat}(h0:(C.lf s).kind≠0):Cin (ctouch C s) k (t+1):=⟨h.cok.touch h0,h.tw,h.dok⟩
theorem Cin.layd {C:Cch}{k t:Nat}(h:Cin C k t) (hk:k<=900000) {s:Nat}(hs:s<C.now.length) {x:Nat}(hx:x<32) (data:By) (hd:data.length=32) (d:Bool):
 Cin (clay C s x data d).2.2 (k+3) t/\((clay C s x data d).1=0->Cin (cputs (clay C s x data d).2.2 s (clay C s x data d).2.1) (k+3) (t+1)):=by
 have h16:=h.cok.n16
 rcases clay_err C s x data d with⟨e1,e2,e3⟩|⟨e1,e2,e3⟩|⟨e1,e2,e3,_⟩
 ·rw[e2]
  have hl:=h.lay e3 hs x data hd
  exact⟨hl,fun _=>hl.puts hs (lleaf_ok h.cok hk (by omega) hx data d) Nat.one_ne_zero⟩
 ·rw[e2,e1]
  exact⟨h.mono (by omega) (Nat.le_refl _),fun c=>absurd c (by decide)⟩
 ·rw[e2,e1]
  exact⟨h.lay e3 hs x data hd,fun c=>absurd c (by decide)⟩
theorem free_nat {C:Cch}(h:¬free C<0):∃s:Nat,free C=s/\s<C.now.length:=by
 rcases free_bd C with e|⟨s,e,h,_⟩
 ·omega
 ·exact⟨s,e,h⟩
theorem Cin.read {C:Cch}{k t:Nat}(h:Cin C k t) (hk:k<=700000) {x:Nat}(hx:x<32):Cin (cread C x).2.2 (k+3) (t+1):=by
 unfold cread
 split
 ·rename_i h0
  rcases slotOf_bd C.now x with e|⟨s,e,hs,h1,_⟩
  ·omega
  ·rw[e,Int.toNat_natCast]
   split
   ·exact(h.val s).mono (by omega) (by omega)
   ·exact(h.touch h1).mono (by omega) (Nat.le_refl _)
 ·split
  ·exact h.mono (by omega) (by omega)
  ·split
   ·exact h.mono (by omega) (by omega)
   ·rename_i hf
    obtain⟨s,hs,hsl⟩:=free_nat (fun c=>hf (.inl c))
    rw[hs,Int.toNat_natCast]
    have hl:=h.layd (by omega) hsl hx (dread C.W.dsk x) (h.dok.len hx) false
    split
    ·exact hl.1.mono (Nat.le_refl _) (by omega)
    ·rename_i h0
     exact hl.2 (by omega)
theorem Cin.write {C:Cch}{k t:Nat}(h:Cin C k t) (hk:k<=700000) {x:Nat}(hx:x<32) {data:By}(hd:data.length=32):Cin (cwrite C x data).2 (k+106) (t+1):=by
 have h1:=h.room hk
 have hfr:=room_free h.cok hk
 unfold cwrite
 split
 ·exact h1.mono (by omega) (by omega)
 ·rename_i h2
  obtain⟨s,hs,hsl⟩:=free_nat (C:=(croom C).2) (by have:=hfr (by omega);omega)
  rw[hs,Int.toNat_natCast]
  have hl:=h1.layd (by omega) hsl hx data hd true
  split
  ·exact hl.1.mono (by omega) (by omega)
  ·rename_i h0
   exact hl.2 (by omega)
theorem Cin.discard {C:Cch}{k t:Nat}(h:Cin C k t) (hk:k<=700000) {x:Nat}(hx:x<32):Cin (cdiscard C x).2 (k+106) (t+1):=by
 have h1:=h.room hk
 have hfr:=room_free h.cok hk
 unfold cdiscard
 split
 ·exact h1.mono (by omega) (by omega)
 ·rename_i h2
  obtain⟨s,hs,hsl⟩:=free_nat (C:=(croom C).2) (by have:=hfr (by omega);omega)
  rw[hs,Int.toNat_natCast]
  exact(h1.puts hsl (.inr (.inl ⟨x,hx,rfl⟩)) (by show(2:Nat)≠0;decide)).mono (by omega) (Nat.le_refl _)
theorem Cin.spills {C:Cch}{k t:Nat}(h:Cin C k t):∀i,i<=C.now.length->Cin (cspills C i).2.1 (k+2*i) t
 |0,_=>h
 |i+1,hi=>by
  have ih:=h.spills i (by omega)
  unfold cspills
  split
  ·exact ih.mono (by omega) (Nat.le_refl _)
  ·split
   ·exact(ih.spill (by rw[(cspills_now C i).1];omega)).mono (by omega) (Nat.le_refl _)
   ·exact ih.mono (by omega) (Nat.le_refl _)
theorem Cin.clear {C:Cch}{k t:Nat}(h:Cin C k t):Cin (cclear C) k t:=⟨h.cok.clear,h.tw,h.dok⟩
theorem Cin.empty {C:Cch}{k t:Nat}(h:Cin C k t):Cin (cempty C).2 (k+33) t:=by
 have hn:=h.cok.n16
 have h1:=h.spills C.now.length (Nat.le_refl _)
 unfold cempty
 split
 ·exact h1.mono (by omega) (Nat.le_refl _)
 ·split
  ·split
   ·exact h1.dbar.mono (by omega) (Nat.le_refl _)
   ·exact h1.dbar.clear.mono (by omega) (Nat.le_refl _)
  ·exact h1.clear.mono (by omega) (Nat.le_refl _)
theorem tw_forget (C:Cch):(cforget C).2.tw:=by
 unfold cforget
 split
 ·rename_i he
  rcases cmt_err C.W C.M C.now with⟨e,_⟩|⟨_,_,h3,h4,_⟩|⟨_,h2⟩
  ·exact absurd e he
  ·exact fun _=>.inl (by show(cmt C.W C.M C.now).2.2.n=100;rw[h4];exact h3)
  ·exact fun _=>.inr h2
 ·cases hs:(spend (ccommit C).2.W.pow).2 with
  |true=>
   intro ht
   have ht':(if(spend (ccommit C).2.W.pow).2 then(⟨(ccommit C).2.W.kys.seed,(ccommit C).2.W.kys.a+1,false⟩:Kys)else(ccommit C).2.W.kys).two=true:=ht
   rw[if_pos hs]at ht'
   cases ht'
  |false=>exact fun _=>.inr (spend_no hs)
theorem forget_cok {C:Cch}{k t:Nat}(h:Cok C k t) (hk:k<=900000):Cok (cforget C).2 (k+51) t:=by
 unfold cforget
 split
 ·exact(h.commit hk).mono (by omega) (Nat.le_refl _)
 ·exact(h.commit hk).kdel
theorem forget_dok {C:Cch}(h:C.W.dsk.ok):(cforget C).2.W.dsk.ok:=by
 unfold cforget
 split
 ·show(cmt C.W C.M C.now).2.1.dsk.ok
  rw[(cmt_same C.W C.M C.now).2.2.1];exact h
 ·show(cmt C.W C.M C.now).2.1.dsk.ok
  rw[(cmt_same C.W C.M C.now).2.2.1];exact h
theorem Cin.rotate {C:Cch}{k t:Nat}(h:Cin C k t) (hk:k<=700000):Cin (crotate C).2 (k+140) t:=by
 have h1:=h.commit (by omega)
 have h2:=h1.empty
 unfold crotate
 split
 ·exact h1.mono (by omega) (Nat.le_refl _)
 ·split
  ·exact h2.mono (by omega) (Nat.le_refl _)
  ·split
   ·rename_i hs
    exact⟨h2.cok.kadd.mono (by omega) (Nat.le_refl _),fun _=>.inr (spend_no hs),h2.dok⟩
   ·exact⟨(forget_cok h2.cok.kadd (by omega)).mono (by omega) (Nat.le_refl _),tw_forget _,forget_dok h2.dok⟩
theorem Cin.do_ {C:Cch}{k t:Nat}(h:Cin C k t) (hk:k<=700000) (kd l:Int) (data:By):Cin (cdo C kd l data).2.2 (k+140) (t+1):=by
 unfold cdo
 split
 ·exact h.mono (by omega) (by omega)
 ·split
  ·exact h.mono (by omega) (by omega)
  ·split
   ·exact h.mono (by omega) (by omega)
   ·rename_i hok
    have hok':okc kd l data.length:=by simpa using hok
    split
    ·rename_i e
     subst e
     have:l.toNat<32:=by unfold okc at hok';omega
     exact(h.read hk this).mono (by omega) (Nat.le_refl _)
    ·split
     ·rename_i e
      subst e
      have h1:l.toNat<32:=by unfold okc at hok';omega
      have h2:data.length=32:=by unfold okc at hok';omega
      exact(h.write hk h1 h2).mono (by omega) (Nat.le_refl _)
     ·split
      ·exact(h.commit (by omega)).mono (by omega) (by omega)
      ·split
       ·rename_i e
        subst e
        have h1:l.toNat<32:=by unfold okc at hok';omega
        exact(h.discard hk h1).mono (by omega) (Nat.le_refl _)
       ·exact(h.rotate hk).mono (by omega) (by omega)
end Go.Proofs.YtggmdjdflaglpaaGreat
namespace Go.Proofs.YtggmdjdflaglpaaGreat
open Go.RowKit Go.Proofs.YtggmdjdflaglpaaGreat.geo
set_option linter.unusedVariables false
theorem over_at {l:By}{o:Opn}(h:o.in_ l.length) (j:Nat):
 (over l o)[j]? =if o.off.toNat<=j/\j<o.off.toNat+o.bytes.length then o.bytes[j-o.off.toNat]? else l[j]? :=by
 obtain⟨h0,h1,_⟩:=h
 unfold over
 have hl:(l.take o.off.toNat).length=o.off.toNat:=by rw[List.length_take];omega
 rw[List.append_assoc]
 by_cases c1:j<o.off.toNat
 ·rw[if_neg (by omega),List.getElem?_append_left (by omega),List.getElem?_take,if_pos c1]
 ·rw[List.getElem?_append_right (by omega),hl]
  by_cases c2:j<o.off.toNat+o.bytes.length
  ·rw[if_pos ⟨by omega,c2⟩,List.getElem?_append_left (by omega)]
  ·rw[if_neg (by omega),List.getElem?_append_right (by omega),List.getElem?_drop]
   congr 1
   omega
theorem over_far {l:By}{o:Opn}(h:o.in_ l.length) {p n:Nat}(hd:(p+n:Int)<=o.off\/o.off+o.bytes.length<=p):((over l o).drop p).take n=(l.drop p).take n:=by
 apply List.ext_getElem?
 intro j
 rw[List.getElem?_take,List.getElem?_take]
 split
 ·rename_i hj
  rw[List.getElem?_drop,List.getElem?_drop,over_at h,if_neg]
  have:=h.1
  omega
 ·rfl
theorem over_on {l:By}{o:Opn}(h:o.in_ l.length) {p:Nat}(hp:(p:Int)=o.off):((over l o).drop p).take o.bytes.length=o.bytes:=by
 apply List.ext_getElem?
 intro j
 rw[List.getElem?_take]
 split
 ·rename_i hj
  rw[List.getElem?_drop,over_at h,if_pos (by omega)]
  congr 1
  omega
 ·rename_i hj
  rw[List.getElem?_eq_none (by omega)]
theorem snap_push (S:Ssd) (off:Int) (b:By):snap (push S off b)=over (snap S) ⟨off,b⟩:=by
 unfold snap push
 simp only[List.foldl_append,List.foldl_cons,List.foldl_nil]
theorem sbytes_swr_far {W:Wld}{k:Nat}(hf:W.fit k) {off:Int}{b:By}(hin:(⟨off,b⟩:Opn).in_ W.ssd.lasts.length) {p n:Nat}(hd:(p+n:Int)<=off\/off+b.length<=p):(W.swr off b).sbytes p n=W.sbytes p n:=by
 unfold Wld.sbytes Wld.swr
 simp only
 split
 ·rw[snap_push]
  exact over_far (by rw[snap_len _ hf.wts];exact hin) hd
 ·rfl
theorem sbytes_swr_on {W:Wld}{k:Nat}(hf:W.fit k) {off:Int}{b:By}(hin:(⟨off,b⟩:Opn).in_ W.ssd.lasts.length) {p:Nat}(hp:(p:Int)=off) (hs:(spend W.pow).2=true):(W.swr off b).sbytes p b.length=b:=by
 unfold Wld.sbytes Wld.swr
 simp only
 rw[if_pos hs,snap_push]
 exact over_on (o:=⟨off,b⟩) (by rw[snap_len _ hf.wts];exact hin) hp
theorem sbytes_sbar (W:Wld) (p n:Nat):W.sbar.sbytes p n=W.sbytes p n:=by
 unfold Wld.sbytes Wld.sbar
 simp only
 split<;>rfl
theorem sbytes_lck (W:Wld) (L:Lk) (p n:Nat):(W.lck L).sbytes p n=W.sbytes p n:=rfl
theorem sbytes_bmp (W:Wld) (p n:Nat):W.bmp.sbytes p n=W.sbytes p n:=rfl
theorem vopen_le {W W':Wld}{l:Lf}{s:Nat}{b:By}(h:W.vopen l s=some b) (hk:∀e,e∈W.kys.es->e∈W'.kys.es) (hs:W'.kys.seed=W.kys.seed) (hl:W.lk.le W'.lk) (hb:W'.sbytes (s*32) 32=W.sbytes (s*32) 32):W'.vopen l s=some b:=by
 unfold Wld.vopen at h ⊢
 split at h
 ·rename_i he
  rw[if_pos (hk _ he),hs,hb]
  exact Lk.opens_le hl h
 ·cases h
section
variable {W:Wld}{M:Mk}{ls:List Lf}{k:Nat}
theorem sbytes_awr (hf:W.fit k) {j:Nat}(hj:j<2) (hn:ls.length=W.slots) {s:Nat}(hs:s<W.slots):(awr W j ls).2.2.sbytes (s*32) 32=W.sbytes (s*32) 32:=by
 have hV:=hf.geo
 have hn16:4<=ls.length/\ls.length<=16:=by unfold V at hV;omega
 have f1:(aw1 W ls).fit (k+32):=(hf.mono (by omega)).lck (bldL_lim hf.lk _ (by rw[List.length_map];omega))
 have hkn:=kn_le (n:=ls.length) hj
 have i2:(⟨((aoff ls.length j:Nat):Int),allB ls ls.length⟩:Opn).in_ (aw1 W ls).ssd.lasts.length:=by
  refine in_gen (by rw[allB_len ls _ (Nat.le_refl _)];omega) ?_
  show aoff ls.length j+_<=W.ssd.lasts.length
  rw[hf.size,allB_len ls _ (Nat.le_refl _),<-hn]
  unfold aoff
  omega
 have f2:(aw2 W j ls).fit (k+34):=f1.swr i2
 have i3:(⟨((noff ls.length j:Nat):Int),sumB (bldN W.lk (ls.map leafB)) (2*ls.length)⟩:Opn).in_ (aw2 W j ls).ssd.lasts.length:=by
  refine in_gen (by rw[sumB_len];omega) ?_
  have hs:=f2.size
  have hsl:(aw2 W j ls).slots=W.slots:=rfl
  rw[hsl]at hs
  rw[hs,sumB_len,<-hn]
  unfold noff
  omega
 have e2:(aw2 W j ls).sbytes (s*32) 32=W.sbytes (s*32) 32:=by
  unfold aw2
  rw[sbytes_swr_far f1 i2 (.inl (by unfold aoff;omega))]
  rfl
 have e3:(aw3 W j ls).sbytes (s*32) 32=W.sbytes (s*32) 32:=by
  unfold aw3
  rw[sbytes_swr_far f2 i3 (.inl (by unfold noff;omega)),e2]
 unfold awr
 split
 ·split
  ·exact e3
  ·exact e3
 ·exact e2
theorem sbytes_lgput (hf:W.fit k) {c:Nat}{t:Two}{s:Nat}(hs:s<W.slots):(lgput W M c t).2.1.sbytes (s*32) 32=W.sbytes (s*32) 32:=by
 unfold lgput
 split
 ·rfl
 ·have f1:(rlck W M c t).fit (k+1):=(hf.mono (by omega)).lck (Lk.lim_shutd hf.lk _ _ _ _)
  have hl:(rrec W M c t).length=60:=recB_len _ _ _ _ (Lk.shut_len _ _ _ _ _ (rootB_len _ _ _ _))
  have hm:c%2<=1:=by omega
  have i1:(⟨((roff W c:Nat):Int),rrec W M c t⟩:Opn).in_ (rlck W M c t).ssd.lasts.length:=in_gen (by rw[hl];omega) (by
   show roff W c+_<=W.ssd.lasts.length
   rw[hf.size,hl]
   unfold roff
   omega)
  rw[sbytes_swr_far f1 i1 (.inl (by unfold roff;omega))]
  rfl
theorem sbytes_cmt (hf:W.fit k) (hk:k<=900000) (hn:ls.length=W.slots) {s:Nat}(hs:s<W.slots):(cmt W M ls).2.1.sbytes (s*32) 32=W.sbytes (s*32) 32:=by
 have a1:(cA W ls).2.2.sbytes (s*32) 32=W.sbytes (s*32) 32:=sbytes_awr hf (mod2_lt _) hn hs
 have fa:(cA W ls).2.2.fit (k+40):=awr_fit hf (mod2_lt _) hn
 have a2:(cA W ls).2.2.sbar.sbytes (s*32) 32=W.sbytes (s*32) 32:=(sbytes_sbar _ _ _).trans a1
 have g1:(cG W M ls).2.1.sbytes (s*32) 32=W.sbytes (s*32) 32:=(sbytes_lgput fa.sbar (by rw[show(cA W ls).2.2.sbar.slots=W.slots from(awr_slots W _ ls).1];exact hs)).trans a2
 have g2:(cG W M ls).2.1.sbar.sbytes (s*32) 32=W.sbytes (s*32) 32:=(sbytes_sbar _ _ _).trans g1
 rw[cmt_eq]
 split
 ·exact a1
 ·split
  ·exact a2
  ·split
   ·exact g1
   ·split
    ·exact g2
    ·exact g2
end
theorem vopen_commit {C:Cch}{k t:Nat}(h:Cok C k t) (hk:k<=900000) {s:Nat}(hs:s<C.now.length) {l:Lf}{b:By}(ho:C.W.vopen l s=some b):(ccommit C).2.W.vopen l s=some b:=by
 have hc:=cmt_same C.W C.M C.now
 refine vopen_le ho (fun e he=>?_) ?_ hc.2.2.2.1 ?_
 ·show e∈(cmt C.W C.M C.now).2.1.kys.es;rw[hc.2.1];exact he
 ·show(cmt C.W C.M C.now).2.1.kys.seed=_;rw[hc.2.1]
 ·exact sbytes_cmt h.fit hk h.nl (by rw[<-h.nl];exact hs)
theorem vopen_lay {C:Cch}{k t:Nat}(h:Cok C k t) {s s' x:Nat}{data:By}(hd:data.length=32) (hs':s'<C.now.length) (hne:s≠s') {l:Lf}{b:By}(ho:C.W.vopen l s=some b):(lwld C s' x data).vopen l s=some b:=by
 have hlen:(lsh C s' x data).1.length=32:=Lk.shut_len _ _ _ _ _ hd
 refine vopen_le ho (fun e he=>he) rfl (Lk.le_shutd _ _ _ _ _) ?_
 unfold lwld
 have f1:(C.W.lck (C.W.lk.shutd C.W.curKey (lnce C s') (headB x) data)).fit (k+1):=(h.fit.mono (by omega)).lck (Lk.lim_shutd h.fit.lk _ _ _ _)
 rw[sbytes_swr_far f1 (lin_ok h hs' _ hlen) (by rw[hlen];omega)]
 rfl
theorem vopen_laid {C:Cch}{k t:Nat}(h:Cok C k t) {s x:Nat}{data:By}(hd:data.length=32) (hs:s<C.now.length) (hsp:(spend C.W.pow).2=true) (d:Bool):(lwld C s x data).vopen (lleaf C s x data d) s=some data:=by
 have hlen:(lsh C s x data).1.length=32:=Lk.shut_len _ _ _ _ _ hd
 have f1:(C.W.lck (C.W.lk.shutd C.W.curKey (lnce C s) (headB x) data)).fit (k+1):=(h.fit.mono (by omega)).lck (Lk.lim_shutd h.fit.lk _ _ _ _)
 have hb:(lwld C s x data).sbytes (s*32) 32=(lsh C s x data).1:=by
  have:=sbytes_swr_on f1 (lin_ok h hs _ hlen) (p:=s*32) rfl hsp
  rw[hlen]at this
  exact this
 unfold Wld.vopen
 have he:(lleaf C s x data d).n.ep.toNat=C.W.kys.cur:=by
  show((lnce C s).ep).toNat=_
  simp[lnce,Mk.nonce]
 rw[he,if_pos,hb]
 ·exact Lk.opens_shut h.good _ _ _ _ hd
 ·show C.W.kys.cur∈C.W.kys.es
  unfold Kys.cur Kys.es
  split<;>simp
end Go.Proofs.YtggmdjdflaglpaaGreat
