/- lockboxtop.TopRefuses: the walk. -/
import Derived.Test.YtggmdjdflaglpaaGreatR40
namespace Go.Proofs.YtggmdjdflaglpaaGreat
open Go.RowKit Go.Proofs.YtggmdjdflaglpaaGreat.geo
open Go.Proofs.YtggmdjdflaglpaaGreat.r27 (okc upd RI rnew_ok rdo_bad rdo_read rdo_write rdo_discard rdo_flush same_data same_none Data32 zeros)
set_option linter.unusedVariables false
structure Rnd (w:World) (bx:Nat) (a:Ads) (cc m g i:Nat) (wr:World) (ρ:Rl) (ag:Nat) (C:Cch) (B L:Nat->By):Prop where
 box:BoxR ρ wr bx a cc m ag (.slice none 0 0) C
 cin:Cin C (1+140*i) (16+i)
 inv:Inv C B
 ref:RI wr g B L
 gz:ρ g=25
 gge:w.heap.size<=g
 old:∀b,b<w.heap.size->ρ b=0
 fresh:Fresh ρ wr
 bel:Below w.heap.size w wr
theorem Rnd.next {w:World}{bx:Nat}{a:Ads}{cc m g i:Nat}{wr:World}{ρ:Rl}{ag:Nat}{C:Cch}{B L:Nat->By}(h:Rnd w bx a cc m g i wr ρ ag C B L):Rnd w bx a cc m g (i+1) wr ρ ag C B L:=
 ⟨h.box,h.cin.mono (by omega) (by omega),h.inv,h.ref,h.gz,h.gge,h.old,h.fresh,h.bel⟩
theorem RI.keepB {w w':World}{g:Nat}{N L:Nat->By}(h:RI w g N L) (hk:w'.heap[g]? =w.heap[g]?):RI w' g N L:=hk.trans h
theorem Rnd.act {w:World}{bx:Nat}{a:Ads}{cc m g i:Nat}{wr w':World}{ρ ρ':Rl}{ag ag':Nat}{C C':Cch}{B L:Nat->By}(h:Rnd w bx a cc m g i wr ρ ag C B L) (hb:BoxR ρ' w' bx a cc m ag' (.slice none 0 0) C') (hs:Ste rtC ρ wr ρ' w')
 (hc:Cin C' (1+140*(i+1)) (16+(i+1))) (hi:Inv C' B):Rnd w bx a cc m g (i+1) w' ρ' ag' C' B L:=
 ⟨hb,hc,hi,RI.keepB h.ref (hs.ch.keep g (Blk.lt h.ref) (by rw[h.gz];unfold rtC;decide)),(hs.old g (Blk.lt h.ref)).trans h.gz,h.gge,fun b hb2=>(hs.old b (Nat.lt_of_lt_of_le hb2 h.bel.size)).trans (h.old b hb2),hs.fresh,
  h.bel.trans (hs.below h.bel.size (fun b hb2=>by rw[h.old b hb2];exact rtC0))⟩
theorem BoxR.keep2 {ρ ρ':Rl}{w w':World}{bx:Nat}{a:Ads}{cc m ag:Nat}{sv:Value}{C:Cch}(h:BoxR ρ w bx a cc m ag sv C) (hs:w.heap.size<=w'.heap.size) (hk:∀b,b<w.heap.size->ρ b≠0->ρ b≠25->w'.heap[b]? =w.heap[b]? /\ρ' b=ρ b):BoxR ρ' w' bx a cc m ag sv C:=by
 have k:=hk bx h.1.lt (by rw[h.2.1];decide) (by rw[h.2.1];decide)
 exact⟨k.1.trans h.1,k.2.trans h.2.1,h.2.2.keep hs (fun b hb e=>hk b hb (by unfold rsC at e;omega) (by unfold rsC at e;omega))⟩
theorem Rnd.below_ {w:World}{bx:Nat}{a:Ads}{cc m g i:Nat}{wr w':World}{ρ:Rl}{ag:Nat}{C:Cch}{B L:Nat->By}(h:Rnd w bx a cc m g i wr ρ ag C B L) (q:Below wr.heap.size wr w'):Rnd w bx a cc m g i w' ρ ag C B L:=
 ⟨h.box.keep q.size (fun b hb _=>⟨q.block b hb,rfl⟩),h.cin,h.inv,RI.keepB h.ref (q.block g (Blk.lt h.ref)),h.gz,h.gge,h.old,fun i hi=>h.fresh i (Nat.le_trans q.size hi),h.bel.trans (q.mono h.bel.size)⟩
theorem Rnd.fin {w:World}{bx:Nat}{a:Ads}{cc m g i:Nat}{wr w5 w6 w8 w9:World}{ρ ρ5:Rl}{ag ag':Nat}{C C':Cch}{B B2 L L2:Nat->By}(h:Rnd w bx a cc m g i wr ρ ag C B L) (hb:BoxR ρ5 w5 bx a cc m ag' (.slice none 0 0) C') (hs:Ste rtC ρ wr ρ5 w5)
 (hc:Cin C' (1+140*(i+1)) (16+(i+1))) (hi:Inv C' B2) (q6:Below w5.heap.size w5 w6) (hri:RI w8 g B2 L2) (hg:w6.grownBy w8 (some g)) (q9:Below w8.heap.size w8 w9):Rnd w bx a cc m g (i+1) w9 ρ5 ag' C' B2 L2:=by
 have hgz:ρ5 g=25:=(hs.old g (Blk.lt h.ref)).trans h.gz
 have b5:Below w.heap.size w w5:=h.bel.trans (hs.below h.bel.size (fun b hb2=>by rw[h.old b hb2];exact rtC0))
 have b6:=b5.trans (q6.mono b5.size)
 have b8:=below_only b6 hg b6.size h.gge
 have hs9:w5.heap.size<=w9.heap.size:=Nat.le_trans q6.size (Nat.le_trans hg.size q9.size)
 refine⟨hb.keep2 hs9 (fun b hb2 _ h25=>⟨?_,rfl⟩),hc,hi,RI.keepB hri (q9.block g (Blk.lt hri)),hgz,h.gge,fun b hb2=>(hs.old b (Nat.lt_of_lt_of_le hb2 h.bel.size)).trans (h.old b hb2),fun i hi=>hs.fresh i (Nat.le_trans hs9 hi),b8.trans (q9.mono b8.size)⟩
 have l6:b<w6.heap.size:=Nat.lt_of_lt_of_le hb2 q6.size
 have l8:b<w8.heap.size:=Nat.lt_of_lt_of_le l6 hg.size
 rw[q9.block b l8,hg.block b l6 (fun e=>by injection e with e;rw[e]at h25;exact h25 hgz),q6.block b hb2]
theorem s5t {w:World}{g9 b o:Nat}{u v:Value}{x:ActV}(h:Blk w g9 38 #[u,v]) (hx:ActAt w b o x):w.cell? ⟨g9,0,none⟩=some u/\w.cell? ⟨g9,1,none⟩=some v/\w.cell? ⟨b,o+1,none⟩=some (.int .i64 x.kd)/\w.cell? ⟨b,o+2,none⟩=some (.int .i64 x.l)/\w.cell? ⟨b,o+3,none⟩=some (.slice x.V x.vn x.vc):=
 ⟨h.cell_ 0 rfl,h.cell_ 1 rfl,hx.cell 1 _ rfl,hx.cell 2 _ rfl,hx.cell 3 _ rfl⟩
theorem Cin.ref {C:Cch}{k t:Nat}(h:Cin C k t) (b:Bool):Cin (C.wld (C.W.ref b)) k t:=
 ⟨h.cok.wld ⟨h.cok.fit.geo,h.cok.fit.size,h.cok.fit.ssd,h.cok.fit.dsk,h.cok.fit.lk,h.cok.fit.cnt,h.cok.fit.kys,h.cok.fit.wts⟩ h.cok.good rfl h.cok.ka,h.tw,h.dok⟩
theorem ActAt.vdata {w wr:World}{b o:Nat}{x:ActV}{ρ:Rl}(h:ActAt w b o x) (hb:Below w.heap.size w wr) (ho:∀b,b<w.heap.size->ρ b=0):HasD (fun b=>¬rtC (ρ b)) wr (.slice x.V x.vn x.vc) x.data:=
 (h.data.weakB (q:=fun b=>¬rtC (ρ b)) (fun b hb _=>by rw[ho b hb];exact rtC0)).below_ hb
set_option maxHeartbeats 8000000 in
set_option maxRecDepth 100000 in
theorem tref_ok (HO:OpenOk) (HS:SumOk) (HT:ShutOk) (lg:Int) (A:Option Addr) (len cap:Nat) (w:World) (h:ActRow w A len) (hl:len<=9223372036854775807):
 Calls Tryz.prog 4 #[.int .i64 lg,.slice A len cap] w fun e w'=>e=.returned (.bool true)/\Below w.heap.size w w':=by
 have hlo:=long_ok A len cap w h hl
 have H:=Lib.hid h
 clear h
 by_cases g1:lg<2
 ·go_enter Tryz.func4,Tryz.ntmps4
  go_wp2_with fail
  go_ret
  exact⟨rfl,Below.refl _ _⟩
 ·by_cases g2:4<lg
  ·go_enter Tryz.func4,Tryz.ntmps4
   go_wp2_with fail
   go_ret
   exact⟨rfl,Below.refl _ _⟩
  ·have g3:lg=2\/lg=3\/lg=4:=by omega
   clear g1 g2
   rcases g3 with rfl|rfl|rfl
   ·go_enter Tryz.func4,Tryz.ntmps4
    go_wp2_with fail
    refine hlo.mono ?_
    rintro e w1 ⟨lb,rfl,hlb,q1⟩
    clear hlo
    cases lb with
    |true=>
     go_wp2_with fail
     go_ret
     exact⟨rfl,q1⟩
    |false=>
     have hp:Calls Tryz.prog 7 #[.int .i64 4,.int .u64 1,.bool true] w1 fun e w'=>∃bx,e=.returned (.tuple #[.pointer (some ⟨bx,0,none⟩),.int .i64 0])/\∃ρ' a cc m ag,BoxR ρ' w' bx a cc m ag (.slice none 0 0) (newC 4 1 true)/\Ste rtC (fun _=>0) w1 ρ' w':=pnew_box HO HS HT 4 1 true w1 (fun _=>0) (fun _ _=>rfl) (by unfold V;omega) (by omega)
     have hl200:=hlb rfl
     clear hlb
     go_wp2_with fail
     refine hp.mono ?_
     rintro e w2 ⟨bx,rfl,ρ2,a,cc,m,ag,hB2,s2⟩
     clear hp
     have HB2:=Lib.hid (And.intro q1 (And.intro hB2 s2))
     clear q1 hB2 s2
     go_wp2_with fail
     refine(rnew_ok w2).mono ?_
     rintro e w3 ⟨rfl,hR3,q3⟩
     obtain⟨q1,hB2,s2⟩:=HB2.out
     have h0:Rnd w bx a cc m w2.heap.size 0 w3 (ρ2.set w2.heap.size 25) ag (newC 4 1 true) (fun _=>nought) (fun _=>zeros):=by
      have hb2:Below w.heap.size w w2:=q1.trans ((s2.below (Nat.le_refl _) (fun _ _=>rtC0)).mono q1.size)
      have hgl:=Blk.lt hR3
      refine⟨hB2.keep q3.size (fun b hb _=>⟨q3.block b hb,Rl.set_other _ (by omega)⟩),newC_cin 4 1 true (by unfold V;omega),newC_inv 4 1 true,hR3,Rl.set_same _ _ _,hb2.size,fun b hb=>?_,fun i hi=>?_,hb2.trans (q3.mono hb2.size)⟩
      ·rw[Rl.set_other _ (by have:=hb2.size;omega)];exact s2.old b (Nat.lt_of_lt_of_le hb q1.size)
      ·rw[Rl.set_other _ (by omega)];exact s2.fresh i (Nat.le_trans q3.size hi)
     have H3:=Lib.hid h0
     obtain⟨g,hg⟩:∃g,g=w2.heap.size:=⟨_,rfl⟩
     rw[<-hg]at H3 ⊢
     clear q1 hB2 s2 hR3 q3 h0 hg
     go_wp2_with fail
     go_loopw [8] (fun t wr=>∃i:Nat,t=.int .i64 i/\i<=len/\∃ρr agr C B L,Rnd w bx a cc m g i wr ρr agr C B L) (fun t _=>len-(intOf t).toNat)
     case atStart=>exact⟨0,rfl,by omega,_,_,_,_,_,H3.out⟩
     case round=>
      obtain⟨i,rfl,hi,ρr,agr,C,B,L,hr⟩:=hrel
      by_cases hlt:i<len
      ·rcases H.out with hz|⟨b,off,rfl,hb,hx⟩
       ·omega
       ·obtain⟨x,hx⟩:=hx i hlt
        have m0:(0:Int)<=(i:Int):=by omega
        have m1:(i:Int)<(len:Int):=by omega
        have hxr:=hx.below_ hb hr.bel
        obtain⟨k,kd,l,N,F,data,V,vn,vc,D,dn,dc,K,kn,kc⟩:=x
        have c0:wr.cell? ⟨b,off+i*8,none⟩=some (.int .i64 k):=hxr.cell 0 _ rfl
        have c1:=hxr.cell 1 _ rfl
        have c2:=hxr.cell 2 _ rfl
        have c3:=hxr.cell 3 _ rfl
        have c4:=hxr.cell 4 _ rfl
        have c5:=hxr.cell 5 _ rfl
        have c6:=hxr.cell 6 _ rfl
        have c7:=hxr.cell 7 _ rfl
        have lb:=Nat.lt_of_lt_of_le hb hr.bel.size
        simp only at c1 c2 c3 c4 c5 c6 c7
        by_cases k7:k=7
        ·subst k7
         have hdo:=bdo_refuse ρr bx a cc m agr (.slice none 0 0) C kd l N F V D K vn dn kn vc dc kc wr hr.fresh hr.box
         have HR:=Lib.hid (And.intro hr hx)
         clear hr hx hxr
         go_wp2_with fail
         refine hdo.mono ?_
         rintro e w5 ⟨v5,rfl,ρ5,ag5,hv5,hB5,s5⟩
         clear hdo c0 c1 c2 c3 c4 c5 c6 c7 lb
         obtain⟨hr,hx⟩:=HR.out
         have hr5:=hr.act hB5 s5 ((hr.cin.ref (N !=0)).mono (by omega) (by omega)) (hr.inv.refuse (N !=0))
         have c0:w5.cell? ⟨b,off+i*8,none⟩=some (.int .i64 7):=(hx.below_ hb hr5.bel).cell 0 _ rfl
         have lb:=Nat.lt_of_lt_of_le hb hr5.bel.size
         have HR5:=Lib.hid hr5
         clear hr hx hr5 hv5 hB5 s5
         go_wp2_with fail
         go_roundw
         case rel=>exact⟨i+1,by go_num,by omega,_,_,_,_,_,HR5.out⟩
         case measure=>simp[intOf];omega
        ·by_cases k1:k=1
         ·subst k1
          clear k7
          have hdo:=bdo_call HO HS HT ρr bx a cc m agr (.slice none 0 0) C (1+140*i) (16+i) kd l N F data (.slice V vn vc) D K dn kn dc kc wr hr.fresh hr.box hr.cin (by omega) (by omega) (hx.vdata hr.bel hr.old)
          have hU:(off56 (cdo C kd l data).1/\Inv (cdo C kd l data).2.2 B)\/∃E bb B2,(E=0\/E=1)/\(cdo C kd l data).1=E/\(cdo C kd l data).2.1=bb/\Inv (cdo C kd l data).2.2 B2/\(∀W,RI W g B L->HasD (fun _=>True) W (.slice V vn vc) data->Calls Tryz.prog 14 #[.pointer (some ⟨g,0,none⟩),.agg #[.int .i64 kd,.int .i64 l,.slice V vn vc]] W (RsP g E bb B2 W)):=by
           by_cases hok:okc kd l data.length
           ·rcases hr.inv.do_ hr.cin.cok (by omega) hok with⟨e1,e2,e3⟩|⟨e1,e3⟩
            ·exact .inr ⟨0,_,_,.inl rfl,e1,e2,e3,fun W h1 h2=>rstep_ok _ g kd l V vn vc data B L W h1 h2 hr.inv.len hok⟩
            ·exact .inl ⟨e1,e3⟩
           ·have hn:=hr.inv.do_not hok
            refine .inr ⟨1,[],B,.inr rfl,by rw[hn],by rw[hn],by rw[hn];exact hr.inv,fun W h1 h2=>rstep_bad g kd l V vn vc B L W h1 (fun c=>hok ?_)⟩
            obtain⟨A',c',he⟩:=hx.data.slice
            injection he with _ e2 _
            rw[<-e2];exact c
          have hcin:=(hr.cin.do_ (by omega) kd l data).mono (k':=1+140*(i+1)) (t':=16+(i+1)) (by omega) (by omega)
          obtain⟨R,hR⟩:∃R,R=cdo C kd l data:=⟨_,rfl⟩
          rw[<-hR]at hU hdo hcin
          obtain⟨er,bb0,C1⟩:=R
          simp only at hU hdo hcin
          have HR:=Lib.hid (And.intro hr (And.intro hx (And.intro hcin hb)))
          clear hr hx hxr hR hcin
          rcases hU with⟨he,hin⟩|⟨E,bb,B2,hE,rfl,rfl,hin,hstep⟩
          ·have HI:=Lib.hid hin
           clear hin
           rcases he with rfl|rfl
           all_goals
            go_wp2_with fail
            refine hdo.mono ?_
            rintro e w5 ⟨v5,rfl,ρ5,ag5,hv5,hB5,s5⟩
            clear hdo c0 c1 c2 c3 c4 c5 c6 c7 lb
            obtain⟨hr,hx,hcin,hb⟩:=HR.out
            obtain⟨A5,z5,rfl⟩:=hv5.slice
            have hr5:=hr.act hB5 s5 hcin HI.out
            have HR5:=Lib.hid hr5
            clear hr hx hcin hb hr5 hv5 hB5 s5
            go_wp2_with fail
            go_roundw
            case rel=>exact⟨i+1,by go_num,by omega,_,_,_,_,_,HR5.out.below_ ((Below.refl _ _).alloc (Nat.le_refl _) _)⟩
            case measure=>simp[intOf];omega
          ·have HI:=Lib.hid (And.intro hin hstep)
           clear hin hstep
           rcases hE with rfl|rfl
           ·
            go_wp2_with fail
            refine hdo.mono ?_
            rintro e w5 ⟨v5,rfl,ρ5,ag5,hv5,hB5,s5⟩
            clear hdo c0 c1 c2 c3 c4 c5 c6 c7 lb
            obtain⟨hr,hx,hcin,hb⟩:=HR.out
            obtain⟨A5,z5,rfl⟩:=hv5.slice
            obtain⟨nb,hnb⟩:∃nb,nb=bb0.length:=⟨_,rfl⟩
            rw[<-hnb]at hv5 ⊢
            obtain⟨W6,hW6⟩:∃W6,W6=w5.alloc (.cells #[.int .i64 0,.slice A5 nb z5] 38):=⟨_,rfl⟩
            have b5:Below w.heap.size w w5:=hr.bel.trans (s5.below hr.bel.size (fun b hb2=>by rw[hr.old b hb2];exact rtC0))
            have q6:Below w5.heap.size w5 W6.drew:=by rw[hW6];exact((Below.refl _ _).alloc (Nat.le_refl _) _).drew
            have bel:=b5.trans (q6.mono b5.size)
            have b9:=Blk.new w5 38 #[.int .i64 0,.slice A5 nb z5]
            rw[<-hW6]at b9
            replace b9:=b9.drew
            have hgz5:ρ5 g=25:=(s5.old g (Blk.lt hr.ref)).trans hr.gz
            have hgl5:g<w5.heap.size:=Nat.lt_of_lt_of_le (Blk.lt hr.ref) s5.size
            have hri:RI W6.drew g B L:=RI.keepB (RI.keepB hr.ref (s5.ch.keep g (Blk.lt hr.ref) (by rw[hr.gz];unfold rtC;decide))) (q6.block g hgl5)
            have hx6:=hx.below_ hb bel
            have hst:=HI.out.2 W6.drew hri hx6.data
            have hv6:=hv5.below_ q6
            have hge:=hr.gge
            have hbg:b≠g:=by omega
            have h9g:w5.heap.size≠g:=by omega
            have hlb6:=Nat.lt_of_lt_of_le hb bel.size
            have q6b:=q6
            have HZ:=Lib.hid (And.intro hr (And.intro hB5 (And.intro s5 (And.intro hcin (And.intro q6b hgz5)))))
            have HW6:=Lib.hid hW6
            have HNB:=Lib.hid hnb
            clear hr hcin hW6 hnb hB5 s5 hv5 b5 hri q6 q6b hgz5
            go_wp2_with fail
            rw[<-HW6.out]
            go_region_held3 (fun w'=>w'.cell? ⟨w5.heap.size,0,none⟩=some (.int .i64 0)/\w'.cell? ⟨w5.heap.size,1,none⟩=some (.slice A5 nb z5)/\w'.cell? ⟨b,off+i*8+1,none⟩=some (.int .i64 kd)/\w'.cell? ⟨b,off+i*8+2,none⟩=some (.int .i64 l)/\w'.cell? ⟨b,off+i*8+3,none⟩=some (.slice V vn vc))
             (with_reducible exact s5t b9 hx6)
             (first
               |(go_at_call 14;refine hst.mono ?_;rintro e w8 ⟨A8,n8,c8,L8,rfl,hcv8,hri8,hg8⟩;replace b9:=b9.grown hg8 (fun e=>h9g (by injection e));replace bel:=below_only bel hg8 bel.size hge;replace hx6:=hx.below_ hb bel;have hcv5:=Cv.hasp ((hv6.weakB (q:=fun b=>ρ5 b=0/\b≠g) (fun b hb0 e=>⟨e,fun c=>by rw[c,HZ.out.2.2.2.2.2]at e;cases e⟩)).keep hg8.size (fun b hb0 e=>hg8.block b hb0 (fun c=>e.2 (by injection c))));have hsz8:=hg8.size)
               |(go_at_call 11;refine(tsame_ok 0 A5 A8 nb n8 z5 c8 bb0 w8 hcv5 hcv8).mono ?_;rintro e w9 ⟨rfl,q9⟩;replace b9:=b9.below_ q9;replace bel:=bel.trans (q9.mono bel.size);replace hx6:=hx.below_ hb bel)
               |fail)
            obtain⟨hr,hB5,s5,hcin,q6b,_⟩:=HZ.out
            have hfin:=hr.fin hB5 s5 hcin HI.out.1 q6b hri8 hg8 q9
            have HF:=Lib.hid hfin
            clear hfin hr hB5 s5 hcin q6b b9 bel hx6 hcv5 hcv8 hri8 hg8 q9 hst hv6 hx
            go_wp2_with fail
            go_roundw
            case rel=>exact⟨i+1,by go_num,by omega,_,_,_,_,_,HF.out⟩
            case measure=>simp[intOf];omega
           ·
            go_wp2_with fail
            refine hdo.mono ?_
            rintro e w5 ⟨v5,rfl,ρ5,ag5,hv5,hB5,s5⟩
            clear hdo c0 c1 c2 c3 c4 c5 c6 c7 lb
            obtain⟨hr,hx,hcin,hb⟩:=HR.out
            obtain⟨A5,z5,rfl⟩:=hv5.slice
            obtain⟨nb,hnb⟩:∃nb,nb=bb0.length:=⟨_,rfl⟩
            rw[<-hnb]at hv5 ⊢
            obtain⟨W6,hW6⟩:∃W6,W6=w5.alloc (.cells #[.int .i64 1,.slice A5 nb z5] 38):=⟨_,rfl⟩
            have b5:Below w.heap.size w w5:=hr.bel.trans (s5.below hr.bel.size (fun b hb2=>by rw[hr.old b hb2];exact rtC0))
            have q6:Below w5.heap.size w5 W6.drew:=by rw[hW6];exact((Below.refl _ _).alloc (Nat.le_refl _) _).drew
            have bel:=b5.trans (q6.mono b5.size)
            have b9:=Blk.new w5 38 #[.int .i64 1,.slice A5 nb z5]
            rw[<-hW6]at b9
            replace b9:=b9.drew
            have hgz5:ρ5 g=25:=(s5.old g (Blk.lt hr.ref)).trans hr.gz
            have hgl5:g<w5.heap.size:=Nat.lt_of_lt_of_le (Blk.lt hr.ref) s5.size
            have hri:RI W6.drew g B L:=RI.keepB (RI.keepB hr.ref (s5.ch.keep g (Blk.lt hr.ref) (by rw[hr.gz];unfold rtC;decide))) (q6.block g hgl5)
            have hx6:=hx.below_ hb bel
            have hst:=HI.out.2 W6.drew hri hx6.data
            have hv6:=hv5.below_ q6
            have hge:=hr.gge
            have hbg:b≠g:=by omega
            have h9g:w5.heap.size≠g:=by omega
            have hlb6:=Nat.lt_of_lt_of_le hb bel.size
            have q6b:=q6
            have HZ:=Lib.hid (And.intro hr (And.intro hB5 (And.intro s5 (And.intro hcin (And.intro q6b hgz5)))))
            have HW6:=Lib.hid hW6
            have HNB:=Lib.hid hnb
            clear hr hcin hW6 hnb hB5 s5 hv5 b5 hri q6 q6b hgz5
            go_wp2_with fail
            rw[<-HW6.out]
            go_region_held3 (fun w'=>w'.cell? ⟨w5.heap.size,0,none⟩=some (.int .i64 1)/\w'.cell? ⟨w5.heap.size,1,none⟩=some (.slice A5 nb z5)/\w'.cell? ⟨b,off+i*8+1,none⟩=some (.int .i64 kd)/\w'.cell? ⟨b,off+i*8+2,none⟩=some (.int .i64 l)/\w'.cell? ⟨b,off+i*8+3,none⟩=some (.slice V vn vc))
             (with_reducible exact s5t b9 hx6)
             (first
               |(go_at_call 14;refine hst.mono ?_;rintro e w8 ⟨A8,n8,c8,L8,rfl,hcv8,hri8,hg8⟩;replace b9:=b9.grown hg8 (fun e=>h9g (by injection e));replace bel:=below_only bel hg8 bel.size hge;replace hx6:=hx.below_ hb bel;have hcv5:=Cv.hasp ((hv6.weakB (q:=fun b=>ρ5 b=0/\b≠g) (fun b hb0 e=>⟨e,fun c=>by rw[c,HZ.out.2.2.2.2.2]at e;cases e⟩)).keep hg8.size (fun b hb0 e=>hg8.block b hb0 (fun c=>e.2 (by injection c))));have hsz8:=hg8.size)
               |(go_at_call 11;refine(tsame_ok 1 A5 A8 nb n8 z5 c8 bb0 w8 hcv5 hcv8).mono ?_;rintro e w9 ⟨rfl,q9⟩;replace b9:=b9.below_ q9;replace bel:=bel.trans (q9.mono bel.size);replace hx6:=hx.below_ hb bel)
               |fail)
            obtain⟨hr,hB5,s5,hcin,q6b,_⟩:=HZ.out
            have hfin:=hr.fin hB5 s5 hcin HI.out.1 q6b hri8 hg8 q9
            have HF:=Lib.hid hfin
            clear hfin hr hB5 s5 hcin q6b b9 bel hx6 hcv5 hcv8 hri8 hg8 q9 hst hv6 hx
            go_wp2_with fail
            go_roundw
            case rel=>exact⟨i+1,by go_num,by omega,_,_,_,_,_,HF.out⟩
            case measure=>simp[intOf];omega
         ·have HR:=Lib.hid (And.intro hr hx)
          clear hr hx hxr
          go_wp2_with fail
          go_roundw
          case rel=>exact⟨i+1,by go_num,by omega,_,_,_,_,_,HR.out.1.next⟩
          case measure=>simp[intOf];omega
      ·have hin:i=len:=by omega
       subst hin
       have hkn:=tknown_ok HO HS HT wr
       have HB:=Lib.hid hr.bel
       clear hr
       go_wp2_with fail
       refine hkn.mono ?_
       rintro e w9 ⟨rfl,q9⟩
       have q:=HB.out.trans (q9.mono HB.out.size)
       have HQ:=Lib.hid q
       clear hkn q q9
       go_wp2_with fail
       go_ret
       exact⟨rfl,HQ.out⟩
   ·go_enter Tryz.func4,Tryz.ntmps4
    go_wp2_with fail
    refine hlo.mono ?_
    rintro e w1 ⟨lb,rfl,hlb,q1⟩
    clear hlo
    cases lb with
    |true=>
     go_wp2_with fail
     go_ret
     exact⟨rfl,q1⟩
    |false=>
     have hp:Calls Tryz.prog 7 #[.int .i64 8,.int .u64 1,.bool true] w1 fun e w'=>∃bx,e=.returned (.tuple #[.pointer (some ⟨bx,0,none⟩),.int .i64 0])/\∃ρ' a cc m ag,BoxR ρ' w' bx a cc m ag (.slice none 0 0) (newC 8 1 true)/\Ste rtC (fun _=>0) w1 ρ' w':=pnew_box HO HS HT 8 1 true w1 (fun _=>0) (fun _ _=>rfl) (by unfold V;omega) (by omega)
     have hl200:=hlb rfl
     clear hlb
     go_wp2_with fail
     refine hp.mono ?_
     rintro e w2 ⟨bx,rfl,ρ2,a,cc,m,ag,hB2,s2⟩
     clear hp
     have HB2:=Lib.hid (And.intro q1 (And.intro hB2 s2))
     clear q1 hB2 s2
     go_wp2_with fail
     refine(rnew_ok w2).mono ?_
     rintro e w3 ⟨rfl,hR3,q3⟩
     obtain⟨q1,hB2,s2⟩:=HB2.out
     have h0:Rnd w bx a cc m w2.heap.size 0 w3 (ρ2.set w2.heap.size 25) ag (newC 8 1 true) (fun _=>nought) (fun _=>zeros):=by
      have hb2:Below w.heap.size w w2:=q1.trans ((s2.below (Nat.le_refl _) (fun _ _=>rtC0)).mono q1.size)
      have hgl:=Blk.lt hR3
      refine⟨hB2.keep q3.size (fun b hb _=>⟨q3.block b hb,Rl.set_other _ (by omega)⟩),newC_cin 8 1 true (by unfold V;omega),newC_inv 8 1 true,hR3,Rl.set_same _ _ _,hb2.size,fun b hb=>?_,fun i hi=>?_,hb2.trans (q3.mono hb2.size)⟩
      ·rw[Rl.set_other _ (by have:=hb2.size;omega)];exact s2.old b (Nat.lt_of_lt_of_le hb q1.size)
      ·rw[Rl.set_other _ (by omega)];exact s2.fresh i (Nat.le_trans q3.size hi)
     have H3:=Lib.hid h0
     obtain⟨g,hg⟩:∃g,g=w2.heap.size:=⟨_,rfl⟩
     rw[<-hg]at H3 ⊢
     clear q1 hB2 s2 hR3 q3 h0 hg
     go_wp2_with fail
     go_loopw [8] (fun t wr=>∃i:Nat,t=.int .i64 i/\i<=len/\∃ρr agr C B L,Rnd w bx a cc m g i wr ρr agr C B L) (fun t _=>len-(intOf t).toNat)
     case atStart=>exact⟨0,rfl,by omega,_,_,_,_,_,H3.out⟩
     case round=>
      obtain⟨i,rfl,hi,ρr,agr,C,B,L,hr⟩:=hrel
      by_cases hlt:i<len
      ·rcases H.out with hz|⟨b,off,rfl,hb,hx⟩
       ·omega
       ·obtain⟨x,hx⟩:=hx i hlt
        have m0:(0:Int)<=(i:Int):=by omega
        have m1:(i:Int)<(len:Int):=by omega
        have hxr:=hx.below_ hb hr.bel
        obtain⟨k,kd,l,N,F,data,V,vn,vc,D,dn,dc,K,kn,kc⟩:=x
        have c0:wr.cell? ⟨b,off+i*8,none⟩=some (.int .i64 k):=hxr.cell 0 _ rfl
        have c1:=hxr.cell 1 _ rfl
        have c2:=hxr.cell 2 _ rfl
        have c3:=hxr.cell 3 _ rfl
        have c4:=hxr.cell 4 _ rfl
        have c5:=hxr.cell 5 _ rfl
        have c6:=hxr.cell 6 _ rfl
        have c7:=hxr.cell 7 _ rfl
        have lb:=Nat.lt_of_lt_of_le hb hr.bel.size
        simp only at c1 c2 c3 c4 c5 c6 c7
        by_cases k7:k=7
        ·subst k7
         have hdo:=bdo_refuse ρr bx a cc m agr (.slice none 0 0) C kd l N F V D K vn dn kn vc dc kc wr hr.fresh hr.box
         have HR:=Lib.hid (And.intro hr hx)
         clear hr hx hxr
         go_wp2_with fail
         refine hdo.mono ?_
         rintro e w5 ⟨v5,rfl,ρ5,ag5,hv5,hB5,s5⟩
         clear hdo c0 c1 c2 c3 c4 c5 c6 c7 lb
         obtain⟨hr,hx⟩:=HR.out
         have hr5:=hr.act hB5 s5 ((hr.cin.ref (N !=0)).mono (by omega) (by omega)) (hr.inv.refuse (N !=0))
         have c0:w5.cell? ⟨b,off+i*8,none⟩=some (.int .i64 7):=(hx.below_ hb hr5.bel).cell 0 _ rfl
         have lb:=Nat.lt_of_lt_of_le hb hr5.bel.size
         have HR5:=Lib.hid hr5
         clear hr hx hr5 hv5 hB5 s5
         go_wp2_with fail
         go_roundw
         case rel=>exact⟨i+1,by go_num,by omega,_,_,_,_,_,HR5.out⟩
         case measure=>simp[intOf];omega
        ·by_cases k1:k=1
         ·subst k1
          clear k7
          have hdo:=bdo_call HO HS HT ρr bx a cc m agr (.slice none 0 0) C (1+140*i) (16+i) kd l N F data (.slice V vn vc) D K dn kn dc kc wr hr.fresh hr.box hr.cin (by omega) (by omega) (hx.vdata hr.bel hr.old)
          have hU:(off56 (cdo C kd l data).1/\Inv (cdo C kd l data).2.2 B)\/∃E bb B2,(E=0\/E=1)/\(cdo C kd l data).1=E/\(cdo C kd l data).2.1=bb/\Inv (cdo C kd l data).2.2 B2/\(∀W,RI W g B L->HasD (fun _=>True) W (.slice V vn vc) data->Calls Tryz.prog 14 #[.pointer (some ⟨g,0,none⟩),.agg #[.int .i64 kd,.int .i64 l,.slice V vn vc]] W (RsP g E bb B2 W)):=by
           by_cases hok:okc kd l data.length
           ·rcases hr.inv.do_ hr.cin.cok (by omega) hok with⟨e1,e2,e3⟩|⟨e1,e3⟩
            ·exact .inr ⟨0,_,_,.inl rfl,e1,e2,e3,fun W h1 h2=>rstep_ok _ g kd l V vn vc data B L W h1 h2 hr.inv.len hok⟩
            ·exact .inl ⟨e1,e3⟩
           ·have hn:=hr.inv.do_not hok
            refine .inr ⟨1,[],B,.inr rfl,by rw[hn],by rw[hn],by rw[hn];exact hr.inv,fun W h1 h2=>rstep_bad g kd l V vn vc B L W h1 (fun c=>hok ?_)⟩
            obtain⟨A',c',he⟩:=hx.data.slice
            injection he with _ e2 _
            rw[<-e2];exact c
          have hcin:=(hr.cin.do_ (by omega) kd l data).mono (k':=1+140*(i+1)) (t':=16+(i+1)) (by omega) (by omega)
          obtain⟨R,hR⟩:∃R,R=cdo C kd l data:=⟨_,rfl⟩
          rw[<-hR]at hU hdo hcin
          obtain⟨er,bb0,C1⟩:=R
          simp only at hU hdo hcin
          have HR:=Lib.hid (And.intro hr (And.intro hx (And.intro hcin hb)))
          clear hr hx hxr hR hcin
          rcases hU with⟨he,hin⟩|⟨E,bb,B2,hE,rfl,rfl,hin,hstep⟩
          ·have HI:=Lib.hid hin
           clear hin
           rcases he with rfl|rfl
           all_goals
            go_wp2_with fail
            refine hdo.mono ?_
            rintro e w5 ⟨v5,rfl,ρ5,ag5,hv5,hB5,s5⟩
            clear hdo c0 c1 c2 c3 c4 c5 c6 c7 lb
            obtain⟨hr,hx,hcin,hb⟩:=HR.out
            obtain⟨A5,z5,rfl⟩:=hv5.slice
            have hr5:=hr.act hB5 s5 hcin HI.out
            have HR5:=Lib.hid hr5
            clear hr hx hcin hb hr5 hv5 hB5 s5
            go_wp2_with fail
            go_roundw
            case rel=>exact⟨i+1,by go_num,by omega,_,_,_,_,_,HR5.out.below_ ((Below.refl _ _).alloc (Nat.le_refl _) _)⟩
            case measure=>simp[intOf];omega
          ·have HI:=Lib.hid (And.intro hin hstep)
           clear hin hstep
           rcases hE with rfl|rfl
           ·
            go_wp2_with fail
            refine hdo.mono ?_
            rintro e w5 ⟨v5,rfl,ρ5,ag5,hv5,hB5,s5⟩
            clear hdo c0 c1 c2 c3 c4 c5 c6 c7 lb
            obtain⟨hr,hx,hcin,hb⟩:=HR.out
            obtain⟨A5,z5,rfl⟩:=hv5.slice
            obtain⟨nb,hnb⟩:∃nb,nb=bb0.length:=⟨_,rfl⟩
            rw[<-hnb]at hv5 ⊢
            obtain⟨W6,hW6⟩:∃W6,W6=w5.alloc (.cells #[.int .i64 0,.slice A5 nb z5] 38):=⟨_,rfl⟩
            have b5:Below w.heap.size w w5:=hr.bel.trans (s5.below hr.bel.size (fun b hb2=>by rw[hr.old b hb2];exact rtC0))
            have q6:Below w5.heap.size w5 W6.drew:=by rw[hW6];exact((Below.refl _ _).alloc (Nat.le_refl _) _).drew
            have bel:=b5.trans (q6.mono b5.size)
            have b9:=Blk.new w5 38 #[.int .i64 0,.slice A5 nb z5]
            rw[<-hW6]at b9
            replace b9:=b9.drew
            have hgz5:ρ5 g=25:=(s5.old g (Blk.lt hr.ref)).trans hr.gz
            have hgl5:g<w5.heap.size:=Nat.lt_of_lt_of_le (Blk.lt hr.ref) s5.size
            have hri:RI W6.drew g B L:=RI.keepB (RI.keepB hr.ref (s5.ch.keep g (Blk.lt hr.ref) (by rw[hr.gz];unfold rtC;decide))) (q6.block g hgl5)
            have hx6:=hx.below_ hb bel
            have hst:=HI.out.2 W6.drew hri hx6.data
            have hv6:=hv5.below_ q6
            have hge:=hr.gge
            have hbg:b≠g:=by omega
            have h9g:w5.heap.size≠g:=by omega
            have hlb6:=Nat.lt_of_lt_of_le hb bel.size
            have q6b:=q6
            have HZ:=Lib.hid (And.intro hr (And.intro hB5 (And.intro s5 (And.intro hcin (And.intro q6b hgz5)))))
            have HW6:=Lib.hid hW6
            have HNB:=Lib.hid hnb
            clear hr hcin hW6 hnb hB5 s5 hv5 b5 hri q6 q6b hgz5
            go_wp2_with fail
            rw[<-HW6.out]
            go_region_held3 (fun w'=>w'.cell? ⟨w5.heap.size,0,none⟩=some (.int .i64 0)/\w'.cell? ⟨w5.heap.size,1,none⟩=some (.slice A5 nb z5)/\w'.cell? ⟨b,off+i*8+1,none⟩=some (.int .i64 kd)/\w'.cell? ⟨b,off+i*8+2,none⟩=some (.int .i64 l)/\w'.cell? ⟨b,off+i*8+3,none⟩=some (.slice V vn vc))
             (with_reducible exact s5t b9 hx6)
             (first
               |(go_at_call 14;refine hst.mono ?_;rintro e w8 ⟨A8,n8,c8,L8,rfl,hcv8,hri8,hg8⟩;replace b9:=b9.grown hg8 (fun e=>h9g (by injection e));replace bel:=below_only bel hg8 bel.size hge;replace hx6:=hx.below_ hb bel;have hcv5:=Cv.hasp ((hv6.weakB (q:=fun b=>ρ5 b=0/\b≠g) (fun b hb0 e=>⟨e,fun c=>by rw[c,HZ.out.2.2.2.2.2]at e;cases e⟩)).keep hg8.size (fun b hb0 e=>hg8.block b hb0 (fun c=>e.2 (by injection c))));have hsz8:=hg8.size)
               |(go_at_call 11;refine(tsame_ok 0 A5 A8 nb n8 z5 c8 bb0 w8 hcv5 hcv8).mono ?_;rintro e w9 ⟨rfl,q9⟩;replace b9:=b9.below_ q9;replace bel:=bel.trans (q9.mono bel.size);replace hx6:=hx.below_ hb bel)
               |fail)
            obtain⟨hr,hB5,s5,hcin,q6b,_⟩:=HZ.out
            have hfin:=hr.fin hB5 s5 hcin HI.out.1 q6b hri8 hg8 q9
            have HF:=Lib.hid hfin
            clear hfin hr hB5 s5 hcin q6b b9 bel hx6 hcv5 hcv8 hri8 hg8 q9 hst hv6 hx
            go_wp2_with fail
            go_roundw
            case rel=>exact⟨i+1,by go_num,by omega,_,_,_,_,_,HF.out⟩
            case measure=>simp[intOf];omega
           ·
            go_wp2_with fail
            refine hdo.mono ?_
            rintro e w5 ⟨v5,rfl,ρ5,ag5,hv5,hB5,s5⟩
            clear hdo c0 c1 c2 c3 c4 c5 c6 c7 lb
            obtain⟨hr,hx,hcin,hb⟩:=HR.out
            obtain⟨A5,z5,rfl⟩:=hv5.slice
            obtain⟨nb,hnb⟩:∃nb,nb=bb0.length:=⟨_,rfl⟩
            rw[<-hnb]at hv5 ⊢
            obtain⟨W6,hW6⟩:∃W6,W6=w5.alloc (.cells #[.int .i64 1,.slice A5 nb z5] 38):=⟨_,rfl⟩
            have b5:Below w.heap.size w w5:=hr.bel.trans (s5.below hr.bel.size (fun b hb2=>by rw[hr.old b hb2];exact rtC0))
            have q6:Below w5.heap.size w5 W6.drew:=by rw[hW6];exact((Below.refl _ _).alloc (Nat.le_refl _) _).drew
            have bel:=b5.trans (q6.mono b5.size)
            have b9:=Blk.new w5 38 #[.int .i64 1,.slice A5 nb z5]
            rw[<-hW6]at b9
            replace b9:=b9.drew
            have hgz5:ρ5 g=25:=(s5.old g (Blk.lt hr.ref)).trans hr.gz
            have hgl5:g<w5.heap.size:=Nat.lt_of_lt_of_le (Blk.lt hr.ref) s5.size
            have hri:RI W6.drew g B L:=RI.keepB (RI.keepB hr.ref (s5.ch.keep g (Blk.lt hr.ref) (by rw[hr.gz];unfold rtC;decide))) (q6.block g hgl5)
            have hx6:=hx.below_ hb bel
            have hst:=HI.out.2 W6.drew hri hx6.data
            have hv6:=hv5.below_ q6
            have hge:=hr.gge
            have hbg:b≠g:=by omega
            have h9g:w5.heap.size≠g:=by omega
            have hlb6:=Nat.lt_of_lt_of_le hb bel.size
            have q6b:=q6
            have HZ:=Lib.hid (And.intro hr (And.intro hB5 (And.intro s5 (And.intro hcin (And.intro q6b hgz5)))))
            have HW6:=Lib.hid hW6
            have HNB:=Lib.hid hnb
            clear hr hcin hW6 hnb hB5 s5 hv5 b5 hri q6 q6b hgz5
            go_wp2_with fail
            rw[<-HW6.out]
            go_region_held3 (fun w'=>w'.cell? ⟨w5.heap.size,0,none⟩=some (.int .i64 1)/\w'.cell? ⟨w5.heap.size,1,none⟩=some (.slice A5 nb z5)/\w'.cell? ⟨b,off+i*8+1,none⟩=some (.int .i64 kd)/\w'.cell? ⟨b,off+i*8+2,none⟩=some (.int .i64 l)/\w'.cell? ⟨b,off+i*8+3,none⟩=some (.slice V vn vc))
             (with_reducible exact s5t b9 hx6)
             (first
               |(go_at_call 14;refine hst.mono ?_;rintro e w8 ⟨A8,n8,c8,L8,rfl,hcv8,hri8,hg8⟩;replace b9:=b9.grown hg8 (fun e=>h9g (by injection e));replace bel:=below_only bel hg8 bel.size hge;replace hx6:=hx.below_ hb bel;have hcv5:=Cv.hasp ((hv6.weakB (q:=fun b=>ρ5 b=0/\b≠g) (fun b hb0 e=>⟨e,fun c=>by rw[c,HZ.out.2.2.2.2.2]at e;cases e⟩)).keep hg8.size (fun b hb0 e=>hg8.block b hb0 (fun c=>e.2 (by injection c))));have hsz8:=hg8.size)
               |(go_at_call 11;refine(tsame_ok 1 A5 A8 nb n8 z5 c8 bb0 w8 hcv5 hcv8).mono ?_;rintro e w9 ⟨rfl,q9⟩;replace b9:=b9.below_ q9;replace bel:=bel.trans (q9.mono bel.size);replace hx6:=hx.below_ hb bel)
               |fail)
            obtain⟨hr,hB5,s5,hcin,q6b,_⟩:=HZ.out
            have hfin:=hr.fin hB5 s5 hcin HI.out.1 q6b hri8 hg8 q9
            have HF:=Lib.hid hfin
            clear hfin hr hB5 s5 hcin q6b b9 bel hx6 hcv5 hcv8 hri8 hg8 q9 hst hv6 hx
            go_wp2_with fail
            go_roundw
            case rel=>exact⟨i+1,by go_num,by omega,_,_,_,_,_,HF.out⟩
            case measure=>simp[intOf];omega
         ·have HR:=Lib.hid (And.intro hr hx)
          clear hr hx hxr
          go_wp2_with fail
          go_roundw
          case rel=>exact⟨i+1,by go_num,by omega,_,_,_,_,_,HR.out.1.next⟩
          case measure=>simp[intOf];omega
      ·have hin:i=len:=by omega
       subst hin
       have hkn:=tknown_ok HO HS HT wr
       have HB:=Lib.hid hr.bel
       clear hr
       go_wp2_with fail
       refine hkn.mono ?_
       rintro e w9 ⟨rfl,q9⟩
       have q:=HB.out.trans (q9.mono HB.out.size)
       have HQ:=Lib.hid q
       clear hkn q q9
       go_wp2_with fail
       go_ret
       exact⟨rfl,HQ.out⟩
   ·go_enter Tryz.func4,Tryz.ntmps4
    go_wp2_with fail
    refine hlo.mono ?_
    rintro e w1 ⟨lb,rfl,hlb,q1⟩
    clear hlo
    cases lb with
    |true=>
     go_wp2_with fail
     go_ret
     exact⟨rfl,q1⟩
    |false=>
     have hp:Calls Tryz.prog 7 #[.int .i64 16,.int .u64 1,.bool true] w1 fun e w'=>∃bx,e=.returned (.tuple #[.pointer (some ⟨bx,0,none⟩),.int .i64 0])/\∃ρ' a cc m ag,BoxR ρ' w' bx a cc m ag (.slice none 0 0) (newC 16 1 true)/\Ste rtC (fun _=>0) w1 ρ' w':=pnew_box HO HS HT 16 1 true w1 (fun _=>0) (fun _ _=>rfl) (by unfold V;omega) (by omega)
     have hl200:=hlb rfl
     clear hlb
     go_wp2_with fail
     refine hp.mono ?_
     rintro e w2 ⟨bx,rfl,ρ2,a,cc,m,ag,hB2,s2⟩
     clear hp
     have HB2:=Lib.hid (And.intro q1 (And.intro hB2 s2))
     clear q1 hB2 s2
     go_wp2_with fail
     refine(rnew_ok w2).mono ?_
     rintro e w3 ⟨rfl,hR3,q3⟩
     obtain⟨q1,hB2,s2⟩:=HB2.out
     have h0:Rnd w bx a cc m w2.heap.size 0 w3 (ρ2.set w2.heap.size 25) ag (newC 16 1 true) (fun _=>nought) (fun _=>zeros):=by
      have hb2:Below w.heap.size w w2:=q1.trans ((s2.below (Nat.le_refl _) (fun _ _=>rtC0)).mono q1.size)
      have hgl:=Blk.lt hR3
      refine⟨hB2.keep q3.size (fun b hb _=>⟨q3.block b hb,Rl.set_other _ (by omega)⟩),newC_cin 16 1 true (by unfold V;omega),newC_inv 16 1 true,hR3,Rl.set_same _ _ _,hb2.size,fun b hb=>?_,fun i hi=>?_,hb2.trans (q3.mono hb2.size)⟩
      ·rw[Rl.set_other _ (by have:=hb2.size;omega)];exact s2.old b (Nat.lt_of_lt_of_le hb q1.size)
      ·rw[Rl.set_other _ (by omega)];exact s2.fresh i (Nat.le_trans q3.size hi)
     have H3:=Lib.hid h0
     obtain⟨g,hg⟩:∃g,g=w2.heap.size:=⟨_,rfl⟩
     rw[<-hg]at H3 ⊢
     clear q1 hB2 s2 hR3 q3 h0 hg
     go_wp2_with fail
     go_loopw [8] (fun t wr=>∃i:Nat,t=.int .i64 i/\i<=len/\∃ρr agr C B L,Rnd w bx a cc m g i wr ρr agr C B L) (fun t _=>len-(intOf t).toNat)
     case atStart=>exact⟨0,rfl,by omega,_,_,_,_,_,H3.out⟩
     case round=>
      obtain⟨i,rfl,hi,ρr,agr,C,B,L,hr⟩:=hrel
      by_cases hlt:i<len
      ·rcases H.out with hz|⟨b,off,rfl,hb,hx⟩
       ·omega
       ·obtain⟨x,hx⟩:=hx i hlt
        have m0:(0:Int)<=(i:Int):=by omega
        have m1:(i:Int)<(len:Int):=by omega
        have hxr:=hx.below_ hb hr.bel
        obtain⟨k,kd,l,N,F,data,V,vn,vc,D,dn,dc,K,kn,kc⟩:=x
        have c0:wr.cell? ⟨b,off+i*8,none⟩=some (.int .i64 k):=hxr.cell 0 _ rfl
        have c1:=hxr.cell 1 _ rfl
        have c2:=hxr.cell 2 _ rfl
        have c3:=hxr.cell 3 _ rfl
        have c4:=hxr.cell 4 _ rfl
        have c5:=hxr.cell 5 _ rfl
        have c6:=hxr.cell 6 _ rfl
        have c7:=hxr.cell 7 _ rfl
        have lb:=Nat.lt_of_lt_of_le hb hr.bel.size
        simp only at c1 c2 c3 c4 c5 c6 c7
        by_cases k7:k=7
        ·subst k7
         have hdo:=bdo_refuse ρr bx a cc m agr (.slice none 0 0) C kd l N F V D K vn dn kn vc dc kc wr hr.fresh hr.box
         have HR:=Lib.hid (And.intro hr hx)
         clear hr hx hxr
         go_wp2_with fail
         refine hdo.mono ?_
         rintro e w5 ⟨v5,rfl,ρ5,ag5,hv5,hB5,s5⟩
         clear hdo c0 c1 c2 c3 c4 c5 c6 c7 lb
         obtain⟨hr,hx⟩:=HR.out
         have hr5:=hr.act hB5 s5 ((hr.cin.ref (N !=0)).mono (by omega) (by omega)) (hr.inv.refuse (N !=0))
         have c0:w5.cell? ⟨b,off+i*8,none⟩=some (.int .i64 7):=(hx.below_ hb hr5.bel).cell 0 _ rfl
         have lb:=Nat.lt_of_lt_of_le hb hr5.bel.size
         have HR5:=Lib.hid hr5
         clear hr hx hr5 hv5 hB5 s5
         go_wp2_with fail
         go_roundw
         case rel=>exact⟨i+1,by go_num,by omega,_,_,_,_,_,HR5.out⟩
         case measure=>simp[intOf];omega
        ·by_cases k1:k=1
         ·subst k1
          clear k7
          have hdo:=bdo_call HO HS HT ρr bx a cc m agr (.slice none 0 0) C (1+140*i) (16+i) kd l N F data (.slice V vn vc) D K dn kn dc kc wr hr.fresh hr.box hr.cin (by omega) (by omega) (hx.vdata hr.bel hr.old)
          have hU:(off56 (cdo C kd l data).1/\Inv (cdo C kd l data).2.2 B)\/∃E bb B2,(E=0\/E=1)/\(cdo C kd l data).1=E/\(cdo C kd l data).2.1=bb/\Inv (cdo C kd l data).2.2 B2/\(∀W,RI W g B L->HasD (fun _=>True) W (.slice V vn vc) data->Calls Tryz.prog 14 #[.pointer (some ⟨g,0,none⟩),.agg #[.int .i64 kd,.int .i64 l,.slice V vn vc]] W (RsP g E bb B2 W)):=by
           by_cases hok:okc kd l data.length
           ·rcases hr.inv.do_ hr.cin.cok (by omega) hok with⟨e1,e2,e3⟩|⟨e1,e3⟩
            ·exact .inr ⟨0,_,_,.inl rfl,e1,e2,e3,fun W h1 h2=>rstep_ok _ g kd l V vn vc data B L W h1 h2 hr.inv.len hok⟩
            ·exact .inl ⟨e1,e3⟩
           ·have hn:=hr.inv.do_not hok
            refine .inr ⟨1,[],B,.inr rfl,by rw[hn],by rw[hn],by rw[hn];exact hr.inv,fun W h1 h2=>rstep_bad g kd l V vn vc B L W h1 (fun c=>hok ?_)⟩
            obtain⟨A',c',he⟩:=hx.data.slice
            injection he with _ e2 _
            rw[<-e2];exact c
          have hcin:=(hr.cin.do_ (by omega) kd l data).mono (k':=1+140*(i+1)) (t':=16+(i+1)) (by omega) (by omega)
          obtain⟨R,hR⟩:∃R,R=cdo C kd l data:=⟨_,rfl⟩
          rw[<-hR]at hU hdo hcin
          obtain⟨er,bb0,C1⟩:=R
          simp only at hU hdo hcin
          have HR:=Lib.hid (And.intro hr (And.intro hx (And.intro hcin hb)))
          clear hr hx hxr hR hcin
          rcases hU with⟨he,hin⟩|⟨E,bb,B2,hE,rfl,rfl,hin,hstep⟩
          ·have HI:=Lib.hid hin
           clear hin
           rcases he with rfl|rfl
           all_goals
            go_wp2_with fail
            refine hdo.mono ?_
            rintro e w5 ⟨v5,rfl,ρ5,ag5,hv5,hB5,s5⟩
            clear hdo c0 c1 c2 c3 c4 c5 c6 c7 lb
            obtain⟨hr,hx,hcin,hb⟩:=HR.out
            obtain⟨A5,z5,rfl⟩:=hv5.slice
            have hr5:=hr.act hB5 s5 hcin HI.out
            have HR5:=Lib.hid hr5
            clear hr hx hcin hb hr5 hv5 hB5 s5
            go_wp2_with fail
            go_roundw
            case rel=>exact⟨i+1,by go_num,by omega,_,_,_,_,_,HR5.out.below_ ((Below.refl _ _).alloc (Nat.le_refl _) _)⟩
            case measure=>simp[intOf];omega
          ·have HI:=Lib.hid (And.intro hin hstep)
           clear hin hstep
           rcases hE with rfl|rfl
           ·
            go_wp2_with fail
            refine hdo.mono ?_
            rintro e w5 ⟨v5,rfl,ρ5,ag5,hv5,hB5,s5⟩
            clear hdo c0 c1 c2 c3 c4 c5 c6 c7 lb
            obtain⟨hr,hx,hcin,hb⟩:=HR.out
            obtain⟨A5,z5,rfl⟩:=hv5.slice
            obtain⟨nb,hnb⟩:∃nb,nb=bb0.length:=⟨_,rfl⟩
            rw[<-hnb]at hv5 ⊢
            obtain⟨W6,hW6⟩:∃W6,W6=w5.alloc (.cells #[.int .i64 0,.slice A5 nb z5] 38):=⟨_,rfl⟩
            have b5:Below w.heap.size w w5:=hr.bel.trans (s5.below hr.bel.size (fun b hb2=>by rw[hr.old b hb2];exact rtC0))
            have q6:Below w5.heap.size w5 W6.drew:=by rw[hW6];exact((Below.refl _ _).alloc (Nat.le_refl _) _).drew
            have bel:=b5.trans (q6.mono b5.size)
            have b9:=Blk.new w5 38 #[.int .i64 0,.slice A5 nb z5]
            rw[<-hW6]at b9
            replace b9:=b9.drew
            have hgz5:ρ5 g=25:=(s5.old g (Blk.lt hr.ref)).trans hr.gz
            have hgl5:g<w5.heap.size:=Nat.lt_of_lt_of_le (Blk.lt hr.ref) s5.size
            have hri:RI W6.drew g B L:=RI.keepB (RI.keepB hr.ref (s5.ch.keep g (Blk.lt hr.ref) (by rw[hr.gz];unfold rtC;decide))) (q6.block g hgl5)
            have hx6:=hx.below_ hb bel
            have hst:=HI.out.2 W6.drew hri hx6.data
            have hv6:=hv5.below_ q6
            have hge:=hr.gge
            have hbg:b≠g:=by omega
            have h9g:w5.heap.size≠g:=by omega
            have hlb6:=Nat.lt_of_lt_of_le hb bel.size
            have q6b:=q6
            have HZ:=Lib.hid (And.intro hr (And.intro hB5 (And.intro s5 (And.intro hcin (And.intro q6b hgz5)))))
            have HW6:=Lib.hid hW6
            have HNB:=Lib.hid hnb
            clear hr hcin hW6 hnb hB5 s5 hv5 b5 hri q6 q6b hgz5
            go_wp2_with fail
            rw[<-HW6.out]
            go_region_held3 (fun w'=>w'.cell? ⟨w5.heap.size,0,none⟩=some (.int .i64 0)/\w'.cell? ⟨w5.heap.size,1,none⟩=some (.slice A5 nb z5)/\w'.cell? ⟨b,off+i*8+1,none⟩=some (.int .i64 kd)/\w'.cell? ⟨b,off+i*8+2,none⟩=some (.int .i64 l)/\w'.cell? ⟨b,off+i*8+3,none⟩=some (.slice V vn vc))
             (with_reducible exact s5t b9 hx6)
             (first
               |(go_at_call 14;refine hst.mono ?_;rintro e w8 ⟨A8,n8,c8,L8,rfl,hcv8,hri8,hg8⟩;replace b9:=b9.grown hg8 (fun e=>h9g (by injection e));replace bel:=below_only bel hg8 bel.size hge;replace hx6:=hx.below_ hb bel;have hcv5:=Cv.hasp ((hv6.weakB (q:=fun b=>ρ5 b=0/\b≠g) (fun b hb0 e=>⟨e,fun c=>by rw[c,HZ.out.2.2.2.2.2]at e;cases e⟩)).keep hg8.size (fun b hb0 e=>hg8.block b hb0 (fun c=>e.2 (by injection c))));have hsz8:=hg8.size)
               |(go_at_call 11;refine(tsame_ok 0 A5 A8 nb n8 z5 c8 bb0 w8 hcv5 hcv8).mono ?_;rintro e w9 ⟨rfl,q9⟩;replace b9:=b9.below_ q9;replace bel:=bel.trans (q9.mono bel.size);replace hx6:=hx.below_ hb bel)
               |fail)
            obtain⟨hr,hB5,s5,hcin,q6b,_⟩:=HZ.out
            have hfin:=hr.fin hB5 s5 hcin HI.out.1 q6b hri8 hg8 q9
            have HF:=Lib.hid hfin
            clear hfin hr hB5 s5 hcin q6b b9 bel hx6 hcv5 hcv8 hri8 hg8 q9 hst hv6 hx
            go_wp2_with fail
            go_roundw
            case rel=>exact⟨i+1,by go_num,by omega,_,_,_,_,_,HF.out⟩
            case measure=>simp[intOf];omega
           ·
            go_wp2_with fail
            refine hdo.mono ?_
            rintro e w5 ⟨v5,rfl,ρ5,ag5,hv5,hB5,s5⟩
            clear hdo c0 c1 c2 c3 c4 c5 c6 c7 lb
            obtain⟨hr,hx,hcin,hb⟩:=HR.out
            obtain⟨A5,z5,rfl⟩:=hv5.slice
            obtain⟨nb,hnb⟩:∃nb,nb=bb0.length:=⟨_,rfl⟩
            rw[<-hnb]at hv5 ⊢
            obtain⟨W6,hW6⟩:∃W6,W6=w5.alloc (.cells #[.int .i64 1,.slice A5 nb z5] 38):=⟨_,rfl⟩
            have b5:Below w.heap.size w w5:=hr.bel.trans (s5.below hr.bel.size (fun b hb2=>by rw[hr.old b hb2];exact rtC0))
            have q6:Below w5.heap.size w5 W6.drew:=by rw[hW6];exact((Below.refl _ _).alloc (Nat.le_refl _) _).drew
            have bel:=b5.trans (q6.mono b5.size)
            have b9:=Blk.new w5 38 #[.int .i64 1,.slice A5 nb z5]
            rw[<-hW6]at b9
            replace b9:=b9.drew
            have hgz5:ρ5 g=25:=(s5.old g (Blk.lt hr.ref)).trans hr.gz
            have hgl5:g<w5.heap.size:=Nat.lt_of_lt_of_le (Blk.lt hr.ref) s5.size
            have hri:RI W6.drew g B L:=RI.keepB (RI.keepB hr.ref (s5.ch.keep g (Blk.lt hr.ref) (by rw[hr.gz];unfold rtC;decide))) (q6.block g hgl5)
            have hx6:=hx.below_ hb bel
            have hst:=HI.out.2 W6.drew hri hx6.data
            have hv6:=hv5.below_ q6
            have hge:=hr.gge
            have hbg:b≠g:=by omega
            have h9g:w5.heap.size≠g:=by omega
            have hlb6:=Nat.lt_of_lt_of_le hb bel.size
            have q6b:=q6
            have HZ:=Lib.hid (And.intro hr (And.intro hB5 (And.intro s5 (And.intro hcin (And.intro q6b hgz5)))))
            have HW6:=Lib.hid hW6
            have HNB:=Lib.hid hnb
            clear hr hcin hW6 hnb hB5 s5 hv5 b5 hri q6 q6b hgz5
            go_wp2_with fail
            rw[<-HW6.out]
            go_region_held3 (fun w'=>w'.cell? ⟨w5.heap.size,0,none⟩=some (.int .i64 1)/\w'.cell? ⟨w5.heap.size,1,none⟩=some (.slice A5 nb z5)/\w'.cell? ⟨b,off+i*8+1,none⟩=some (.int .i64 kd)/\w'.cell? ⟨b,off+i*8+2,none⟩=some (.int .i64 l)/\w'.cell? ⟨b,off+i*8+3,none⟩=some (.slice V vn vc))
             (with_reducible exact s5t b9 hx6)
             (first
               |(go_at_call 14;refine hst.mono ?_;rintro e w8 ⟨A8,n8,c8,L8,rfl,hcv8,hri8,hg8⟩;replace b9:=b9.grown hg8 (fun e=>h9g (by injection e));replace bel:=below_only bel hg8 bel.size hge;replace hx6:=hx.below_ hb bel;have hcv5:=Cv.hasp ((hv6.weakB (q:=fun b=>ρ5 b=0/\b≠g) (fun b hb0 e=>⟨e,fun c=>by rw[c,HZ.out.2.2.2.2.2]at e;cases e⟩)).keep hg8.size (fun b hb0 e=>hg8.block b hb0 (fun c=>e.2 (by injection c))));have hsz8:=hg8.size)
               |(go_at_call 11;refine(tsame_ok 1 A5 A8 nb n8 z5 c8 bb0 w8 hcv5 hcv8).mono ?_;rintro e w9 ⟨rfl,q9⟩;replace b9:=b9.below_ q9;replace bel:=bel.trans (q9.mono bel.size);replace hx6:=hx.below_ hb bel)
               |fail)
            obtain⟨hr,hB5,s5,hcin,q6b,_⟩:=HZ.out
            have hfin:=hr.fin hB5 s5 hcin HI.out.1 q6b hri8 hg8 q9
            have HF:=Lib.hid hfin
            clear hfin hr hB5 s5 hcin q6b b9 bel hx6 hcv5 hcv8 hri8 hg8 q9 hst hv6 hx
            go_wp2_with fail
            go_roundw
            case rel=>exact⟨i+1,by go_num,by omega,_,_,_,_,_,HF.out⟩
            case measure=>simp[intOf];omega
         ·have HR:=Lib.hid (And.intro hr hx)
          clear hr hx hxr
          go_wp2_with fail
          go_roundw
          case rel=>exact⟨i+1,by go_num,by omega,_,_,_,_,_,HR.out.1.next⟩
          case measure=>simp[intOf];omega
      ·have hin:i=len:=by omega
       subst hin
       have hkn:=tknown_ok HO HS HT wr
       have HB:=Lib.hid hr.bel
       clear hr
       go_wp2_with fail
       refine hkn.mono ?_
       rintro e w9 ⟨rfl,q9⟩
       have q:=HB.out.trans (q9.mono HB.out.size)
       have HQ:=Lib.hid q
       clear hkn q q9
       go_wp2_with fail
       go_ret
       exact⟨rfl,HQ.out⟩
end Go.Proofs.YtggmdjdflaglpaaGreat
