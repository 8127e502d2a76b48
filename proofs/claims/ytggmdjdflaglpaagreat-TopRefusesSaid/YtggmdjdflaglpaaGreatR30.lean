/- The cache: puts. The cache: write, discard. The cache: read. The cache: read, of a block that has no slot. The cache: the map of calls. -/
import Derived.Test.YtggmdjdflaglpaaGreatR27
import Derived.Test.YtggmdjdflaglpaaGreatR28
import Derived.Test.YtggmdjdflaglpaaGreatR29
import Derived.Maps.Own
namespace Go.Proofs.YtggmdjdflaglpaaGreat
open Go.RowKit Go.Proofs.YtggmdjdflaglpaaGreat.geo
set_option linter.unusedVariables false
theorem sets8o (w:World) (x o:Nat) (a b c d e f g h:Value):((((((((w.setCell ⟨x,o,none⟩ a).setCell ⟨x,o+1,none⟩ b).setCell ⟨x,o+2,none⟩ c).setCell ⟨x,o+3,none⟩ d).setCell ⟨x,o+4,none⟩ e).setCell ⟨x,o+5,none⟩ f).setCell ⟨x,o+6,none⟩ g).setCell ⟨x,o+7,none⟩ h)=w.setCells x o [a,b,c,d,e,f,g,h]:=rfl
theorem there8 {w:World}{g o:Nat}(h:w.there g o 8):∃a b c d e f x y,(w.cell? ⟨g,o,none⟩=some a/\w.cell? ⟨g,o+1,none⟩=some b/\w.cell? ⟨g,o+2,none⟩=some c/\w.cell? ⟨g,o+3,none⟩=some d/\w.cell? ⟨g,o+4,none⟩=some e/\w.cell? ⟨g,o+5,none⟩=some f/\w.cell? ⟨g,o+6,none⟩=some x/\w.cell? ⟨g,o+7,none⟩=some y)/\
 (w.frozen? ⟨g,o,none⟩=false/\w.frozen? ⟨g,o+1,none⟩=false/\w.frozen? ⟨g,o+2,none⟩=false/\w.frozen? ⟨g,o+3,none⟩=false/\w.frozen? ⟨g,o+4,none⟩=false/\w.frozen? ⟨g,o+5,none⟩=false/\w.frozen? ⟨g,o+6,none⟩=false/\w.frozen? ⟨g,o+7,none⟩=false):=by
 have k:∀j,j<8->∃v,w.cell? ⟨g,o+j,none⟩=some v:=fun j hj=>Option.isSome_iff_exists.1 (h j hj).1
 obtain⟨a,ha⟩:=k 0 (by omega)
 obtain⟨b,hb⟩:=k 1 (by omega)
 obtain⟨c,hc⟩:=k 2 (by omega)
 obtain⟨d,hd⟩:=k 3 (by omega)
 obtain⟨e,he⟩:=k 4 (by omega)
 obtain⟨f,hf⟩:=k 5 (by omega)
 obtain⟨x,hx⟩:=k 6 (by omega)
 obtain⟨y,hy⟩:=k 7 (by omega)
 exact⟨a,b,c,d,e,f,x,y,⟨ha,hb,hc,hd,he,hf,hx,hy⟩,⟨(h 0 (by omega)).2,(h 1 (by omega)).2,(h 2 (by omega)).2,(h 3 (by omega)).2,(h 4 (by omega)).2,(h 5 (by omega)).2,(h 6 (by omega)).2,(h 7 (by omega)).2⟩⟩
theorem s2p {w:World}{cc g n c:Nat}{x0 x1 x3 x4 x5:Value}(b:Blk w cc 107 #[x0,x1,.slice (some ⟨g,0,none⟩) n c,x3,x4,x5]):w.cell? ⟨cc,2,none⟩=some (.slice (some ⟨g,0,none⟩) n c):=b.cell_ 2 rfl
set_option maxHeartbeats 8000000 in
set_option maxRecDepth 100000 in
theorem puts_ok (ρ:Rl) (a:Ads) (cc m ag:Nat) (C:Cch) (k t s:Nat) (l:Lf) (w:World) (hf:Fresh ρ w) (h:CchR ρ w a cc m ag C) (hC:Cok C k t) (ht:t<=1000) (hs:s<C.now.length) (hl:l.ok s) (h0:l.kind≠0):
 Calls Tryz.prog 119 #[.pointer (some ⟨cc,0,none⟩),.int .i64 s,lfv l] w fun e w'=>e=.returned (.tuple #[])/\∃ρ',CchR ρ' w' a cc m ag (cputs C s l)/\Ste rtC ρ w ρ' w':=by
 have hn16:=hC.n16
 have hT:=hC.T
 have hlba:=hl.bd.2.1
 have hsl:=fun W' hh=>slot_ok ρ a cc m ag l.lba C W' hh hn16.2
 have hold:=slotOf_bd C.now l.lba
 obtain⟨old,ho⟩:∃old,old=slotOf C.now l.lba:=⟨_,rfl⟩
 rw[<-ho]at hsl hold
 have hP:cputs C s l=if 0<=old then cdrops (cput1 C s l) old.toNat else cput1 C s l:=by rw[ho];rfl
 have hB:Blk (w.alloc (.cells (lfc l).toArray 103)) w.heap.size 103 (lfc l).toArray:=Blk.new w 103 _
 have hbw:Below w.heap.size w (w.alloc (.cells (lfc l).toArray 103)):=(Below.refl _ _).alloc (Nat.le_refl _) _
 have h1:=h.below_ hbw
 obtain⟨W1,hW1⟩:∃W1,W1=w.alloc (.cells (lfc l).toArray 103):=⟨_,rfl⟩
 rw[<-hW1]at hB hbw h1
 have hs1:=hsl W1 h1
 obtain⟨kind,dirty,lba,⟨ep,sl,ver⟩,ta,tb⟩:=l
 unfold lfv lfc
 unfold lfc at hB hW1
 simp only at hB hW1 hs1 hlba ⊢
 have HW:=Lib.hid hW1
 have c2:=hB.cell_ 2 rfl
 have lB:=hB.lt
 have H:=Lib.hid (And.intro hbw (And.intro h1 (And.intro hB (And.intro hold (And.intro hP (And.intro hC (And.intro hl h0)))))))
 have hf1:Fresh ρ W1:=fun i hi=>hf i (Nat.le_trans hbw.size hi)
 clear h hC hl h0 hsl ho hP hB hbw h1 hW1 hold hT
 go_enter Tryz.func119,Tryz.ntmps119
 go_wp2_with fail
 rw[<-HW.out]
 refine hs1.mono ?_
 rintro e w2 ⟨rfl,q2⟩
 clear hs1 c2 lB
 obtain⟨hbw,h1,hB,hold,hP,hC,hl,h0⟩:=H.out
 have h2:=h1.below_ q2
 have hw2:=hbw.trans (q2.mono hbw.size)
 have hf2:Fresh ρ w2:=fun i hi=>hf i (Nat.le_trans hw2.size hi)
 obtain⟨g,cap,c2,ht',lg,hrg,hCn,hsn⟩:=h2.set_now hf2 hs ⟨kind,dirty,lba,⟨ep,sl,ver⟩,ta,tb⟩
 have hB2:=hB.below_ q2
 have hr:=hB2.range
 have hne:w.heap.size≠g:=fun c=>by rw[<-c,hf _ (Nat.le_refl _)]at hrg;exact absurd hrg (by decide)
 have h2':=h2
 obtain⟨vn,vw,hb2,_⟩:=h2'
 have lc2:=hb2.lt
 have hvn:vn=.slice (some ⟨g,0,none⟩) C.now.length cap:=by
  have:=hb2.cell_ 2 rfl
  rw[c2]at this
  injection this with this
  exact this.symm
 subst hvn
 obtain⟨n,hn⟩:∃n,n=C.now.length:=⟨_,rfl⟩
 rw[<-hn]at hs hn16 c2 hb2
 have m0:(0:Int)<=(s:Int):=by omega
 have m1:(s:Int)<(n:Int):=by omega
 have hC3:=hCn
 unfold lfc at hC3 hsn
 simp only at hC3 hsn
 have hf3:Fresh ρ (w2.setCells g (s*8) [.int .i64 kind,.bool dirty,.int .i64 lba,.int .u32 ep,.int .u32 sl,.int .u64 ver,.int .u64 ta,.int .u64 tb]):=hsn.fresh
 have hto:=atouch_ok ρ ag C.T s C.age _ hf3 hC3.age (by have:=hC.T;omega) (by omega)
 obtain⟨W3,hW3⟩:∃W3,W3=w2.setCells g (s*8) [.int .i64 kind,.bool dirty,.int .i64 lba,.int .u32 ep,.int .u32 sl,.int .u64 ver,.int .u64 ta,.int .u64 tb]:=⟨_,rfl⟩
 rw[<-hW3]at hC3 hsn hto
 have hC3d:=hC3.drew
 have hto:=atouch_ok ρ ag C.T s C.age W3.drew hsn.fresh hC3d.age (by have:=hC.T;omega) (by omega)
 have hC3d':=hC3d
 obtain⟨vn3,vw3,hb3,_⟩:=hC3d'
 have c4:=hb3.cell_ 4 rfl
 have lc3:=hb3.lt
 obtain⟨u0,u1,u2,u3,u4,u5,u6,u7,⟨t0,t1,t2,t3,t4,t5,t6,t7⟩,p0,p1,p2,p3,p4,p5,p6,p7⟩:=there8 ht'
 have r0:=hB2.cell_ 0 rfl
 have r1:=hB2.cell_ 1 rfl
 have r2:=hB2.cell_ 2 rfl
 have r3:=hB2.cell_ 3 rfl
 have r4:=hB2.cell_ 4 rfl
 have r5:=hB2.cell_ 5 rfl
 have r6:=hB2.cell_ 6 rfl
 have r7:=hB2.cell_ 7 rfl
 have lr:=hB2.lt
 have HW3:=Lib.hid hW3
 have HC3:=Lib.hid hC3d
 clear hC3d
 have HH:=Lib.hid (And.intro hC3 (And.intro hsn (And.intro hw2 (And.intro hn (And.intro hold (And.intro hP (And.intro hC (And.intro hl h0))))))))
 clear hbw h1 hB hold hP hC hl h0 h2 hw2 hCn hC3 hsn hB2 hr hn q2 hf2 ht' hW3 hf3 hb2 hb3
 go_wp2_with fail
 go_region
 rw[sets8o,<-HW3.out]
 clear t0 t1 t2 t3 t4 t5 t6 t7 p0 p1 p2 p3 p4 p5 p6 p7 r0 r1 r2 r3 r4 r5 r6 r7
 go_wp2_with fail
 refine hto.mono ?_
 rintro e w4 ⟨rfl,ρ4,hA4,s4⟩
 clear hto c4 lc3
 have hC4:=HC3.out.put_age hA4 s4
 obtain⟨hC3,hsn,hw2,hn,hold,hP,hC,hl,h0⟩:=HH.out
 have st4:Ste rtC ρ w ρ4 w4:=(((Ste.of_below hw2 hf).trans (hsn.mono (fun r e=>by rw[e];unfold rtC;decide))).trans (Ste.of_below (Below.refl _ _).drew hsn.fresh)).trans (s4.mono (fun r e=>by rw[e];unfold rtC;decide))
 rcases hold with ho|⟨x,ho,hx,_⟩
 ·subst ho
  have HF:=Lib.hid (And.intro hC4 (And.intro st4 hP))
  clear hC4 st4 hP hC3 hsn hw2 hn hC hl h0 hA4 s4
  go_wp2_with fail
  go_end0
  obtain⟨hC4,st4,hP⟩:=HF.out
  rw[if_neg (by decide)]at hP
  rw[hP]
  exact⟨rfl,ρ4,hC4,st4⟩
 ·subst ho
  have hd:=drops_ok ρ4 a cc m ag (cput1 C s ⟨kind,dirty,lba,⟨ep,sl,ver⟩,ta,tb⟩) x w4 s4.fresh hC4 (by show x<(C.now.set s _).length;rw[List.length_set];exact hx) (by show(C.now.set s _).length<=16;rw[List.length_set];omega)
  have HF:=Lib.hid (And.intro st4 hP)
  have x0:(0:Int)<=(x:Int):=by omega
  clear hC4 st4 hP hC3 hsn hw2 hn hC hl h0 hA4 s4 hx
  go_wp2_with fail
  refine hd.mono ?_
  rintro e w5 ⟨rfl,ρ5,hC5,s5⟩
  have HG:=Lib.hid (And.intro hC5 s5)
  clear hd hC5 s5
  go_wp2_with fail
  go_end0
  obtain⟨st4,hP⟩:=HF.out
  obtain⟨hC5,s5⟩:=HG.out
  rw[if_pos (by omega),Int.toNat_natCast]at hP
  rw[hP]
  exact⟨rfl,ρ5,hC5,st4.trans s5⟩
end Go.Proofs.YtggmdjdflaglpaaGreat
namespace Go.Proofs.YtggmdjdflaglpaaGreat
open Go.RowKit Go.Proofs.YtggmdjdflaglpaaGreat.geo
set_option linter.unusedVariables false
theorem clay_err (C:Cch) (s x:Nat) (data:By) (d:Bool):((clay C s x data d).1=0/\(clay C s x data d).2=(lleaf C s x data d,lcch C s x data)/\C.M.n≠100)\/((clay C s x data d).1=6/\(clay C s x data d).2=(Lf.no,C)/\C.M.n=100)\/((clay C s x data d).1=7/\(clay C s x data d).2=(Lf.no,lcch C s x data)/\C.M.n≠100/\(spend C.W.pow).2=false):=by
 unfold clay
 by_cases h:C.M.n=100
 ·rw[if_pos h];exact .inr (.inl ⟨rfl,rfl,h⟩)
 ·rw[if_neg h]
  cases hs:(spend C.W.pow).2 with
  |false=>rw[if_pos rfl];exact .inr (.inr ⟨rfl,rfl,h,rfl⟩)
  |true=>rw[if_neg (by simp)];exact .inl ⟨rfl,rfl,h⟩
set_option maxHeartbeats 8000000 in
set_option maxRecDepth 100000 in
theorem write_ok (HO:OpenOk) (HS:SumOk) (HT:ShutOk) (ρ:Rl) (a:Ads) (cc m ag:Nat) (C:Cch) (k t:Nat) (kd:Int) (x:Nat) (data:By) (vd:Value) (w:World) (hf:Fresh ρ w) (h:CchR ρ w a cc m ag C) (hC:Cok C k t) (hk6:k<=300000) (ht:t<=900) (hx:x<32) (hv:HasP (fun b=>¬rtC (ρ b)) w vd data) (hd:data.length=32):
 Calls Tryz.prog 73 #[.pointer (some ⟨cc,0,none⟩),.agg #[.int .i64 kd,.int .i64 x,vd]] w (TolP ρ a cc m (cwrite C x data).1 [] (cwrite C x data).2 w):=by
 obtain⟨Av,c,rfl⟩:=hv.slice
 rw[hd]at hv ⊢
 have hR:cwrite C x data=if(croom C).1≠0 then croom C
  else if(clay (croom C).2 (free (croom C).2).toNat x data true).1≠0 then((clay (croom C).2 (free (croom C).2).toNat x data true).1,(clay (croom C).2 (free (croom C).2).toNat x data true).2.2)
  else(0,cputs (clay (croom C).2 (free (croom C).2).toNat x data true).2.2 (free (croom C).2).toNat (clay (croom C).2 (free (croom C).2).toNat x data true).2.1):=rfl
 obtain⟨q1,b1,b2⟩:=boxes w kd x (.slice Av 32 c)
 obtain⟨W1,hW1⟩:∃W1,W1=(w.alloc (.cells #[.int .i64 kd,.int .i64 x,.slice Av 32 c] 34)).alloc (.cells #[.int .i64 0,.slice none 0 0] 38):=⟨_,rfl⟩
 rw[<-hW1]at q1 b1 b2
 have h1:=h.below_ q1
 have hv1:=hv.below_ q1
 have hf1:Fresh ρ W1:=fun i hi=>hf i (Nat.le_trans q1.size hi)
 have hrm:=room_ok HO HS HT ρ a cc m ag C k t W1 hf1 h1 hC (by omega)
 have hz:ρ (w.heap.size+1)=0:=hf _ (by omega)
 have hz0:ρ w.heap.size=0:=hf _ (by omega)
 have hC1:=hC.room (by omega)
 have hfr:=room_free hC (by omega)
 obtain⟨R,hRR⟩:∃R,R=cwrite C x data:=⟨_,rfl⟩
 rw[<-hRR]at hR
 rw[<-hRR]
 obtain⟨S,hS⟩:∃S,S=croom C:=⟨_,rfl⟩
 rw[<-hS]at hrm hR hC1 hfr
 obtain⟨se,sC⟩:=S
 unfold CcP at hrm
 simp only at hrm hR hC1 hfr
 have HW:=Lib.hid hW1
 have H:=Lib.hid (And.intro q1 (And.intro b1 (And.intro b2 hv1)))
 have HH:=Lib.hid (And.intro hR (And.intro hC1 (And.intro hfr hd)))
 have b1l:=b1.lt
 have b2l:=b2.lt
 clear h h1 hC hS hW1 q1 b1 b2 hv hv1 hR hC1 hfr hRR hd
 go_enter Tryz.func73,Tryz.ntmps73
 go_wp2_with fail
 rw[<-HW.out]
 refine hrm.mono ?_
 rintro e w2 ⟨rfl,ρ2,hC2,s2⟩
 clear hrm
 obtain⟨q1,b1,b2,hv1⟩:=H.out
 have b4:=b1.ste s2 (by rw[hz0];exact rtC0)
 have b3:=b2.ste s2 (by rw[hz];exact rtC0)
 have hz2:=(s2.old _ b2l).trans hz
 have hz20:=(s2.old _ b1l).trans hz0
 have st:=(Ste.of_below (T:=rtC) q1 hf).trans s2
 have hv2:=hv1.steN s2
 by_cases he:se=0
 ·subst he
  obtain⟨hR,hC1,hfr,hd⟩:=HH.out
  simp only[ne_eq,not_true_eq_false,if_false]at hR
  have hfr0:=hfr (by first|rfl|trivial)
  obtain⟨s,hs,hsl⟩:∃s:Nat,free sC=s/\s<sC.now.length:=by
   rcases free_bd sC with e|⟨s,e,h,_⟩
   ·omega
   ·exact⟨s,e,h⟩
  rw[hs,Int.toNat_natCast]at hR
  have hly:=lay_ok HT ρ2 a cc m ag sC (k+103) t s x (.slice Av 32 c) data true w2 s2.fresh hC2 hC1 (by omega) hs hsl hx hv2 hd
  have hle:=clay_err sC s x data true
  have hlok:=lleaf_ok hC1 (by omega) (s:=s) (by have:=hC1.n16;omega) hx data true
  have hCl:=fun hn=>hC1.lay hn hsl x data hd
  unfold LayP at hly
  obtain⟨L,hL⟩:∃L,L=clay sC s x data true:=⟨_,rfl⟩
  rw[<-hL]at hly hR hle
  obtain⟨le,lf,lC⟩:=L
  simp only at hly hR hle
  have d1:=b4.cell_ 1 rfl
  have d2:=b4.cell_ 2 rfl
  have lb4:=b4.lt
  have b3l:=b3.lt
  have HF:=Lib.hid (And.intro b3 (And.intro hz2 (And.intro st (And.intro hR (And.intro hle (And.intro hlok (And.intro hCl hsl)))))))
  clear q1 b1 b2 b3 b4 hz2 hz20 st hC2 s2 hR hC1 hfr hfr0 hs hsl hle hlok hCl hL hv1 hv2 hd
  by_cases hl0:le=0
  ·subst hl0
   rw[if_pos (by first|rfl|trivial)]at hly
   have hlv:=lfv lf
   obtain⟨lk,ld,ll,⟨le0,ls0,lv0⟩,lta,ltb⟩:=lf
   unfold lfv lfc at hly
   simp only at hly
   go_wp2_with fail
   refine hly.mono ?_
   rintro e w3 ⟨rfl,ρ3,hC3,s3⟩
   clear hly d1 d2 lb4
   obtain⟨b3,hz2,st,hR,hle,hlok,hCl,hsl⟩:=HF.out
   have b5:=b3.ste s3 (by rw[hz2];exact rtC0)
   have hz3:=(s3.old _ b3l).trans hz2
   have st3:=st.trans s3
   simp only[not_true_eq_false,if_false]at hR
   rcases hle with⟨_,hle,hn⟩|⟨e,_⟩|⟨e,_⟩
   ·injection hle with hl1 hl2
    have hCl':=hCl hn
    rw[<-hl2]at hCl'
    have q4:Below w3.heap.size w3 (w3.alloc (.cells #[.int .i64 lk,.bool ld,.int .i64 ll,.int .u32 le0,.int .u32 ls0,.int .u64 lv0,.int .u64 lta,.int .u64 ltb] 103)):=(Below.refl _ _).alloc (Nat.le_refl _) _
    have hpt:=puts_ok ρ3 a cc m ag lC (k+106) t s ⟨lk,ld,ll,⟨le0,ls0,lv0⟩,lta,ltb⟩ _ (fun i hi=>s3.fresh i (Nat.le_trans q4.size hi)) (hC3.below_ q4) hCl' (by omega) (by rw[hl2];exact hsl) (by rw[hl1];exact hlok) (by rw[hl1];exact Nat.one_ne_zero)
    unfold lfv lfc at hpt
    simp only at hpt
    have b6:=b5.below_ q4
    have b6l:=b6.lt
    have st4:=st3.trans (Ste.of_below (T:=rtC) q4 s3.fresh)
    obtain⟨W4,hW4⟩:∃W4,W4=w3.alloc (.cells #[.int .i64 lk,.bool ld,.int .i64 ll,.int .u32 le0,.int .u32 ls0,.int .u64 lv0,.int .u64 lta,.int .u64 ltb] 103):=⟨_,rfl⟩
    rw[<-hW4]at hpt b6 b6l st4
    have HW4:=Lib.hid hW4
    have HG:=Lib.hid (And.intro b6 (And.intro hz3 (And.intro st4 hR)))
    clear b3 hz2 st hR hlok hCl hsl b5 hz3 st3 hC3 s3 hn hl1 hl2 hCl' q4 b6 st4 hW4
    go_wp2_with fail
    rw[<-HW4.out]
    refine hpt.mono ?_
    rintro e w5 ⟨rfl,ρ5,hC5,s5⟩
    clear hpt
    obtain⟨b6,hz3,st4,hR⟩:=HG.out
    have b7:=b6.ste s5 (by rw[hz3];exact rtC0)
    have hz5:=(s5.old _ b6l).trans hz3
    have st5:=st4.trans s5
    have c0:=b7.cell_ 0 rfl
    have c1:=b7.cell_ 1 rfl
    have f0:=b7.frozen 0
    have f1:=b7.frozen 1
    have lb:=b7.lt
    have HK:=Lib.hid (And.intro b7 (And.intro hz5 (And.intro hC5 (And.intro st5 hR))))
    clear b6 hz3 st4 hR b7 hz5 hC5 st5 s5
    go_wp2_with fail
    obtain⟨b7,hz5,hC5,st5,hR⟩:=HK.out
    rw[hR]
    exact ret_cell 4 38 (by rfl) (w.heap.size+1) 0 (by rfl) [.int .i64 0,.slice none 0 0] _ (told_end b7 hz5 (by omega) hC5 st5 _ _).1.range Tryz.underlying38 rfl sz38 rfl (told_nil b7 hz5 (by omega) hC5 st5 0)
   ·exact absurd e (by decide)
   ·exact absurd e (by decide)
  ·have t1:(le !=0)=true:=by simpa using hl0
   rw[if_neg hl0]at hly
   obtain⟨lk,ld,ll,⟨le0,ls0,lv0⟩,lta,ltb⟩:=lf
   unfold lfv lfc at hly
   simp only at hly
   have HL0:=Lib.hid hl0
   clear hl0
   go_wp2_with fail
   refine hly.mono ?_
   rintro e w3 ⟨rfl,ρ3,hC3,s3⟩
   clear hly d1 d2 lb4
   obtain⟨b3,hz2,st,hR,hle,hlok,hCl,hsl⟩:=HF.out
   have b5:=b3.ste s3 (by rw[hz2];exact rtC0)
   have hz3:=(s3.old _ b3l).trans hz2
   have st3:=st.trans s3
   rw[if_pos HL0.out]at hR
   have q4:Below w3.heap.size w3 (w3.alloc (.cells #[.int .i64 lk,.bool ld,.int .i64 ll,.int .u32 le0,.int .u32 ls0,.int .u64 lv0,.int .u64 lta,.int .u64 ltb] 103)):=(Below.refl _ _).alloc (Nat.le_refl _) _
   have b6:=b5.below_ q4
   have hC4:=hC3.below_ q4
   have st4:=st3.trans (Ste.of_below (T:=rtC) q4 s3.fresh)
   obtain⟨W4,hW4⟩:∃W4,W4=w3.alloc (.cells #[.int .i64 lk,.bool ld,.int .i64 ll,.int .u32 le0,.int .u32 ls0,.int .u64 lv0,.int .u64 lta,.int .u64 ltb] 103):=⟨_,rfl⟩
   have hb5:=b5
   rw[<-hW4]at b6 hC4 st4
   have c0:=b5.cell_ 0 rfl
   have c1:=b5.cell_ 1 rfl
   have f0:=b5.frozen 0
   have f1:=b5.frozen 1
   have lb:=b5.lt
   have lz:w.heap.size+1<w3.heap.size:=lb
   have HK:=Lib.hid (And.intro b5 (And.intro hz3 (And.intro hC3 (And.intro st3 hR))))
   clear b3 hz2 st hR hle hlok hCl hsl b5 hb5 hz3 st3 hC3 s3 q4 b6 hC4 st4 hW4
   go_wp2_with fail
   obtain⟨b5,hz3,hC3,st3,hR⟩:=HK.out
   rw[hR]
   have he1:=told_end b5 hz3 (by omega) hC3 st3 (.int .i64 le) (.slice none 0 0)
   have q5:=fun(W:World)=>(Below.refl W.heap.size W).alloc (Nat.le_refl _) (.cells #[.int .i64 lk,.bool ld,.int .i64 ll,.int .u32 le0,.int .u32 ls0,.int .u64 lv0,.int .u64 lta,.int .u64 ltb] 103)
   refine ret_cell 4 38 (by rfl) (w.heap.size+1) 0 (by rfl) [.int .i64 le,.slice none 0 0] _ (he1.1.alloc _).range Tryz.underlying38 rfl sz38 rfl ?_
   exact⟨_,rfl,ρ3,ag,.inl ⟨rfl,rfl⟩,he1.2.1.alloc _,he1.2.2.1.trans (Ste.of_below (q5 _) he1.2.2.1.fresh)⟩
 ·have t1:(se !=0)=true:=by simpa using he
  obtain⟨hR,_⟩:=HH.out
  rw[if_pos he]at hR
  have c0:=b3.cell_ 0 rfl
  have c1:=b3.cell_ 1 rfl
  have f0:=b3.frozen 0
  have f1:=b3.frozen 1
  have lb:=b3.lt
  have HK:=Lib.hid (And.intro b3 (And.intro hz2 (And.intro hC2 (And.intro st hR))))
  clear q1 b1 b2 b3 b4 hz2 hz20 st hC2 s2 hR he hv1 hv2
  go_wp2_with fail
  obtain⟨b3,hz2,hC2,st,hR⟩:=HK.out
  rw[hR]
  exact ret_cell 4 38 (by rfl) (w.heap.size+1) 0 (by rfl) [.int .i64 se,.slice none 0 0] _ (told_end b3 hz2 (by omega) hC2 st _ _).1.range Tryz.underlying38 rfl sz38 rfl (told_nil b3 hz2 (by omega) hC2 st se)
set_option maxHeartbeats 8000000 in
set_option maxRecDepth 100000 in
theorem discard_ok (HO:OpenOk) (HS:SumOk) (HT:ShutOk) (ρ:Rl) (a:Ads) (cc m ag:Nat) (C:Cch) (k t:Nat) (kd:Int) (x:Nat) (Av:Option Addr) (n c:Nat) (w:World) (hf:Fresh ρ w) (h:CchR ρ w a cc m ag C) (hC:Cok C k t) (hk6:k<=300000) (ht:t<=900) (hx:x<32):
 Calls Tryz.prog 75 #[.pointer (some ⟨cc,0,none⟩),.agg #[.int .i64 kd,.int .i64 x,.slice Av n c]] w (TolP ρ a cc m (cdiscard C x).1 [] (cdiscard C x).2 w):=by
 have hR:cdiscard C x=if(croom C).1≠0 then croom C else(0,cputs (croom C).2 (free (croom C).2).toNat (Lf.zero x)):=rfl
 obtain⟨q1,b1,b2⟩:=boxes w kd x (.slice Av n c)
 obtain⟨W1,hW1⟩:∃W1,W1=(w.alloc (.cells #[.int .i64 kd,.int .i64 x,.slice Av n c] 34)).alloc (.cells #[.int .i64 0,.slice none 0 0] 38):=⟨_,rfl⟩
 rw[<-hW1]at q1 b1 b2
 have h1:=h.below_ q1
 have hf1:Fresh ρ W1:=fun i hi=>hf i (Nat.le_trans q1.size hi)
 have hrm:=room_ok HO HS HT ρ a cc m ag C k t W1 hf1 h1 hC (by omega)
 have hz:ρ (w.heap.size+1)=0:=hf _ (by omega)
 have hz0:ρ w.heap.size=0:=hf _ (by omega)
 have hC1:=hC.room (by omega)
 have hfr:=room_free hC (by omega)
 obtain⟨R,hRR⟩:∃R,R=cdiscard C x:=⟨_,rfl⟩
 rw[<-hRR]at hR
 rw[<-hRR]
 obtain⟨S,hS⟩:∃S,S=croom C:=⟨_,rfl⟩
 rw[<-hS]at hrm hR hC1 hfr
 obtain⟨se,sC⟩:=S
 unfold CcP at hrm
 simp only at hrm hR hC1 hfr
 have HW:=Lib.hid hW1
 have H:=Lib.hid (And.intro q1 (And.intro b1 b2))
 have HH:=Lib.hid (And.intro hR (And.intro hC1 hfr))
 have b1l:=b1.lt
 have b2l:=b2.lt
 clear h h1 hC hS hW1 q1 b1 b2 hR hC1 hfr hRR
 go_enter Tryz.func75,Tryz.ntmps75
 go_wp2_with fail
 rw[<-HW.out]
 refine hrm.mono ?_
 rintro e w2 ⟨rfl,ρ2,hC2,s2⟩
 clear hrm
 obtain⟨q1,b1,b2⟩:=H.out
 have b4:=b1.ste s2 (by rw[hz0];exact rtC0)
 have b3:=b2.ste s2 (by rw[hz];exact rtC0)
 have hz2:=(s2.old _ b2l).trans hz
 have st:=(Ste.of_below (T:=rtC) q1 hf).trans s2
 by_cases he:se=0
 ·subst he
  obtain⟨hR,hC1,hfr⟩:=HH.out
  simp only[ne_eq,not_true_eq_false,if_false]at hR
  have hfr0:=hfr (by first|rfl|trivial)
  obtain⟨s,hs,hsl⟩:∃s:Nat,free sC=s/\s<sC.now.length:=by
   rcases free_bd sC with e|⟨s,e,h,_⟩
   ·omega
   ·exact⟨s,e,h⟩
  rw[hs,Int.toNat_natCast]at hR
  have hfo:=free_ok ρ2 a cc m ag sC w2.drew hC2.drew (by rw[hC1.wl,hC1.nl]) hC1.n16.2
  rw[hs]at hfo
  have hpt:=puts_ok ρ2 a cc m ag sC (k+103) t s (Lf.zero x) w2.drew s2.fresh hC2.drew hC1 (by omega) hsl (.inr (.inl ⟨x,hx,rfl⟩)) (by show(2:Nat)≠0;decide)
  unfold lfv lfc Lf.zero at hpt
  simp only at hpt
  have b3l:=b3.lt
  have hz3:ρ2 w.heap.size=0:=(s2.old _ b1l).trans hz0
  have hx2:((2:Nat):Int)=2:=rfl
  rw[hx2]at hpt
  have HF:=Lib.hid (And.intro b3 (And.intro hz2 (And.intro st (And.intro hR s2.fresh))))
  clear q1 b1 b2 b3 hz2 st hC2 s2 hR hC1 hfr hfr0 hs hsl hx2
  go_wp2_with fail
  have b40:=b4
  go_region_held3 (fun w'=>w'.cell? ⟨w.heap.size,1,none⟩=some (.int .i64 x))
   (first|(with_reducible exact b40.cell_ 1 rfl)|(with_reducible exact b40.drew.cell_ 1 rfl))
   (first
    |(go_at_call 116;(with_reducible refine hfo.mono ?_);rintro e w3 ⟨rfl,rfl⟩)
    |(go_at_call 119;(with_reducible refine hpt.mono ?_);rintro e w5 ⟨rfl,ρ5,hC5,s5⟩;replace b40:=b4.drew.ste s5 (by rw[hz3];exact rtC0))
    |fail)
  obtain⟨b3,hz2,st,hR,hf2⟩:=HF.out
  have s6:Ste rtC ρ2 w2 ρ5 w5:=(Ste.of_below (Below.refl _ _).drew hf2).trans s5
  have b7:=b3.ste s6 (by rw[hz2];exact rtC0)
  have hz5:=(s6.old _ b3l).trans hz2
  have st5:=st.trans s6
  have c0:=b7.cell_ 0 rfl
  have c1:=b7.cell_ 1 rfl
  have f0:=b7.frozen 0
  have f1:=b7.frozen 1
  have lb:=b7.lt
  have HK:=Lib.hid (And.intro b7 (And.intro hz5 (And.intro hC5 (And.intro st5 hR))))
  clear b3 hz2 st hR hf2 s6 b7 hz5 hC5 st5 s5 b40 b4 hfo hpt
  go_wp2_with fail
  obtain⟨b7,hz5,hC5,st5,hR⟩:=HK.out
  rw[hR]
  exact ret_cell 4 38 (by rfl) (w.heap.size+1) 0 (by rfl) [.int .i64 0,.slice none 0 0] _ (told_end b7 hz5 (by omega) hC5 st5 _ _).1.range Tryz.underlying38 rfl sz38 rfl (told_nil b7 hz5 (by omega) hC5 st5 0)
 ·have t1:(se !=0)=true:=by simpa using he
  obtain⟨hR,_⟩:=HH.out
  rw[if_pos he]at hR
  have c0:=b3.cell_ 0 rfl
  have c1:=b3.cell_ 1 rfl
  have f0:=b3.frozen 0
  have f1:=b3.frozen 1
  have lb:=b3.lt
  have HK:=Lib.hid (And.intro b3 (And.intro hz2 (And.intro hC2 (And.intro st hR))))
  clear q1 b1 b2 b3 b4 hz2 st hC2 s2 hR he
  go_wp2_with fail
  obtain⟨b3,hz2,hC2,st,hR⟩:=HK.out
  rw[hR]
  exact ret_cell 4 38 (by rfl) (w.heap.size+1) 0 (by rfl) [.int .i64 se,.slice none 0 0] _ (told_end b3 hz2 (by omega) hC2 st _ _).1.range Tryz.underlying38 rfl sz38 rfl (told_nil b3 hz2 (by omega) hC2 st se)
end Go.Proofs.YtggmdjdflaglpaaGreat
namespace Go.Proofs.YtggmdjdflaglpaaGreat
open Go.RowKit Go.Proofs.YtggmdjdflaglpaaGreat.geo Go.Proofs.YtggmdjdflaglpaaGreat.nce
set_option linter.unusedVariables false
abbrev rTmp:Nat:=24
theorem tend {ρ ρ':Rl}{w w':World}{a:Ads}{cc m ag g:Nat}{C:Cch}{x y:Value}(hB:Blk w' g 38 #[x,y]) (hz:ρ' g=rTmp) (hg:w.heap.size<=g) (hC:CchR ρ' w' a cc m ag C) (hs:Ste rtC ρ w ρ' w') (u v:Value):
 Blk ((w'.setCell ⟨g,0,none⟩ u).setCell ⟨g,1,none⟩ v) g 38 [u,v].toArray/\CchR ρ' ((w'.setCell ⟨g,0,none⟩ u).setCell ⟨g,1,none⟩ v) a cc m ag C/\Ste rtC ρ w ρ' ((w'.setCell ⟨g,0,none⟩ u).setCell ⟨g,1,none⟩ v)/\w'.grownBy ((w'.setCell ⟨g,0,none⟩ u).setCell ⟨g,1,none⟩ v) (some g):=by
 have h2:=only_set2 w' g 0 1 u v
 refine⟨(hB.set_to 0 u (cs':=#[u,y]) rfl).set_to 1 v rfl,hC.keep h2.size (fun b hb e=>⟨h2.block b hb (fun c=>by injection c with c;rw[c,hz]at e;exact absurd e.2 (by decide)),rfl⟩),⟨hs.ch.then_only h2 hg,hs.old,fun i hi=>hs.fresh i (Nat.le_trans h2.size hi)⟩,h2⟩
theorem tnil {ρ ρ':Rl}{w w':World}{a:Ads}{cc m ag g:Nat}{C:Cch}{x y:Value}(hB:Blk w' g 38 #[x,y]) (hz:ρ' g=rTmp) (hg:w.heap.size<=g) (hC:CchR ρ' w' a cc m ag C) (hs:Ste rtC ρ w ρ' w') (er:Int):
 TolP ρ a cc m er [] C w (.returned (.agg [.int .i64 er,.slice none 0 0].toArray)) ((w'.setCell ⟨g,0,none⟩ (.int .i64 er)).setCell ⟨g,1,none⟩ (.slice none 0 0)):=by
 obtain⟨_,h2,h3,_⟩:=tend hB hz hg hC hs (.int .i64 er) (.slice none 0 0)
 exact⟨_,rfl,ρ',ag,.inl ⟨rfl,rfl⟩,h2,h3⟩
theorem tyes {ρ ρ':Rl}{w w':World}{a:Ads}{cc m ag g:Nat}{C:Cch}{x y v:Value}{b:By}(hB:Blk w' g 38 #[x,y]) (hz:ρ' g=rTmp) (hg:w.heap.size<=g) (hC:CchR ρ' w' a cc m ag C) (hs:Ste rtC ρ w ρ' w') (hv:HasP (ρ' · =0) w' v b):
 TolP ρ a cc m 0 b C w (.returned (.agg [.int .i64 0,v].toArray)) ((w'.setCell ⟨g,0,none⟩ (.int .i64 0)).setCell ⟨g,1,none⟩ v):=by
 obtain⟨_,h2,h3,h4⟩:=tend hB hz hg hC hs (.int .i64 0) v
 exact⟨_,rfl,ρ',ag,hv.keep h4.size (fun i hi e=>h4.block i hi (fun c=>by injection c with c;rw[c,hz]at e;exact absurd e (by decide))),h2,h3⟩
theorem HasP.ste0 {ρ ρ':Rl}{w w':World}{v:Value}{l:By}(h:HasP (ρ · =0) w v l) (hs:Ste rtC ρ w ρ' w'):HasP (ρ' · =0) w' v l:=
 ((h.weakB (q:=fun b=>ρ b=0/\ρ' b=0) (fun b hb e=>⟨e,(hs.old b hb).trans e⟩)).keep hs.size (fun b hb e=>hs.ch.keep b hb (by rw[e.1];exact rtC0))).weak (fun b e=>e.2)
theorem s3r {w:World}{cc wl da g:Nat}{k x:Int}{v x1 x2 x3 x4 x5 y0 y1 y2 y4 y5 y6:Value}(b:Blk w cc 107 #[.pointer (some ⟨wl,0,none⟩),x1,x2,x3,x4,x5]) (b2:Blk w wl 70 #[y0,y1,y2,.pointer (some ⟨da,0,none⟩),y4,y5,y6]) (b3:Blk w g 34 #[.int .i64 k,.int .i64 x,v]):
 w.cell? ⟨cc,0,none⟩=some (.pointer (some ⟨wl,0,none⟩))/\w.cell? ⟨wl,3,none⟩=some (.pointer (some ⟨da,0,none⟩))/\w.cell? ⟨g,1,none⟩=some (.int .i64 x):=⟨b.cell_ 0 rfl,b2.cell_ 3 rfl,b3.cell_ 1 rfl⟩
theorem cval_nil {C:Cch}{s:Nat}(h:(cval C s).1≠0):(cval C s).2.1=[]:=by
 unfold cval at h ⊢
 split
 ·rename_i e
  rw[if_pos e]at h
  exact absurd rfl h
 ·rename_i e
  rw[if_neg e]at h
  split
  ·rfl
  ·rename_i e2
   rw[if_neg e2]at h
   split
   ·rename_i b hb
    rw[hb]at h
    exact absurd rfl h
   ·rfl
theorem rtC24:¬rtC rTmp:=by unfold rtC;decide
theorem rtW24:¬rtW rTmp:=by unfold rtW;decide
set_option maxHeartbeats 8000000 in
set_option maxRecDepth 100000 in
theorem read_hit (HO:OpenOk) (ρ:Rl) (a:Ads) (cc m ag:Nat) (C:Cch) (k t s:Nat) (kd:Int) (x:Nat) (Av:Option Addr) (n c:Nat) (w:World) (hf:Fresh ρ w) (h:CchR ρ w a cc m ag C) (hC:Cok C k t) (hk6:k<=300000) (ht:t<=900) (hs:slotOf C.now x=(s:Int)) (hsl:s<C.now.length):
 Calls Tryz.prog 72 #[.pointer (some ⟨cc,0,none⟩),.agg #[.int .i64 kd,.int .i64 x,.slice Av n c]] w (TolP ρ a cc m (cread C x).1 (cread C x).2.1 (cread C x).2.2 w):=by
 have hR:cread C x=if(cval C s).1≠0 then cval C s else(0,(cval C s).2.1,ctouch C s):=by unfold cread;rw[hs,if_pos (by omega),Int.toNat_natCast]
 obtain⟨q1,b1,b2⟩:=boxes w kd x (.slice Av n c)
 obtain⟨W1,hW1⟩:∃W1,W1=(w.alloc (.cells #[.int .i64 kd,.int .i64 x,.slice Av n c] 34)).alloc (.cells #[.int .i64 0,.slice none 0 0] 38):=⟨_,rfl⟩
 rw[<-hW1]at q1 b1 b2
 have b2l:=b2.lt
 obtain⟨ρ1,hρ1⟩:∃ρ1,ρ1=ρ.set (w.heap.size+1) rTmp:=⟨_,rfl⟩
 have st1:Ste rtC ρ w ρ1 W1:=by rw[hρ1];exact(Ste.of_below q1 hf).label (by omega) b2l
 have hz:ρ1 (w.heap.size+1)=rTmp:=by rw[hρ1];exact Rl.set_same _ _ _
 have h1:CchR ρ1 W1 a cc m ag C:=h.keep q1.size (fun b hb e=>⟨q1.block b hb,by rw[hρ1];exact Rl.set_other _ (by omega)⟩)
 have hso:=slot_ok ρ1 a cc m ag x C W1 h1 hC.n16.2
 rw[hs]at hso
 have hva:=fun w' h0 h1=>cvalue_ok HO ρ1 a cc m ag C k t s w' h0 h1 hC (by omega) hsl
 have herr:=cval_err C s
 have hnl:=cval_nil (C:=C) (s:=s)
 have hT:=hC.T
 have hn16:=hC.n16
 unfold ValP at hva
 obtain⟨V,hV⟩:∃V,V=cval C s:=⟨_,rfl⟩
 rw[<-hV]at hva hR herr hnl
 obtain⟨ve,vb,vC⟩:=V
 simp only at hva hR herr hnl
 have HNL:=Lib.hid hnl
 clear hnl
 obtain⟨R,hRR⟩:∃R,R=cread C x:=⟨_,rfl⟩
 rw[<-hRR]at hR
 rw[<-hRR]
 have HW:=Lib.hid hW1
 have c1:=b1.cell_ 1 rfl
 have b1l:=b1.lt
 have s0:(0:Int)<=(s:Int):=by omega
 have H:=Lib.hid (And.intro h1 (And.intro b2 (And.intro st1 (And.intro hz (And.intro hR (And.intro herr (And.intro hT hn16)))))))
 clear h h1 hC hs hW1 q1 b1 b2 hR hRR hρ1 st1 hz herr hV hT hn16
 go_enter Tryz.func72,Tryz.ntmps72
 go_wp2_with fail
 rw[<-HW.out]
 refine hso.mono ?_
 rintro e w2 ⟨rfl,q2⟩
 clear hso c1
 obtain⟨h1,b2,st1,hz,hR,herr,hT,hn16⟩:=H.out
 have h2:=h1.below_ q2
 have b3:=b2.below_ q2
 have st2:=st1.trans (Ste.of_below (T:=rtC) q2 st1.fresh)
 have hva2:=hva w2 st2.fresh h2
 have b3l:=b3.lt
 have HF:=Lib.hid (And.intro b3 (And.intro st2 h2))
 clear h1 b2 st1 hR herr hT hn16 h2 b3 st2 hva q2 hz
 go_wp2_with fail
 refine hva2.mono ?_
 rintro e w3 ⟨v,rfl,hv,hC3,s3,_⟩
 clear hva2
 obtain⟨b3,st2,h2⟩:=HF.out
 obtain⟨h1,b2,st1,hz,hR,herr,hT,hn16⟩:=H.out
 have b4:=b3.ste s3 (by rw[hz];exact rtC24)
 have st3:=st2.trans s3
 by_cases he:ve=0
 ·subst he
  simp only[ne_eq,not_true_eq_false,if_false]at hR
  have hvC:vC=C:=by
   rcases herr with e|e|e
   ·exact e.2
   ·exact absurd e.1 (by decide)
   ·exact absurd e.1 (by decide)
  subst hvC
  obtain⟨A3,z3,rfl⟩:=hv.slice
  have hto:=atouch_ok ρ1 ag vC.T s vC.age w3 s3.fresh hC3.age (by omega) (by omega)
  have hC3':=hC3
  obtain⟨vn3,vw3,hb3,_⟩:=hC3'
  have c4:=hb3.cell_ 4 rfl
  have lc3:=hb3.lt
  have HG:=Lib.hid (And.intro b4 (And.intro st3 (And.intro hC3 (And.intro hv (And.intro hz hR)))))
  have b4l:=b4.lt
  obtain⟨nb,hnb⟩:∃nb,nb=vb.length:=⟨_,rfl⟩
  rw[<-hnb]
  have HNB:=Lib.hid hnb
  clear b3 st2 h2 h1 b2 st1 hR herr hT hn16 b4 st3 hC3 hv hb3 s3 hz hnb
  go_wp2_with fail
  refine hto.mono ?_
  rintro e w5 ⟨rfl,ρ5,hA5,s5⟩
  clear hto c4
  obtain⟨b4,st3,hC3,hv,hz,hR⟩:=HG.out
  have s5':Ste rtC ρ1 w3 ρ5 w5:=s5.mono (fun r e=>by rw[e];unfold rtC;decide)
  have hC5:=hC3.put_age hA5 s5
  have b5:=b4.ste s5' (by rw[hz];exact rtC24)
  have hz5:=(s5'.old _ b4l).trans hz
  have st5:=st3.trans s5'
  have hv5:=hv.ste0 s5'
  rw[<-HNB.out]at hv5
  have c0:=b5.cell_ 0 rfl
  have c1:=b5.cell_ 1 rfl
  have f0:=b5.frozen 0
  have f1:=b5.frozen 1
  have lb:=b5.lt
  have HK:=Lib.hid (And.intro b5 (And.intro hz5 (And.intro hC5 (And.intro st5 (And.intro hR hv5)))))
  clear b4 st3 hC3 hv hz hR b5 hz5 hC5 st5 hv5 s5 s5' hA5
  go_wp2_with fail
  obtain⟨b5,hz5,hC5,st5,hR,hv5⟩:=HK.out
  rw[hR]
  exact ret_cell 4 38 (by rfl) (w.heap.size+1) 0 (by rfl) [.int .i64 0,.slice A3 nb z3] _ (tend b5 hz5 (by omega) hC5 st5 _ _).1.range Tryz.underlying38 rfl sz38 rfl (tyes b5 hz5 (by omega) hC5 st5 hv5)
 ·have t1:(ve !=0)=true:=by simpa using he
  rw[if_pos he]at hR
  obtain⟨A3,z3,rfl⟩:=hv.slice
  have hvb:vb=[]\/True:=.inr trivial
  have c0:=b4.cell_ 0 rfl
  have c1:=b4.cell_ 1 rfl
  have f0:=b4.frozen 0
  have f1:=b4.frozen 1
  have lb:=b4.lt
  have HK:=Lib.hid (And.intro b4 (And.intro hz (And.intro hC3 (And.intro st3 (And.intro hR he)))))
  clear b3 st2 h2 h1 b2 st1 hR herr hT hn16 b4 st3 hC3 hv s3 hz he hvb
  go_wp2_with fail
  obtain⟨b4,hz,hC3,st3,hR,he⟩:=HK.out
  rw[hR]
  have hb0:vb=[]:=HNL.out he
  rw[hb0]
  exact ret_cell 4 38 (by rfl) (w.heap.size+1) 0 (by rfl) [.int .i64 ve,.slice none 0 0] _ (tend b4 hz (by omega) hC3 st3 _ _).1.range Tryz.underlying38 rfl sz38 rfl (tnil b4 hz (by omega) hC3 st3 ve)
end Go.Proofs.YtggmdjdflaglpaaGreat
namespace Go.Proofs.YtggmdjdflaglpaaGreat
open Go.RowKit Go.Proofs.YtggmdjdflaglpaaGreat.geo Go.Proofs.YtggmdjdflaglpaaGreat.nce
set_option linter.unusedVariables false
theorem TolP.drew {ρ:Rl}{a:Ads}{cc m:Nat}{er:Int}{b:By}{C:Cch}{w:World}{e:Ending}{w':World}(h:TolP ρ a cc m er b C w e w'):TolP ρ a cc m er b C w e w'.drew:=by
 obtain⟨v,h1,ρ',ag',h2,h3,h4⟩:=h
 exact⟨v,h1,ρ',ag',h2.drew,h3.drew,h4.trans (Ste.of_below (Below.refl _ _).drew h4.fresh)⟩
set_option maxHeartbeats 16000000 in
set_option maxRecDepth 100000 in
theorem read_miss (HT:ShutOk) (ρ:Rl) (a:Ads) (cc m ag:Nat) (C:Cch) (k t:Nat) (kd:Int) (x:Nat) (Av:Option Addr) (n c:Nat) (w:World) (hf:Fresh ρ w) (h:CchR ρ w a cc m ag C) (hC:Cok C k t) (hk6:k<=300000) (ht:t<=900) (hx:x<32) (hs:slotOf C.now x=-1):
 Calls Tryz.prog 72 #[.pointer (some ⟨cc,0,none⟩),.agg #[.int .i64 kd,.int .i64 x,.slice Av n c]] w (TolP ρ a cc m (cread C x).1 (cread C x).2.1 (cread C x).2.2 w):=by
 have hR:cread C x=if C.W.pow.gone then(7,[],C)
  else if free C<0\/C.M.n=100 then(0,dread C.W.dsk x,C)
  else if(clay C (free C).toNat x (dread C.W.dsk x) false).1≠0 then((clay C (free C).toNat x (dread C.W.dsk x) false).1,[],(clay C (free C).toNat x (dread C.W.dsk x) false).2.2)
  else(0,dread C.W.dsk x,cputs (clay C (free C).toNat x (dread C.W.dsk x) false).2.2 (free C).toNat (clay C (free C).toNat x (dread C.W.dsk x) false).2.1):=by unfold cread;rw[hs,if_neg (by decide)]
 obtain⟨q1,b1,b2⟩:=boxes w kd x (.slice Av n c)
 obtain⟨W1,hW1⟩:∃W1,W1=(w.alloc (.cells #[.int .i64 kd,.int .i64 x,.slice Av n c] 34)).alloc (.cells #[.int .i64 0,.slice none 0 0] 38):=⟨_,rfl⟩
 rw[<-hW1]at q1 b1 b2
 have b2l:=b2.lt
 obtain⟨ρ1,hρ1⟩:∃ρ1,ρ1=ρ.set (w.heap.size+1) rTmp:=⟨_,rfl⟩
 have st1:Ste rtC ρ w ρ1 W1:=by rw[hρ1];exact(Ste.of_below q1 hf).label (by omega) b2l
 have hz:ρ1 (w.heap.size+1)=rTmp:=by rw[hρ1];exact Rl.set_same _ _ _
 have hz0:ρ1 w.heap.size=0:=by rw[hρ1,Rl.set_other _ (by omega)];exact hf _ (Nat.le_refl _)
 have h1:CchR ρ1 W1 a cc m ag C:=h.keep q1.size (fun b hb e=>⟨q1.block b hb,by rw[hρ1];exact Rl.set_other _ (by omega)⟩)
 have hso:=slot_ok ρ1 a cc m ag x C W1 h1 hC.n16.2
 rw[hs]at hso
 have hn16:=hC.n16
 have hdc:C.W.dsk.cnt<=1000000:=Nat.le_trans hC.fit.dsk (by omega)
 obtain⟨R,hRR⟩:∃R,R=cread C x:=⟨_,rfl⟩
 rw[<-hRR]at hR
 rw[<-hRR]
 have HW:=Lib.hid hW1
 have c1:=b1.cell_ 1 rfl
 have b1l:=b1.lt
 have d0:decide ((0:Int)<=-1)=false:=by decide
 have H:=Lib.hid (And.intro h1 (And.intro b1 (And.intro b2 (And.intro st1 (And.intro hz (And.intro hz0 (And.intro hR (And.intro hC hn16))))))))
 clear h h1 hC hs hW1 q1 b1 b2 hR hRR hρ1 st1 hz hz0 hn16
 cases hgn:C.W.pow.gone with
 |true=>
  have HG:=Lib.hid hgn
  clear hgn
  go_enter Tryz.func72,Tryz.ntmps72
  go_wp2_with fail
  rw[<-HW.out]
  refine hso.mono ?_
  rintro e w2 ⟨rfl,q2⟩
  clear hso c1
  obtain⟨h1,b1,b2,st1,hz,hz0,hR,hC,hn16⟩:=H.out
  rw[if_pos HG.out]at hR
  have h2:=h1.below_ q2
  have b4:=b1.below_ q2
  have b3:=b2.below_ q2
  have st2:=st1.trans (Ste.of_below (T:=rtC) q2 st1.fresh)
  have hrd:=fun W' hh=>wdread_off ρ1 a C.W W' x hh hx HG.out
  have hw2d:=h2.wld.drew
  have h2':=h2
  obtain⟨vn2,vw2,hb2,_,hw2,_⟩:=h2'
  have hww:=hw2.1
  have HF:=Lib.hid (And.intro b3 (And.intro st2 (And.intro h2 (And.intro hR hz))))
  clear h1 b1 b2 st1 hR h2 b3 st2 q2 hz hz0 hC hn16 hw2
  go_wp2_with fail
  go_region_held3 (fun w'=>w'.cell? ⟨cc,0,none⟩=some (.pointer (some ⟨a.wl,0,none⟩))/\w'.cell? ⟨a.wl,3,none⟩=some (.pointer (some ⟨a.d,0,none⟩))/\w'.cell? ⟨w.heap.size,1,none⟩=some (.int .i64 x))
   (first|(with_reducible exact s3r hb2 hww b4)|(with_reducible exact s3r hb2.drew hww.drew b4.drew))
   (first
    |(go_at_call 115;(with_reducible refine(hrd w2.drew hw2d).mono ?_);rintro e w3 ⟨rfl,rfl⟩)
    |fail)
  obtain⟨b3,st2,h2,hR,hz⟩:=HF.out
  have b5:=b3
  have c0:=b5.cell_ 0 rfl
  have c1:=b5.cell_ 1 rfl
  have f0:=b5.frozen 0
  have f1:=b5.frozen 1
  have lb:=b5.lt
  have HK:=Lib.hid (And.intro b5 (And.intro hz (And.intro h2 (And.intro st2 hR))))
  clear b3 st2 h2 hR hz b5 hrd hw2d hb2 hww b4
  go_wp2_with fail
  obtain⟨b5,hz,hC5,st5,hR⟩:=HK.out
  rw[hR]
  exact ret_cell 4 38 (by rfl) (w.heap.size+1) 0 (by rfl) [.int .i64 7,.slice none 0 0] _ (tend b5 hz (by omega) hC5 st5 _ _).1.drew.range Tryz.underlying38 rfl sz38 rfl (tnil b5 hz (by omega) hC5 st5 7).drew
 |false=>
  have HG:=Lib.hid hgn
  clear hgn
  go_enter Tryz.func72,Tryz.ntmps72
  go_wp2_with fail
  rw[<-HW.out]
  refine hso.mono ?_
  rintro e w2 ⟨rfl,q2⟩
  clear hso c1
  obtain⟨h1,b1,b2,st1,hz,hz0,hR,hC,hn16⟩:=H.out
  rw[if_neg (by rw[HG.out];simp)]at hR
  have h2:=h1.below_ q2
  have b4:=b1.below_ q2
  have b3:=b2.below_ q2
  have st2:=st1.trans (Ste.of_below (T:=rtC) q2 st1.fresh)
  have hrd:=fun W' hh=>wdread_on ρ1 a C.W W' x hh hx HG.out hdc
  obtain⟨db,hdb⟩:∃db,db=dread C.W.dsk x:=⟨_,rfl⟩
  rw[<-hdb]at hrd hR
  have hw2d:=h2.wld.drew
  have h2':=h2
  obtain⟨vn2,vw2,hb2,_,hw2,_⟩:=h2'
  have hww:=hw2.1
  have b4l:=b4.lt
  have HF:=Lib.hid (And.intro b3 (And.intro st2 (And.intro h2 (And.intro hR (And.intro hz (And.intro hz0 (And.intro hC hn16)))))))
  clear h1 b1 b2 st1 hR h2 b3 st2 q2 hz hz0 hC hn16 hw2 hdb
  go_wp2_with fail
  go_region_held3 (fun w'=>w'.cell? ⟨cc,0,none⟩=some (.pointer (some ⟨a.wl,0,none⟩))/\w'.cell? ⟨a.wl,3,none⟩=some (.pointer (some ⟨a.d,0,none⟩))/\w'.cell? ⟨w.heap.size,1,none⟩=some (.int .i64 x))
   (first|(with_reducible exact s3r hb2 hww b4)|(with_reducible exact s3r hb2.drew hww.drew b4.drew))
   (first
    |(go_at_call 115;(with_reducible refine(hrd w2.drew hw2d).mono ?_);rintro e w3 ⟨v3,rfl,o3,l3,q3⟩;obtain⟨A3,z3,rfl⟩:=o3.has.slice;have r3:Below w2.heap.size w2 w3:=(Below.refl _ _).drew.trans q3;replace hb2:=hb2.below_ r3;replace hww:=hww.below_ r3;replace b4:=b4.below_ r3)
    |fail)
  obtain⟨b3,st2,h2,hR,hz,hz0,hC,hn16⟩:=HF.out
  have h3:=h2.below_ r3
  have b5:=b3.below_ r3
  have st3:=st2.trans (Ste.of_below (T:=rtC) r3 st2.fresh)
  have hv3:HasP (ρ1 · =0) w3 (.slice A3 db.length z3) db:=o3.has.weak (fun b e=>st2.fresh b e)
  rw[l3]at hv3
  have hfo:=free_ok ρ1 a cc m ag C w3 h3 (by rw[hC.wl,hC.nl]) hn16.2
  obtain⟨F,hF⟩:∃F,F=free C:=⟨_,rfl⟩
  rw[<-hF]at hfo hR
  by_cases hF0:F<0
  ·have e1:decide (F<0)=true:=by simpa using hF0
   rw[if_pos (.inl hF0)]at hR
   have c0:=b5.cell_ 0 rfl
   have c1:=b5.cell_ 1 rfl
   have f0:=b5.frozen 0
   have f1:=b5.frozen 1
   have lb:=b5.lt
   have HK:=Lib.hid (And.intro b5 (And.intro hz (And.intro h3 (And.intro st3 (And.intro hR hv3)))))
   clear b3 st2 h2 hR hz hz0 hC hn16 h3 b5 st3 hv3 o3 l3 q3 r3 hb2 hww b4 hF hF0 hrd hw2d
   go_wp2_with fail
   refine hfo.mono ?_
   rintro e w4 ⟨rfl,rfl⟩
   clear hfo
   go_wp2_with fail
   obtain⟨b5,hz,hC5,st5,hR,hv⟩:=HK.out
   rw[hR]
   exact ret_cell 4 38 (by rfl) (w.heap.size+1) 0 (by rfl) [.int .i64 0,.slice A3 32 z3] _ (tend b5 hz (by omega) hC5 st5 _ _).1.range Tryz.underlying38 rfl sz38 rfl (tyes b5 hz (by omega) hC5 st5 hv)
  ·have e1:decide (F<0)=false:=by simpa using hF0
   have hmk:=h3.mkr
   have hlf:=left_ok m C.M.boot C.M.n w3 (by omega) (by have:=hC.num;omega) hmk.1
   have c1m:=hb2.cell_ 1 rfl
   have lc3:=hb2.lt
   by_cases hM:C.M.n=100
   ·rw[if_pos (.inr hM)]at hR
    rw[hM]at hlf
    have hlf':((100:Int)-((100:Nat):Int))=0:=by omega
    rw[hlf']at hlf
    have c0:=b5.cell_ 0 rfl
    have c1:=b5.cell_ 1 rfl
    have f0:=b5.frozen 0
    have f1:=b5.frozen 1
    have lb:=b5.lt
    have HK:=Lib.hid (And.intro b5 (And.intro hz (And.intro h3 (And.intro st3 (And.intro hR hv3)))))
    clear b3 st2 h2 hR hz hz0 hC hn16 h3 b5 st3 hv3 o3 l3 q3 r3 hb2 hww b4 hF hF0 hrd hw2d hmk hM hlf'
    go_wp2_with fail
    refine hfo.mono ?_
    rintro e w4 ⟨rfl,rfl⟩
    clear hfo
    go_wp2_with fail
    refine hlf.mono ?_
    rintro e w4 ⟨rfl,rfl⟩
    clear hlf
    go_wp2_with fail
    obtain⟨b5,hz,hC5,st5,hR,hv⟩:=HK.out
    rw[hR]
    exact ret_cell 4 38 (by rfl) (w.heap.size+1) 0 (by rfl) [.int .i64 0,.slice A3 32 z3] _ (tend b5 hz (by omega) hC5 st5 _ _).1.range Tryz.underlying38 rfl sz38 rfl (tyes b5 hz (by omega) hC5 st5 hv)
   ·rw[if_neg (by rintro(c|c);exact hF0 c;exact hM c)]at hR
    obtain⟨s,hs,hsl⟩:∃s:Nat,F=s/\s<C.now.length:=by
     rw[hF]
     rcases free_bd C with e|⟨s,e,h,_⟩
     ·omega
     ·exact⟨s,e,h⟩
    have hfs:free C=(s:Int):=by rw[<-hF];exact hs
    rw[hs,Int.toNat_natCast]at hR
    have hl0:((100:Int)-(C.M.n:Int) == 0)=false:=by simp;omega
    have hly:=lay_ok HT ρ1 a cc m ag C k t s x (.slice A3 32 z3) db false w3 st3.fresh h3 hC (by omega) hfs hsl hx (hv3.weak (fun b e=>by rw[e];exact rtC0)) l3
    have hle:=clay_err C s x db false
    have hlok:=lleaf_ok hC (by omega) (s:=s) (by omega) hx db false
    have hCl:=hC.lay hM hsl x db l3
    unfold LayP at hly
    obtain⟨L,hL⟩:∃L,L=clay C s x db false:=⟨_,rfl⟩
    rw[<-hL]at hly hR hle
    obtain⟨le,lf,lC⟩:=L
    simp only at hly hR hle
    have d1:=b4.cell_ 1 rfl
    have lb4:=b4.lt
    have b5l:=b5.lt
    obtain⟨rest,hrest⟩:∃rest:Int,rest=100-(C.M.n:Int):=⟨_,rfl⟩
    rw[<-hrest]at hlf hl0
    have HQ:=Lib.hid (And.intro b5 (And.intro hz (And.intro st3 (And.intro hR (And.intro hle (And.intro hlok (And.intro hCl (And.intro hsl hv3))))))))
    clear b3 st2 h2 hR hz hz0 hC hn16 h3 b5 st3 hv3 o3 l3 q3 r3 hb2 hww b4 hF hF0 hrd hw2d hmk hM hle hlok hCl hsl hs hfs hL hrest
    go_wp2_with fail
    refine hfo.mono ?_
    rintro e w4 ⟨rfl,rfl⟩
    clear hfo
    go_wp2_with fail
    refine hlf.mono ?_
    rintro e w4 ⟨rfl,rfl⟩
    clear hlf
    by_cases hle0:le=0
    ·subst hle0
     rw[if_pos (by first|rfl|trivial)]at hly
     obtain⟨lk,ld,ll,⟨le0,ls0,lv0⟩,lta,ltb⟩:=lf
     unfold lfv lfc at hly
     simp only at hly
     go_wp2_with fail
     refine hly.mono ?_
     rintro e w5 ⟨rfl,ρ3,hC3,s3⟩
     clear hly d1 lb4
     obtain⟨b5,hz,st3,hR,hle,hlok,hCl,hsl,hv3⟩:=HQ.out
     have b6:=b5.ste s3 (by rw[hz];exact rtC24)
     have hz3:=(s3.old _ b5l).trans hz
     have st5:=st3.trans s3
     have hv5:=hv3.ste0 s3
     rw[if_neg (by simp)]at hR
     rcases hle with⟨_,hle,hn⟩|⟨e,_⟩|⟨e,_⟩
     ·injection hle with hl1 hl2
      rw[<-hl2]at hCl
      have q4:Below w5.heap.size w5 (w5.alloc (.cells #[.int .i64 lk,.bool ld,.int .i64 ll,.int .u32 le0,.int .u32 ls0,.int .u64 lv0,.int .u64 lta,.int .u64 ltb] 103)):=(Below.refl _ _).alloc (Nat.le_refl _) _
      have hpt:=puts_ok ρ3 a cc m ag lC (k+3) t s ⟨lk,ld,ll,⟨le0,ls0,lv0⟩,lta,ltb⟩ _ (fun i hi=>s3.fresh i (Nat.le_trans q4.size hi)) (hC3.below_ q4) hCl (by omega) (by rw[hl2];exact hsl) (by rw[hl1];exact hlok) (by rw[hl1];exact Nat.one_ne_zero)
      unfold lfv lfc at hpt
      simp only at hpt
      have b7:=b6.below_ q4
      have b7l:=b7.lt
      have hv6:=hv5.below_ q4
      have st6:=st5.trans (Ste.of_below (T:=rtC) q4 s3.fresh)
      obtain⟨W4,hW4⟩:∃W4,W4=w5.alloc (.cells #[.int .i64 lk,.bool ld,.int .i64 ll,.int .u32 le0,.int .u32 ls0,.int .u64 lv0,.int .u64 lta,.int .u64 ltb] 103):=⟨_,rfl⟩
      rw[<-hW4]at hpt b7 b7l st6 hv6
      have HW4:=Lib.hid hW4
      have HGG:=Lib.hid (And.intro b7 (And.intro hz3 (And.intro st6 (And.intro hR hv6))))
      clear b5 hz st3 hR hlok hCl hsl hv3 b6 hz3 st5 hv5 hC3 s3 hn hl1 hl2 q4 b7 st6 hv6 hW4
      go_wp2_with fail
      rw[<-HW4.out]
      refine hpt.mono ?_
      rintro e w7 ⟨rfl,ρ7,hC7,s7⟩
      clear hpt
      obtain⟨b7,hz3,st6,hR,hv6⟩:=HGG.out
      have b8:=b7.ste s7 (by rw[hz3];exact rtC24)
      have hz7:=(s7.old _ b7l).trans hz3
      have st7:=st6.trans s7
      have hv7:=hv6.ste0 s7
      have c0:=b8.cell_ 0 rfl
      have c1:=b8.cell_ 1 rfl
      have f0:=b8.frozen 0
      have f1:=b8.frozen 1
      have lb:=b8.lt
      have HK:=Lib.hid (And.intro b8 (And.intro hz7 (And.intro hC7 (And.intro st7 (And.intro hR hv7)))))
      clear b7 hz3 st6 hR hv6 b8 hz7 hC7 st7 s7 hv7
      go_wp2_with fail
      obtain⟨b8,hz7,hC7,st7,hR,hv7⟩:=HK.out
      rw[hR]
      exact ret_cell 4 38 (by rfl) (w.heap.size+1) 0 (by rfl) [.int .i64 0,.slice A3 32 z3] _ (tend b8 hz7 (by omega) hC7 st7 _ _).1.range Tryz.underlying38 rfl sz38 rfl (tyes b8 hz7 (by omega) hC7 st7 hv7)
     ·exact absurd e (by decide)
     ·exact absurd e (by decide)
    ·have t1:(le !=0)=true:=by simpa using hle0
     rw[if_neg hle0]at hly
     obtain⟨lk,ld,ll,⟨le0,ls0,lv0⟩,lta,ltb⟩:=lf
     unfold lfv lfc at hly
     simp only at hly
     have HL0:=Lib.hid hle0
     clear hle0
     go_wp2_with fail
     refine hly.mono ?_
     rintro e w5 ⟨rfl,ρ3,hC3,s3⟩
     clear hly d1 lb4
     obtain⟨b5,hz,st3,hR,hle,hlok,hCl,hsl,hv3⟩:=HQ.out
     have b6:=b5.ste s3 (by rw[hz];exact rtC24)
     have hz3:=(s3.old _ b5l).trans hz
     have st5:=st3.trans s3
     rw[if_pos HL0.out]at hR
     have c0:=b6.cell_ 0 rfl
     have c1:=b6.cell_ 1 rfl
     have f0:=b6.frozen 0
     have f1:=b6.frozen 1
     have lb:=b6.lt
     have HK:=Lib.hid (And.intro b6 (And.intro hz3 (And.intro hC3 (And.intro st5 hR))))
     clear b5 hz st3 hR hle hlok hCl hsl hv3 b6 hz3 st5 hC3 s3
     go_wp2_with fail
     obtain⟨b6,hz3,hC3,st5,hR⟩:=HK.out
     rw[hR]
     have he1:=tend b6 hz3 (by omega) hC3 st5 (.int .i64 le) (.slice none 0 0)
     have q5:=fun(W:World)=>(Below.refl W.heap.size W).alloc (Nat.le_refl _) (.cells #[.int .i64 lk,.bool ld,.int .i64 ll,.int .u32 le0,.int .u32 ls0,.int .u64 lv0,.int .u64 lta,.int .u64 ltb] 103)
     refine ret_cell 4 38 (by rfl) (w.heap.size+1) 0 (by rfl) [.int .i64 le,.slice none 0 0] _ (he1.1.alloc _).range Tryz.underlying38 rfl sz38 rfl ?_
     exact⟨_,rfl,ρ3,ag,.inl ⟨rfl,rfl⟩,he1.2.1.alloc _,he1.2.2.1.trans (Ste.of_below (q5 _) he1.2.2.1.fresh)⟩
theorem read_ok (HO:OpenOk) (HT:ShutOk) (ρ:Rl) (a:Ads) (cc m ag:Nat) (C:Cch) (k t:Nat) (kd:Int) (x:Nat) (Av:Option Addr) (n c:Nat) (w:World) (hf:Fresh ρ w) (h:CchR ρ w a cc m ag C) (hC:Cok C k t) (hk6:k<=300000) (ht:t<=900) (hx:x<32):
 Calls Tryz.prog 72 #[.pointer (some ⟨cc,0,none⟩),.agg #[.int .i64 kd,.int .i64 x,.slice Av n c]] w (TolP ρ a cc m (cread C x).1 (cread C x).2.1 (cread C x).2.2 w):=by
 rcases slotOf_bd C.now x with e|⟨s,e,hs,_⟩
 ·exact read_miss HT ρ a cc m ag C k t kd x Av n c w hf h hC hk6 ht hx e
 ·exact read_hit HO ρ a cc m ag C k t s kd x Av n c w hf h hC hk6 ht e hs
end Go.Proofs.YtggmdjdflaglpaaGreat
namespace Go.Proofs.YtggmdjdflaglpaaGreat
open Go.RowKit Go.Proofs.YtggmdjdflaglpaaGreat.geo
set_option linter.unusedVariables false
def ent (i:Nat):MapEntry:={key:=.int .i64 ((i:Int)+1),val:=.func (.func (72+i)) #[] #[],born:=i}
def ents (n:Nat):Array MapEntry:=((List.range n).map ent).toArray
theorem setHeap_new (w:World) (o o':Obj):({(w.alloc o)with heap:=(w.alloc o).heap.setIfInBounds w.heap.size o'}:World)=w.alloc o':=by
 have e:(w.alloc o).heap=w.heap.push o:=rfl
 have e2:(w.heap.push o).setIfInBounds w.heap.size o'=w.heap.push o':=by
  apply Array.ext
  ·simp
  ·intro i h1 h2
   have h3:i<(w.heap.push o).size:=by simpa using h1
   rw[Array.getElem_setIfInBounds h3,Array.getElem_push,Array.getElem_push]
   split
   ·subst_vars;simp
   ·split
    ·rfl
    ·simp at h1;omega
 rw[e,e2]
 rfl
theorem findNow_no (k:Int):∀(es:List MapEntry) (j:Nat),(∀e∈es,∃x:Int,e.key=.int .i64 x/\x≠k)->Instr.findNow (.int .i64) (.int .i64 k) es j=some none
 |[],j,_=>rfl
 |e::es,j,h=>by
  obtain⟨x,hx,hne⟩:=h e (by simp)
  have ih:=findNow_no k es (j+1) (fun e he=>h e (by simp[he]))
  have hb:(k == x)=false:=by simp;omega
  unfold Instr.findNow
  rw[hx]
  simp only[Instr.sameNow,if_true,hb,ih]
theorem ins_run (w:World) (n:Nat):(Instr.mapUpdate 155 (.map (some w.heap.size)) (.int .i64 ((n:Int)+1)) (.func (.func (72+n)) #[] #[])).run Tryz.prog (w.alloc (.map (ents n) n))=.ok () (w.alloc (.map (ents (n+1)) (n+1))):=by
 have hu:=Tryz.underlying155
 have hu3:=Tryz.underlying3
 have hf:Instr.findNow (.int .i64) (.int .i64 ((n:Int)+1)) (ents n).toList 0=some none:=findNow_no _ _ _ (fun e he=>by
  simp[ents,ent]at he
  obtain⟨i,hi,rfl⟩:=he
  exact⟨_,rfl,by omega⟩)
 have hb:(w.alloc (.map (ents n) n)).heap[w.heap.size]? =some (.map (ents n) n):=heap_alloc_new w _
 have hp:(ents n).push (ent n)=ents (n+1):=by
  unfold ents
  rw[List.range_succ,List.map_append]
  simp
 unfold Instr.mapUpdate
 simp only[Sem.run_bind,run_underlying hu,Result.andThen_ok,MapKept.run_getObj_map hb,MapKept.run_checkKey hu3 (show MapKept.IsKey (.int .i64) (.int .i64 ((n:Int)+1))from rfl),MapKept.run_findKey hu3 hf]
 rw[MapKept.run_setObj_map _ hb,setHeap_new]
 show Result.ok () (w.alloc (.map ((ents n).push (ent n)) (n+1)))=_
 rw[hp]
theorem findNow_yes (es:List MapEntry) (i:Nat) (hi:i<es.length) (h:∀(j:Nat) (e:MapEntry),es[j]? =some e->e.key=.int .i64 ((j:Int)+1)):Instr.findNow (.int .i64) (.int .i64 ((i:Int)+1)) es 0=some (some (i,es[i].val)):=by
 rcases MapKept.findNow_spec (d:=.int .i64) (k:=.int .i64 ((i:Int)+1)) rfl es 0 (fun x hx=>by
  obtain⟨j,hj⟩:=List.getElem?_of_mem hx
  rw[h j x hj];rfl)with⟨_,h2⟩|⟨j,e,h1,h2,h3⟩
 ·exact absurd (h i es[i] (List.getElem?_eq_getElem hi)) (h2 _ (List.getElem_mem hi))
 ·have h4:=h j e h2
  rw[h3]at h4
  injection h4 with _ h4
  have hji:j=i:=by omega
  subst hji
  rw[List.getElem?_eq_getElem hi]at h2
  injection h2 with h2
  rw[h1,h2,Nat.zero_add]
theorem look_run (w:World) (g i:Nat) (hb:w.heap[g]? =some (.map (ents 5) 5)) (hi:i<5):(Instr.lookup 155 (.map (some g)) (.int .i64 ((i:Int)+1)) false).run Tryz.prog w=.ok (.func (.func (72+i)) #[] #[]) w:=by
 have hu:=Tryz.underlying155
 have hu3:=Tryz.underlying3
 have hl:(ents 5).toList.length=5:=rfl
 have hf:=findNow_yes (ents 5).toList i (by rw[hl];exact hi) (fun j e he=>by
  have hj:=(List.getElem?_eq_some_iff.1 he).1
  rw[hl]at hj
  have he':((List.range 5).map ent)[j]? =some e:=he
  rw[List.getElem?_map,List.getElem?_range hj]at he'
  have he':some (ent j)=some e:=he'
  exact(congrArg MapEntry.key (Option.some.inj he')).symm)
 have hv:((ents 5).toList[i]'(by rw[hl];exact hi)).val=.func (.func (72+i)) #[] #[]:=by simp[ents,ent]
 rw[hv]at hf
 unfold Instr.lookup
 simp only[Sem.run_bind,run_underlying hu,Result.andThen_ok,MapKept.run_getObj_map hb,Sem.run_pure,MapKept.run_checkKey hu3 (show MapKept.IsKey (.int .i64) (.int .i64 ((i:Int)+1))from rfl),MapKept.run_findKey hu3 hf]
 simp
end Go.Proofs.YtggmdjdflaglpaaGreat
