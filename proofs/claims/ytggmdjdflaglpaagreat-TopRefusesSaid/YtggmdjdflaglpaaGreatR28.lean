/- The cache: value. The cache: spill. The cache: evict, room. The cache: empty. The cache: forget, flush, rotate. -/
import Derived.Test.YtggmdjdflaglpaaGreatR27
namespace Go.Proofs.YtggmdjdflaglpaaGreat
open Go.RowKit Go.Proofs.YtggmdjdflaglpaaGreat.geo
set_option linter.unusedVariables false
theorem s3v {w:World}{cc wl sa n m:Nat}{x1 x2 x3 x4 x5 y1 y3 y4 y5 y6:Value}(hn:n=m) (b:Blk w cc 107 #[.pointer (some ⟨wl,0,none⟩),x1,x2,x3,x4,x5]) (b2:Blk w wl 70 #[.int .i64 m,y1,.pointer (some ⟨sa,0,none⟩),y3,y4,y5,y6]):
 w.cell? ⟨cc,0,none⟩=some (.pointer (some ⟨wl,0,none⟩))/\w.cell? ⟨wl,2,none⟩=some (.pointer (some ⟨sa,0,none⟩))/\w.cell? ⟨wl,0,none⟩=some (.int .i64 n):=⟨b.cell_ 0 rfl,b2.cell_ 2 rfl,by rw[hn];exact b2.cell_ 0 rfl⟩
theorem s3k {w:World}{cc wl ka g:Nat}{x1 x2 x3 x4 x5 y0 y1 y2 y3 y4 y6 z0 z1 z2 z3 z4 z5 z6 z7:Value}(b:Blk w cc 107 #[.pointer (some ⟨wl,0,none⟩),x1,x2,x3,x4,x5]) (b2:Blk w wl 70 #[y0,y1,y2,y3,y4,.pointer (some ⟨ka,0,none⟩),y6]) (b3:Blk w g 103 #[z0,z1,z2,z3,z4,z5,z6,z7]):
 w.cell? ⟨cc,0,none⟩=some (.pointer (some ⟨wl,0,none⟩))/\w.cell? ⟨wl,5,none⟩=some (.pointer (some ⟨ka,0,none⟩))/\w.cell? ⟨g,3,none⟩=some z3:=⟨b.cell_ 0 rfl,b2.cell_ 5 rfl,b3.cell_ 3 rfl⟩
theorem s3o {w:World}{cc wl la g x:Nat}{x1 x2 x3 x4 x5 y0 y1 y2 y3 y4 y5 z0 z1 z2 z3 z4 z5 z6 z7 k0 k1:Value}(b:Blk w cc 107 #[.pointer (some ⟨wl,0,none⟩),x1,x2,x3,x4,x5]) (b2:Blk w wl 70 #[y0,y1,y2,y3,y4,y5,.pointer (some ⟨la,0,none⟩)]) (b3:Blk w g 103 #[z0,z1,z2,z3,z4,z5,z6,z7]) (b4:Blk w x 101 #[k0,k1]):
 w.cell? ⟨cc,0,none⟩=some (.pointer (some ⟨wl,0,none⟩))/\w.cell? ⟨wl,6,none⟩=some (.pointer (some ⟨la,0,none⟩))/\w.cell? ⟨x,0,none⟩=some k0/\w.cell? ⟨x,1,none⟩=some k1/\
  w.cell? ⟨g,2,none⟩=some z2/\w.cell? ⟨g,3,none⟩=some z3/\w.cell? ⟨g,4,none⟩=some z4/\w.cell? ⟨g,5,none⟩=some z5/\w.cell? ⟨g,6,none⟩=some z6/\w.cell? ⟨g,7,none⟩=some z7:=
 ⟨b.cell_ 0 rfl,b2.cell_ 6 rfl,b4.cell_ 0 rfl,b4.cell_ 1 rfl,b3.cell_ 2 rfl,b3.cell_ 3 rfl,b3.cell_ 4 rfl,b3.cell_ 5 rfl,b3.cell_ 6 rfl,b3.cell_ 7 rfl⟩
theorem nought_made (w:World):HasP (w.heap.size<=·) (w.alloc (.cells (bvals nought).toArray 5)) (.slice (some ⟨w.heap.size,0,none⟩) 32 32) nought:=HasP.made w nought (by simp[nought,maxLen])
theorem wsread_off32 (ρ:Rl) (a:Ads) (W:Wld) (w:World) (o:Nat) (off:Int) (ho:off=(o:Int)) (h:WldR ρ w a W) (hl:o+32<=W.ssd.lasts.length) (hg:W.pow.gone=true):
 Calls Tryz.prog 96 #[.pointer (some ⟨a.s,0,none⟩),.int .i64 off,.int .i64 32] w fun e w'=>e=.returned (.tuple #[.slice none 0 0,.bool false])/\w=w':=by
 subst ho
 exact wsread_off ρ a W w o 32 h hl hg
theorem wsread_on32 (ρ:Rl) (a:Ads) (W:Wld) (w:World) (o:Nat) (off:Int) (ho:off=(o:Int)) (h:WldR ρ w a W) (hl:o+32<=W.ssd.lasts.length) (hc:W.ssd.cnt<=1000000) (hg:W.pow.gone=false):
 Calls Tryz.prog 96 #[.pointer (some ⟨a.s,0,none⟩),.int .i64 off,.int .i64 32] w fun e w'=>∃v,e=.returned (.tuple #[v,.bool true])/\HasP (w.heap.size<=·) w' v (W.sbytes o 32)/\Below w.heap.size w w':=by
 subst ho
 exact wsread_on ρ a W w o 32 h (by omega) hl hc hg
def ValP (ρ:Rl) (a:Ads) (cc m ag:Nat) (R:Int×By×Cch) (w:World) (e:Ending) (w':World):Prop:=
 ∃v,e=.returned (.tuple #[v,.int .i64 R.1])/\HasP (ρ · =0) w' v R.2.1/\CchR ρ w' a cc m ag R.2.2/\Ste rtC ρ w ρ w'/\(R.1=0->Below w.heap.size w w')
set_option maxHeartbeats 4000000 in
set_option maxRecDepth 100000 in
theorem value_zero (ρ:Rl) (a:Ads) (cc m ag:Nat) (C:Cch) (i:Nat) (w:World) (hf:Fresh ρ w) (h:CchR ρ w a cc m ag C) (hi:i<C.now.length) (hn:C.now.length<=16) (hk:(C.lf i).kind=2):
 Calls Tryz.prog 114 #[.pointer (some ⟨cc,0,none⟩),.int .i64 i] w (ValP ρ a cc m ag (cval C i) w):=by
 have hR:cval C i=(0,nought,C):=by unfold cval;rw[if_pos hk]
 rw[hR]
 have hl:=lf_at C hi
 have h':=h
 obtain⟨vn,vw,hb,_,_,_,⟨g,cap,rr,rfl,_,hg⟩,_⟩:=h'
 have hgr:=hg.leaf hl
 obtain⟨l,hle⟩:∃l,l=C.lf i:=⟨_,rfl⟩
 rw[<-hle]at hgr hk
 obtain⟨kind,dirty,lba,⟨ep,sl,ver⟩,ta,tb⟩:=l
 unfold lfc at hgr
 simp only at hgr hk
 subst hk
 have c2:=hb.cell_ 2 rfl
 have lc:=hb.lt
 have lg:=hg.lt
 obtain⟨n,hn'⟩:∃n,n=C.now.length:=⟨_,rfl⟩
 rw[<-hn']at hi hn c2
 have m0:(0:Int)<=(i:Int):=by omega
 have m1:(i:Int)<(n:Int):=by omega
 have sz8:(Tryz.prog.info? 103).map (·.size)=some ([.int .i64 ((2:Nat):Int),.bool dirty,.int .i64 lba,.int .u32 ep,.int .u32 sl,.int .u64 ver,.int .u64 ta,.int .u64 tb]:List Value).length:=sz103
 have hmk:=fun W=>r27.make32 W
 have H:=Lib.hid h
 have hfr:∀b,w.heap.size<=b->ρ b=0:=hf
 clear h hb hg hl hle hR hn'
 go_enter Tryz.func114,Tryz.ntmps114
 go_wp2_with (with_reducible refine wpList_load_mid rfl 103 _ rfl g (i*8) rfl _ _ hgr Tryz.underlying103 rfl sz8 ?_)
 go_ret2
 have hq:Below w.heap.size w ((w.alloc (.cells #[.int .i64 ((2:Nat):Int),.bool dirty,.int .i64 lba,.int .u32 ep,.int .u32 sl,.int .u64 ver,.int .u64 ta,.int .u64 tb] 103)).alloc (.cells (r27.bcells r27.zeros) 5)):=((Below.refl _ _).alloc (Nat.le_refl _) _).alloc (by simp) _
 have hv:=(nought_made (w.alloc (.cells #[.int .i64 ((2:Nat):Int),.bool dirty,.int .i64 lba,.int .u32 ep,.int .u32 sl,.int .u64 ver,.int .u64 ta,.int .u64 tb] 103))).weak (q:=(ρ · =0)) (fun b e=>hfr b (by rw[World.size_alloc]at e;omega))
 rw[World.size_alloc]at hv
 exact⟨_,rfl,hv,H.out.below_ hq,Ste.of_below hq hf,fun _=>hq⟩
def Vq (w3:World) (x:Nat) (ka kb:Int) (W4:World):Prop:=Below w3.heap.size w3 W4/\Blk W4 x 101 #[.int .u64 ka,.int .u64 kb]
set_option maxHeartbeats 16000000 in
set_option maxRecDepth 100000 in
theorem value_full (HO:OpenOk) (ρ:Rl) (a:Ads) (cc m ag:Nat) (C:Cch) (k t i:Nat) (w:World) (hf:Fresh ρ w) (h:CchR ρ w a cc m ag C) (hC:Cok C k t) (hk6:k<=600000) (hi:i<C.now.length) (hk:(C.lf i).kind≠2):
 Calls Tryz.prog 114 #[.pointer (some ⟨cc,0,none⟩),.int .i64 i] w (ValP ρ a cc m ag (cval C i) w):=by
 have hn16:=hC.n16
 have hV:=hC.fit.geo
 have hok:=hC.ok i
 have hbd:=hok.bd
 have hsz:=hC.fit.size
 have hnl:=hC.nl
 have hbl:=sbytes_len C.W hC.fit (o:=i*32) (n:=32) (by omega)
 have hl:=lf_at C hi
 have h':=h
 obtain⟨vn,vw,hb,_,hw,_,⟨g,cap,rr,rfl,_,hg⟩,_⟩:=h'
 have hgr:=hg.leaf hl
 obtain⟨l,hle⟩:∃l,l=C.lf i:=⟨_,rfl⟩
 rw[<-hle]at hgr hk hok hbd
 have hR:∀R:Int×By×Cch,R=cval C i->R=if C.W.pow.gone then((7:Int),[],C)else match C.W.vopen l i with|some b=>((0:Int),b,C)|none=>((3:Int),[],C.bad):=by
  intro R e
  rw[e,hle]
  unfold cval Cch.vopen
  rw[if_neg (by rw[<-hle];exact hk)]
  rfl
 obtain⟨R,hRR⟩:∃R,R=cval C i:=⟨_,rfl⟩
 have hR:=hR R hRR
 rw[<-hRR]
 clear hRR
 unfold Wld.vopen at hR
 obtain⟨kind,dirty,lba,⟨ep,sl,ver⟩,ta,tb⟩:=l
 simp only at hgr hk hbd hR
 obtain⟨hkd,hlba,hno,htg⟩:=hbd
 obtain⟨ep,rfl⟩:∃e:Nat,ep=(e:Int):=⟨ep.toNat,by have:=hno.1.1;simp at this;omega⟩
 have hep:ep<4294967296:=by have:=hno.1.2;simp at this;omega
 rw[Int.toNat_natCast]at hR
 have hkey:=fun W' hh=>key_ok ρ a.p a.k C.W.kys ep W' hh hep
 have hkk:ep∈C.W.kys.es->C.W.kys.key ep=keyOf C.W.kys.seed ep:=fun e=>by unfold Kys.key;rw[if_pos e]
 have hku:U2 (C.W.kys.key ep):=by
  unfold Kys.key
  split
  ·exact keyOf_u _ _ ⟨by omega,by omega⟩
  ·unfold U2 U64;decide
 obtain⟨K,hK⟩:∃K,K=C.W.kys.key ep:=⟨_,rfl⟩
 rw[<-hK]at hkey hkk hku
 obtain⟨ka,kb⟩:=K
 obtain⟨D,hD⟩:∃D,D=decide (ep∈C.W.kys.es):=⟨_,rfl⟩
 rw[<-hD]at hkey
 obtain⟨x,hx⟩:∃x:Int,x=(kind:Int):=⟨_,rfl⟩
 unfold lfc at hgr
 simp only at hgr
 rw[<-hx]at hgr
 have hx2:(x == 2)=false:=by rw[hx];simp;omega
 have c2:=hb.cell_ 2 rfl
 have lc:=hb.lt
 have lg:=hg.lt
 obtain⟨n,hn'⟩:∃n,n=C.now.length:=⟨_,rfl⟩
 rw[<-hn']at hi c2 hn16
 have hns:n=C.W.slots:=hn'.trans hnl
 rw[<-hns]at hV
 have m0:(0:Int)<=(i:Int):=by omega
 have m1:(i:Int)<(n:Int):=by omega
 have sz8:(Tryz.prog.info? 103).map (·.size)=some ([.int .i64 x,.bool dirty,.int .i64 lba,.int .u32 ep,.int .u32 sl,.int .u64 ver,.int .u64 ta,.int .u64 tb]:List Value).length:=sz103
 have hdt:=fun W'=>data_ok (n:Int) (i:Int) W' hV m0 m1
 have H:=Lib.hid h
 have HN:=Lib.hid (And.intro hns (And.intro hn' (And.intro hnl (And.intro hsz (And.intro hkk (And.intro hku (And.intro hno (And.intro htg (And.intro hD (And.intro hR (And.intro hbl (And.intro hC hlba))))))))))))
 have hfr:∀b,w.heap.size<=b->ρ b=0:=hf
 have hnn:=Lib.hid hns
 have hofs:i*32+32<=C.W.ssd.lasts.length:=by rw[hsz];omega
 have hcn:C.W.ssd.cnt<=1000000:=Nat.le_trans hC.fit.ssd (by omega)
 have hbw:Below w.heap.size w (w.alloc (.cells #[.int .i64 x,.bool dirty,.int .i64 lba,.int .u32 ep,.int .u32 sl,.int .u64 ver,.int .u64 ta,.int .u64 tb] 103)):=(Below.refl _ _).alloc (Nat.le_refl _) _
 have hLb:Blk (w.alloc (.cells #[.int .i64 x,.bool dirty,.int .i64 lba,.int .u32 ep,.int .u32 sl,.int .u64 ver,.int .u64 ta,.int .u64 tb] 103)) w.heap.size 103 #[.int .i64 x,.bool dirty,.int .i64 lba,.int .u32 ep,.int .u32 sl,.int .u64 ver,.int .u64 ta,.int .u64 tb]:=Blk.new w 103 _
 obtain⟨W1,hW1⟩:∃W1,W1=w.alloc (.cells #[.int .i64 x,.bool dirty,.int .i64 lba,.int .u32 ep,.int .u32 sl,.int .u64 ver,.int .u64 ta,.int .u64 tb] 103):=⟨_,rfl⟩
 rw[<-hW1]at hbw hLb
 have HW:=Lib.hid hW1
 clear h hb hw hg hl hle hR hn' hV hok hkd hno htg hkk hku hD hx hns hnl hsz hbl hC hW1 hlba
 have h1:=H.out.below_ hbw
 obtain⟨vn1,vw1,hb1,_,hw1,_⟩:=h1
 have hww:=hw1.1
 go_enter Tryz.func114,Tryz.ntmps114
 go_wp2_with (with_reducible refine wpList_load_mid rfl 103 _ rfl g (i*8) rfl _ _ hgr Tryz.underlying103 rfl sz8 ?_)
 rw[<-HW.out]
 have e32:(i:Int)*32=((i*32:Nat):Int):=by omega
 obtain⟨off,hoff⟩:∃off:Int,off=(i:Int)*32:=⟨_,rfl⟩
 rw[<-hoff]at hdt
 have HOF:=Lib.hid (hoff.trans e32)
 clear e32 hoff
 cases hgn:C.W.pow.gone with
 |true=>
  have hrd:=fun W' hh=>wsread_off32 ρ a C.W W' (i*32) off HOF.out hh hofs hgn
  have HG:=Lib.hid hgn
  clear hgn
  go_region_held3 (fun w'=>w'.cell? ⟨cc,0,none⟩=some (.pointer (some ⟨a.wl,0,none⟩))/\w'.cell? ⟨a.wl,2,none⟩=some (.pointer (some ⟨a.s,0,none⟩))/\w'.cell? ⟨a.wl,0,none⟩=some (.int .i64 n))
   (first|(with_reducible exact s3v hnn.out hb1 hww)|(with_reducible exact s3v hnn.out hb1.drew hww.drew))
   (first
    |(go_at_call 150;(with_reducible refine(hdt _).mono ?_);rintro e w2 ⟨rfl,q2⟩;replace hb1:=hb1.drew.below_ q2;replace hww:=hww.drew.below_ q2;replace hw1:=hw1.drew.below_ q2;replace hbw:=hbw.drew.trans (q2.mono (hbw.drew).size))
    |(go_at_call 96;(with_reducible refine(hrd _ hw1).mono ?_);rintro e w3 ⟨rfl,rfl⟩))
  clear hdt hrd hb1 hww hw1
  go_wp2_with fail
  go_ret2
  obtain⟨_,_,_,_,_,_,_,_,_,hR,_⟩:=HN.out
  rw[if_pos HG.out]at hR
  rw[hR]
  exact⟨_,rfl,.inl ⟨rfl,rfl⟩,H.out.below_ hbw,Ste.of_below hbw hf,fun _=>hbw⟩
 |false=>
  have hrd:=fun W' hh=>wsread_on32 ρ a C.W W' (i*32) off HOF.out hh hofs hcn hgn
  have HG:=Lib.hid hgn
  obtain⟨sb,hsb⟩:∃sb,sb=C.W.sbytes (i*32) 32:=⟨_,rfl⟩
  rw[<-hsb]at hrd
  have HSB:=Lib.hid hsb
  clear hgn hsb
  go_region_held3 (fun w'=>w'.cell? ⟨cc,0,none⟩=some (.pointer (some ⟨a.wl,0,none⟩))/\w'.cell? ⟨a.wl,2,none⟩=some (.pointer (some ⟨a.s,0,none⟩))/\w'.cell? ⟨a.wl,0,none⟩=some (.int .i64 n))
   (first|(with_reducible exact s3v hnn.out hb1 hww)|(with_reducible exact s3v hnn.out hb1.drew hww.drew))
   (first
    |(go_at_call 150;(with_reducible refine(hdt _).mono ?_);rintro e w2 ⟨rfl,q2⟩;replace hb1:=hb1.drew.below_ q2;replace hww:=hww.drew.below_ q2;replace hw1:=hw1.drew.below_ q2;replace hLb:=hLb.drew.below_ q2;replace hbw:=hbw.drew.trans (q2.mono (hbw.drew).size))
    |(go_at_call 96;(with_reducible refine(hrd _ hw1).mono ?_);rintro e w3 ⟨v3,rfl,o3,q3⟩;obtain⟨A3,z3,rfl⟩:=o3.slice;have hz2:=hbw.size;replace hb1:=hb1.below_ q3;replace hww:=hww.below_ q3;replace hw1:=hw1.below_ q3;replace hLb:=hLb.below_ q3;replace hbw:=hbw.trans (q3.mono hbw.size)))
  clear hdt hrd
  have hv3:HasP (w.heap.size<=·) w3 (.slice A3 sb.length z3) sb:=o3.weak (fun b e=>Nat.le_trans hz2 e)
  clear o3 q3
  go_wp2_with fail
  have hk3d:=hw1.drew.2.2.2.2.2.2.2.2.1
  have hk3a:=(hw1.alloc (.cells #[.int .u64 0,.int .u64 0] 101)).drew.2.2.2.2.2.2.2.2.1
  have H3:=Lib.hid (And.intro hw1 (And.intro hLb (And.intro hbw (And.intro hv3 (And.intro hb1 hww)))))
  clear hw1 hbw hv3
  go_region_held3 (fun w'=>w'.cell? ⟨cc,0,none⟩=some (.pointer (some ⟨a.wl,0,none⟩))/\w'.cell? ⟨a.wl,5,none⟩=some (.pointer (some ⟨a.k,0,none⟩))/\w'.cell? ⟨w.heap.size,3,none⟩=some (.int .u32 ep))
   (first|(with_reducible exact s3k hb1 hww hLb)|(with_reducible exact s3k hb1.drew hww.drew hLb.drew)|(with_reducible exact s3k (hb1.alloc _) (hww.alloc _) (hLb.alloc _))|(with_reducible exact s3k (hb1.alloc _).drew (hww.alloc _).drew (hLb.alloc _).drew)|(with_reducible exact s3k ((hb1.far (p:=⟨w3.heap.size,0,none⟩) hx0 _).far (p:=⟨w3.heap.size,1,none⟩) hx0 _) ((hww.far (p:=⟨w3.heap.size,0,none⟩) hx1 _).far (p:=⟨w3.heap.size,1,none⟩) hx1 _) ((hLb.far (p:=⟨w3.heap.size,0,none⟩) hx2 _).far (p:=⟨w3.heap.size,1,none⟩) hx2 _)))
   (first
    |(go_at_call 134;(with_reducible refine(hkey w3.drew hk3d).mono ?_);rintro e w4 ⟨rfl,q4⟩;replace hb1:=hb1.drew.below_ q4;replace hww:=hww.drew.below_ q4;replace hLb:=hLb.drew.below_ q4;have r4:Below w3.heap.size w3 w4:=(Below.refl _ _).drew.trans q4)
    |(go_at_call 134;(with_reducible refine(hkey (w3.alloc (.cells #[.int .u64 0,.int .u64 0] 101)).drew hk3a).mono ?_);rintro e w4 ⟨rfl,q4⟩;have hx0:cc≠w3.heap.size:=Nat.ne_of_lt hb1.lt;have hx1:a.wl≠w3.heap.size:=Nat.ne_of_lt hww.lt;have hx2:w.heap.size≠w3.heap.size:=Nat.ne_of_lt hLb.lt;replace hb1:=(hb1.alloc _).drew.below_ q4;replace hww:=(hww.alloc _).drew.below_ q4;replace hLb:=(hLb.alloc _).drew.below_ q4;have r4:Below w3.heap.size w3 w4:=((Below.refl _ _).alloc (Nat.le_refl _) (.cells #[.int .u64 0,.int .u64 0] 101)).drew.trans (q4.mono (by simp));have bX:=(Blk.new w3 101 #[.int .u64 0,.int .u64 0]).drew.below_ q4;have x0:=bX.cell_ 0 rfl;have x1:=bX.cell_ 1 rfl;have y0:=bX.frozen 0;have y1:=bX.frozen 1;have yl:=bX.lt))
  refine gen_world (F:=Vq w3 w4.heap.size ka kb) (by exact⟨r4.alloc r4.size _,Blk.new w4 101 _⟩) ?_
  obtain⟨bx,hbx⟩:∃bx,bx=w4.heap.size:=⟨_,rfl⟩
  rw[<-hbx]
  clear hbx
  rotate_left 1
  refine gen_world (F:=Vq w3 w3.heap.size ka kb) (by exact⟨below_only r4 (only_set2 w4 w3.heap.size 0 1 _ _) r4.size (Nat.le_refl _),(bX.set_to 0 (.int .u64 ka) (cs':=#[.int .u64 ka,.int .u64 0]) rfl).set_to 1 (.int .u64 kb) rfl⟩) ?_
  obtain⟨bx,hbx⟩:∃bx,bx=w3.heap.size:=⟨_,rfl⟩
  rw[<-hbx]
  clear hbx
  rotate_left 1
  all_goals
   clear hb1 hww hLb hkey r4 hk3d hk3a
   intro W4 hP
   obtain⟨q5,bX5⟩:=hP
   have hbw5:Below w.heap.size w W4:=H3.out.2.2.1.trans (q5.mono H3.out.2.2.1.size)
   have hch:=H.out.below_ hbw5
   have hlb5:=H3.out.2.1.below_ q5
   have hv5:=H3.out.2.2.2.1.below_ q5
   obtain⟨_,_,_,_,hkk,hku,hno,htg,hD,hR,hbl,hC,hlba⟩:=HN.out
   rw[HG.out,if_neg (by simp)]at hR
   cases D with
   |false=>
    rw[if_neg (of_decide_eq_false hD.symm)]at hR
    have hch':=hch
    obtain⟨vn5,vw5,hb5,_⟩:=hch'
    have c5:=hb5.cell_ 5 rfl
    have f5:=hb5.frozen 5
    have l5:=hb5.lt
    have hfin:=below_only hbw5 (only_setCell (g:=cc) (only_refl W4 _) (p:=⟨cc,5,none⟩) (.inl rfl) (.bool true)) hbw5.size
    have HF:=Lib.hid (And.intro hR (And.intro hch hbw5))
    clear hR hch hb5 hbw5 hlb5 hv5 hkk hku hno htg hD hbl hC hlba bX5 q5 hfin
    go_wp2_with fail
    go_ret2
    obtain⟨hR,hch,hbw5⟩:=HF.out
    rw[hR]
    refine⟨_,rfl,.inl ⟨rfl,rfl⟩,hch.poison,(Ste.of_below hbw5 hf).trans (hch.ste_head (fun i hi=>hf i (Nat.le_trans hbw5.size hi)) (only_setCell (only_refl _ _) (.inl rfl) _)),fun e=>absurd e (by simp)⟩
   |true=>
    rw[if_pos (of_decide_eq_true hD.symm),<-hkk (of_decide_eq_true hD.symm),<-HSB.out]at hR
    have hch':=hch
    obtain⟨vn5,vw5,hb5,_,hw5,_⟩:=hch'
    have hww5:=hw5.1
    have hhd:=fun W'=>head_ok lba W' hlba
    have hop:=fun W' vh h1 h2 h3=>wopen_ok ρ a C.W W' HO (fun _=>True) (w.heap.size<=·) (ka,kb) ⟨ep,sl,ver⟩ vh (headB lba) (.slice A3 sb.length z3) sb (ta,tb) h1 hku hno htg h2 h3 (by simp[headB,putB_len]) (by rw[HSB.out,hbl];omega)
    obtain⟨ans,hans⟩:∃ans,ans=C.W.lk.opens (ka,kb) ⟨ep,sl,ver⟩ (headB lba) sb (ta,tb):=⟨_,rfl⟩
    rw[<-hans]at hop hR
    unfold pv nv at hop
    simp only at hop
    obtain⟨hd,hhd'⟩:∃hd,hd=headB lba:=⟨_,rfl⟩
    rw[<-hhd']at hop hhd
    have HF:=Lib.hid (And.intro hR (And.intro hch (And.intro hbw5 (And.intro hans hhd'))))
    have hw5':=hw5
    clear hR hch hbw5 hkk hku hno htg hD hbl hC hlba q5 hans hhd'
    go_wp2_with fail
    go_region_held3 (fun w'=>w'.cell? ⟨cc,0,none⟩=some (.pointer (some ⟨a.wl,0,none⟩))/\w'.cell? ⟨a.wl,6,none⟩=some (.pointer (some ⟨a.l,0,none⟩))/\w'.cell? ⟨bx,0,none⟩=some (.int .u64 ka)/\w'.cell? ⟨bx,1,none⟩=some (.int .u64 kb)/\
     w'.cell? ⟨w.heap.size,2,none⟩=some (.int .i64 lba)/\w'.cell? ⟨w.heap.size,3,none⟩=some (.int .u32 ep)/\w'.cell? ⟨w.heap.size,4,none⟩=some (.int .u32 sl)/\w'.cell? ⟨w.heap.size,5,none⟩=some (.int .u64 ver)/\w'.cell? ⟨w.heap.size,6,none⟩=some (.int .u64 ta)/\w'.cell? ⟨w.heap.size,7,none⟩=some (.int .u64 tb))
     (first|(with_reducible exact s3o hb5 hww5 hlb5 bX5)|(with_reducible exact s3o hb5.drew hww5.drew hlb5.drew bX5.drew))
     (first
      |(go_at_call 151;(with_reducible refine(hhd _).mono ?_);rintro e w6 ⟨v6,rfl,o6,q6⟩;replace hb5:=hb5.drew.below_ q6;replace hww5:=hww5.drew.below_ q6;replace hlb5:=hlb5.drew.below_ q6;replace bX5:=bX5.drew.below_ q6;replace hw5':=hw5'.drew.below_ q6;replace hv5:=hv5.drew.below_ q6)
      |(go_at_call 137;(with_reducible refine(hop _ _ hw5' o6.has.any hv5).mono ?_);rintro e w7 ⟨v7,rfl,o7,q7⟩;replace hb5:=hb5.below_ q7;replace hww5:=hww5.below_ q7;replace hlb5:=hlb5.below_ q7;replace bX5:=bX5.below_ q7))
    clear hb5 hww5 hlb5 bX5 hhd hop hw5'
    have hv7:HasP (ρ · =0) w7 v7 (ans.getD []):=o7.has.weak (fun b e=>hfr b (by have:=q6.size;have:=HF.out.2.2.1.size;simp at *;omega))
    have hbw7:Below w.heap.size w w7:=((HF.out.2.2.1.drew.trans (q6.mono HF.out.2.2.1.drew.size)).trans (q7.mono (by have:=q6.size;have:=HF.out.2.2.1.size;simp at *;omega)))
    have hch7:=H.out.below_ hbw7
    have hch':=hch7
    obtain⟨vn7,vw7,hb7,_⟩:=hch'
    have c5:=hb7.cell_ 5 rfl
    have f5:=hb7.frozen 5
    have l5:=hb7.lt
    obtain⟨hR,hch,hbw5,hans,hhd'⟩:=HF.out
    cases ans with
    |some b=>
     have hR':R=(0,b,C):=hR
     have HH:=Lib.hid (And.intro hR' (And.intro hv7 (And.intro hbw7 hch7)))
     clear hR hR' hv7 hbw7 hch7 hans hhd' hch hbw5 o6 o7 q6 q7 hb7
     go_wp2_with fail
     go_ret2
     obtain⟨hR,hv7,hbw7,hch7⟩:=HH.out
     rw[hR]
     exact⟨_,rfl,hv7,hch7,Ste.of_below hbw7 hf,fun _=>hbw7⟩
    |none=>
     have hR':R=(3,[],C.bad):=hR
     have HH:=Lib.hid (And.intro hR' (And.intro hv7 (And.intro hbw7 hch7)))
     clear hR hR' hv7 hbw7 hch7 hans hhd' hch hbw5 o6 o7 q6 q7 hb7
     go_wp2_with fail
     go_ret2
     obtain⟨hR,hv7,hbw7,hch7⟩:=HH.out
     rw[hR]
     exact⟨_,rfl,.inl ⟨rfl,rfl⟩,hch7.poison,(Ste.of_below hbw7 hf).trans (hch7.ste_head (fun i hi=>hf i (Nat.le_trans hbw7.size hi)) (only_setCell (only_refl _ _) (.inl rfl) _)),fun e=>absurd e (by simp)⟩
theorem cvalue_ok (HO:OpenOk) (ρ:Rl) (a:Ads) (cc m ag:Nat) (C:Cch) (k t i:Nat) (w:World) (hf:Fresh ρ w) (h:CchR ρ w a cc m ag C) (hC:Cok C k t) (hk6:k<=600000) (hi:i<C.now.length):
 Calls Tryz.prog 114 #[.pointer (some ⟨cc,0,none⟩),.int .i64 i] w (ValP ρ a cc m ag (cval C i) w):=by
 by_cases e:(C.lf i).kind=2
 ·exact value_zero ρ a cc m ag C i w hf h hi hC.n16.2 e
 ·exact value_full HO ρ a cc m ag C k t i w hf h hC hk6 hi e
end Go.Proofs.YtggmdjdflaglpaaGreat
namespace Go.Proofs.YtggmdjdflaglpaaGreat
open Go.RowKit Go.Proofs.YtggmdjdflaglpaaGreat.geo
set_option linter.unusedVariables false
theorem s4s {w:World}{cc wl da n c g o:Nat}{lba:Int}{x1 x3 x4 x5 y0 y1 y2 y4 y5 y6:Value}(b:Blk w cc 107 #[.pointer (some ⟨wl,0,none⟩),x1,.slice (some ⟨g,0,none⟩) n c,x3,x4,x5]) (b2:Blk w wl 70 #[y0,y1,y2,.pointer (some ⟨da,0,none⟩),y4,y5,y6]) (hl:w.cell? ⟨g,o,none⟩=some (.int .i64 lba)):
 w.cell? ⟨cc,0,none⟩=some (.pointer (some ⟨wl,0,none⟩))/\w.cell? ⟨wl,3,none⟩=some (.pointer (some ⟨da,0,none⟩))/\w.cell? ⟨cc,2,none⟩=some (.slice (some ⟨g,0,none⟩) n c)/\w.cell? ⟨g,o,none⟩=some (.int .i64 lba):=⟨b.cell_ 0 rfl,b2.cell_ 3 rfl,b.cell_ 2 rfl,hl⟩
set_option maxHeartbeats 4000000 in
set_option maxRecDepth 100000 in
theorem spill_ok (HO:OpenOk) (ρ:Rl) (a:Ads) (cc m ag:Nat) (C:Cch) (k t i:Nat) (w:World) (hf:Fresh ρ w) (h:CchR ρ w a cc m ag C) (hC:Cok C k t) (hk6:k<=600000) (hi:i<C.now.length):
 Calls Tryz.prog 107 #[.pointer (some ⟨cc,0,none⟩),.int .i64 i] w fun e w'=>e=.returned (.int .i64 (cspill C i).1)/\∃ρ',CchR ρ' w' a cc m ag (cspill C i).2/\Ste rtC ρ w ρ' w'/\((cspill C i).1=0->Ste rtW ρ w ρ' w'):=by
 have hva:=cvalue_ok HO ρ a cc m ag C k t i w hf h hC hk6 hi
 have hlen:=hC.vlen hi
 have herr:=cval_err C i
 have hl16:=hC.n16
 have hlba:=(hC.ok i).bd.2.1
 have hcn:C.W.dsk.cnt<=1000000:=Nat.le_trans hC.fit.dsk (by omega)
 have hS:cspill C i=if(cval C i).1≠0 then((cval C i).1,(cval C i).2.2)
  else(if dwok C.W.pow C.W.dsk then 0 else if(C.W.dwr (C.lf i).lba (cval C i).2.1).pow.gone then 7 else 5,C.wld (C.W.dwr (C.lf i).lba (cval C i).2.1)):=rfl
 unfold ValP at hva
 obtain⟨V,hV⟩:∃V,V=cval C i:=⟨_,rfl⟩
 rw[<-hV]at hva hlen herr hS
 obtain⟨S,hSS⟩:∃S,S=cspill C i:=⟨_,rfl⟩
 rw[<-hSS]at hS
 rw[<-hSS]
 obtain⟨ve,vb,vC⟩:=V
 simp only at hva hlen herr hS
 have hdw:=fun W' v h1 h2 h3 hb=>wdwr_ok ρ a C.W W' ((C.lf i).lba:Int) v vb h1 h2 h3 (by omega) (by omega) hb hcn
 obtain⟨n,hn⟩:∃n,n=C.now.length:=⟨_,rfl⟩
 have hlf:=lf_at C hi
 rw[<-hn]at hi hl16
 have m0:(0:Int)<=(i:Int):=by omega
 have m1:(i:Int)<(n:Int):=by omega
 have H:=Lib.hid (And.intro hlen (And.intro herr (And.intro hn (And.intro hlf (And.intro hS hl16)))))
 clear h hlen herr hn hV hSS hlf hS hlba hl16
 go_enter Tryz.func107,Tryz.ntmps107
 go_wp2_with fail
 refine hva.mono ?_
 rintro e w2 ⟨v,rfl,hv,hC2,t2,q2⟩
 clear hva
 by_cases he:ve=0
 ·subst he
  obtain⟨hlen,herr,hn,hlf,hS,hl16⟩:=H.out
  obtain⟨A2,z2,rfl⟩:=hv.slice
  have hvC:vC=C:=by
   rcases herr with e|e|e
   ·exact e.2
   ·simp at e
   ·simp at e
  subst hvC
  have hl32:=hlen rfl
  rw[if_neg (by simp)]at hS
  rw[hl32]at hv ⊢
  have hC2':=hC2
  obtain⟨vn2,vw2,hb2,hcc2,hw2,_,⟨g,cap,rr,rfl,hg1,hg2⟩,_⟩:=hC2'
  rw[<-hn]at hb2
  have hcl:w2.cell? ⟨g,i*8+2,none⟩=some (.int .i64 ((vC.lf i).lba:Int)):=hg2.leaf hlf 2 _ rfl
  have hcd:w2.drew.cell? ⟨g,i*8+2,none⟩=some (.int .i64 ((vC.lf i).lba:Int)):=hcl
  have lg:=hg2.lt
  have lc:=hb2.lt
  have hww:=hw2.1
  have hd:=hdw w2.drew (.slice A2 32 z2) t2.fresh hw2.drew (hv.drew.weak (fun b e=>by rw[e];exact rtW0)) hl32
  obtain⟨lba,hlba⟩:∃lba:Int,lba=((vC.lf i).lba:Int):=⟨_,rfl⟩
  have hcl3:∀(ρ3:Rl) (w3:World),Ste rtW ρ w2 ρ3 w3->w3.cell? ⟨g,i*8+2,none⟩=some (.int .i64 lba):=fun ρ3 w3 s=>by
   rw[hlba]
   exact(hg2.ste s (by rw[hg1];unfold rtW;decide)).leaf hlf 2 _ rfl
  rw[<-hlba]at hcl hcd hd hS
  obtain⟨W3,hW3⟩:∃W3,W3=vC.W.dwr lba vb:=⟨_,rfl⟩
  rw[<-hW3]at hd hS
  obtain⟨D,hD⟩:∃D,D=dwok vC.W.pow vC.W.dsk:=⟨_,rfl⟩
  rw[<-hD]at hd hS
  have u2:Ste rtW ρ w ρ w2:=Ste.of_below (q2 rfl) hf
  have HX:=Lib.hid (And.intro hC2 (And.intro t2 (And.intro hS u2)))
  clear q2 u2 hC2 t2 hw2 hg2 hg1 hlen herr hn hlf hS hl16 hdw hlba hW3 hD hv hl32
  have HC3:=Lib.hid hcl3
  clear hcl3
  go_wp2_with fail
  go_region_held3 (fun w'=>w'.cell? ⟨cc,0,none⟩=some (.pointer (some ⟨a.wl,0,none⟩))/\w'.cell? ⟨a.wl,3,none⟩=some (.pointer (some ⟨a.d,0,none⟩))/\w'.cell? ⟨cc,2,none⟩=some (.slice (some ⟨g,0,none⟩) n cap)/\w'.cell? ⟨g,i*8+2,none⟩=some (.int .i64 lba))
   (first|(with_reducible exact s4s hb2 hww hcl)|(with_reducible exact s4s hb2.drew hww.drew hcd))
   (first
    |(go_at_call 144;(with_reducible refine hd.mono ?_);rintro e w3 ⟨rfl,ρ3,hw3,s3⟩;have t3:Ste rtW ρ w2 ρ3 w3:=(Ste.of_below (Below.refl _ _).drew HX.out.2.1.fresh).trans s3;have hC3:=HX.out.1.put_wld hw3 t3;replace hww:=hw3.1;replace hb2:=hb2.ste t3 (by rw[hcc2];unfold rtW;decide);replace hcl:=HC3.out ρ3 w3 t3))
  obtain⟨_,t2,hS,u2⟩:=HX.out
  have u3:=u2.trans t3
  cases D with
  |true=>
   rw[if_pos rfl]at hS
   have HF:=Lib.hid (And.intro hC3 (And.intro (t2.trans (t3.mono (fun r e=>e.c))) (And.intro hS u3)))
   clear u2 u3 hC3 t3 t2 hw3 s3 hS hb2 hww hcl hcd hd
   go_wp2_with fail
   go_ret
   obtain⟨hC3,t3,hS,u3⟩:=HF.out
   rw[hS]
   exact⟨rfl,ρ3,hC3,t3,fun _=>u3⟩
  |false=>
   have hon:=won_ok ρ3 a W3 w3 hw3
   have c0:=hb2.cell_ 0 rfl
   have c1:=hww.cell_ 1 rfl
   have lc:=hb2.lt
   have lw:=hww.lt
   rw[if_neg (by simp)]at hS
   obtain⟨G,hG⟩:∃G,G=W3.pow.gone:=⟨_,rfl⟩
   rw[<-hG]at hon hS
   have HF:=Lib.hid (And.intro hC3 (And.intro (t2.trans (t3.mono (fun r e=>e.c))) (And.intro hS u3)))
   clear u2 u3 hC3 t3 t2 hw3 s3 hS hb2 hww hcl hcd hd hG
   cases G with
   |true=>
    go_wp2_with fail
    refine hon.mono ?_
    rintro e w4 ⟨rfl,rfl⟩
    clear hon
    go_wp2_with fail
    go_ret
    obtain⟨hC3,t3,hS,u3⟩:=HF.out
    rw[hS]
    exact⟨rfl,ρ3,hC3,t3,fun _=>u3⟩
   |false=>
    go_wp2_with fail
    refine hon.mono ?_
    rintro e w4 ⟨rfl,rfl⟩
    clear hon
    go_wp2_with fail
    go_ret
    obtain⟨hC3,t3,hS,u3⟩:=HF.out
    rw[hS]
    exact⟨rfl,ρ3,hC3,t3,fun _=>u3⟩
 ·have t1:(ve !=0)=true:=by simpa using he
  have HX:=Lib.hid (And.intro hC2 (And.intro t2 he))
  clear q2 hC2 t2 he hv
  go_wp2_with fail
  go_ret
  obtain⟨hC2,t2,he⟩:=HX.out
  obtain⟨_,_,_,_,hS,_⟩:=H.out
  rw[if_pos he]at hS
  rw[hS]
  exact⟨rfl,ρ,hC2,t2,fun e=>absurd e he⟩
end Go.Proofs.YtggmdjdflaglpaaGreat
namespace Go.Proofs.YtggmdjdflaglpaaGreat
open Go.RowKit Go.Proofs.YtggmdjdflaglpaaGreat.geo
set_option linter.unusedVariables false
def CcP (ρ:Rl) (a:Ads) (cc m ag:Nat) (R:Int×Cch) (w:World) (e:Ending) (w':World):Prop:=
 e=.returned (.int .i64 R.1)/\∃ρ',CchR ρ' w' a cc m ag R.2/\Ste rtC ρ w ρ' w'
theorem CcP.trans {ρ ρ':Rl}{a:Ads}{cc m ag:Nat}{R:Int×Cch}{w w':World}{e:Ending}{w'':World}(hs:Ste rtC ρ w ρ' w') (h:CcP ρ' a cc m ag R w' e w''):CcP ρ a cc m ag R w e w'':=by
 obtain⟨h1,ρ2,h2,h3⟩:=h
 exact⟨h1,ρ2,h2,hs.trans h3⟩
set_option maxHeartbeats 8000000 in
set_option maxRecDepth 100000 in
theorem evict_ok (HO:OpenOk) (HS:SumOk) (HT:ShutOk) (ρ:Rl) (a:Ads) (cc m ag:Nat) (C:Cch) (k t:Nat) (w:World) (hf:Fresh ρ w) (h:CchR ρ w a cc m ag C) (hC:Cok C k t) (hk6:k<=500000) (hs:oldest C<C.now.length) (hom:(oldest C:Int)=om C.age):
 Calls Tryz.prog 159 #[.pointer (some ⟨cc,0,none⟩)] w (CcP ρ a cc m ag (cevict C (oldest C)) w):=by
 have hn16:=hC.n16
 have hol:=aold_ok ρ ag C.T C.age w h.age
 rw[<-hom]at hol
 obtain⟨s,hss⟩:∃s,s=oldest C:=⟨_,rfl⟩
 rw[<-hss]at hs hol ⊢
 have hsp:=spill_ok HO ρ a cc m ag C k t s w hf h hC (by omega) hs
 have hE:cevict C s=if(C.lf s).dirty then(if(cspill C s).1≠0 then cspill C s else if(spend (cspill C s).2.W.pow).2=false then(7,(cspill C s).2.wld (cspill C s).2.W.dbar)else ccommit (cdrops ((cspill C s).2.wld (cspill C s).2.W.dbar) s))else ccommit (cdrops C s):=rfl
 obtain⟨R,hR⟩:∃R,R=cevict C s:=⟨_,rfl⟩
 rw[<-hR]at hE
 rw[<-hR]
 have hlf:=lf_at C hs
 have h':=h
 obtain⟨vn,vw,hb,_,_,_,⟨g,cap,rr,rfl,_,hg⟩,_⟩:=h'
 have c2:=hb.cell_ 2 rfl
 have c4:=hb.cell_ 4 rfl
 have lc:=hb.lt
 have lg:=hg.lt
 have cd:w.cell? ⟨g,s*8+1,none⟩=some (.bool (C.lf s).dirty):=hg.leaf hlf 1 _ rfl
 obtain⟨n,hn⟩:∃n,n=C.now.length:=⟨_,rfl⟩
 rw[<-hn]at hs hn16 c2
 have m0:(0:Int)<=(s:Int):=by omega
 have m1:(s:Int)<(n:Int):=by omega
 obtain⟨D,hD⟩:∃D,D=(C.lf s).dirty:=⟨_,rfl⟩
 rw[<-hD]at cd hE
 have H:=Lib.hid (And.intro h (And.intro hC (And.intro hn hE)))
 have hsp1:=hC.spill s
 have hspn:=(cspill_now C s).1
 obtain⟨S,hS⟩:∃S,S=cspill C s:=⟨_,rfl⟩
 rw[<-hS]at hsp hsp1 hspn H
 obtain⟨se,sC⟩:=S
 simp only at hsp hsp1 hspn
 have HP:=Lib.hid (And.intro hsp1 hspn)
 clear h hC hom hss hE hR hlf hb hg hn hD hS hsp1 hspn
 go_enter Tryz.func159,Tryz.ntmps159
 go_wp2_with fail
 refine hol.mono ?_
 rintro e w1 ⟨rfl,rfl⟩
 clear hol
 cases D with
 |true=>
  go_wp2_with fail
  refine hsp.mono ?_
  rintro e w2 ⟨rfl,ρ2,hC2,s2,_⟩
  clear hsp c2 c4 cd
  by_cases he:se=0
  ·subst he
   obtain⟨hsp1,hspn⟩:=HP.out
   obtain⟨h,hC,hn,hE⟩:=H.out
   rw[if_pos (by first|rfl|trivial)]at hE
   simp only[ne_eq,not_true_eq_false,if_false]at hE
   have hdb:=wdbar_ok ρ2 a sC.W w2 s2.fresh hC2.wld (Nat.le_trans hsp1.fit.dsk (by omega))
   have hC2':=hC2
   obtain⟨vn2,vw2,hb2,hcc2,hw2,_⟩:=hC2'
   have c0:=hb2.cell_ 0 rfl
   have c3:=hw2.1.cell_ 3 rfl
   have lc2:=hb2.lt
   have lw2:=hw2.1.lt
   obtain⟨B,hB⟩:∃B,B=(spend sC.W.pow).2:=⟨_,rfl⟩
   rw[<-hB]at hdb hE
   have HX:=Lib.hid (And.intro hC2 (And.intro s2 (And.intro hE (And.intro hsp1 (And.intro hspn hn)))))
   clear hC2 s2 hE hsp1 hspn hn hw2 hb2 h hC hB
   cases B with
   |false=>
    go_wp2_with fail
    refine hdb.mono ?_
    rintro e w3 ⟨rfl,ρ3,hw3,s3⟩
    clear hdb c0 c3
    have HY:=Lib.hid (And.intro hw3 s3)
    clear hw3 s3
    go_wp2_with fail
    go_ret
    obtain⟨hC2,s2,hE,hsp1,hspn,hn⟩:=HX.out
    obtain⟨hw3,s3⟩:=HY.out
    rw[if_pos (by first|rfl|trivial)]at hE
    rw[hE]
    exact⟨rfl,ρ3,hC2.put_wld hw3 s3,s2.trans (s3.mono (fun r e=>e.c))⟩
   |true=>
    go_wp2_with fail
    refine hdb.mono ?_
    rintro e w3 ⟨rfl,ρ3,hw3,s3⟩
    clear hdb c0 c3
    obtain⟨hC2,s2,hE,hsp1,hspn,hn⟩:=HX.out
    have hC3:=hC2.put_wld hw3 s3
    have hdr:=drops_ok ρ3 a cc m ag _ s w3 s3.fresh hC3 (by show s<sC.now.length;rw[hspn];omega) (by show sC.now.length<=16;rw[hspn];omega)
    have st3:=s2.trans (s3.mono (fun r e=>e.c))
    have HY:=Lib.hid (And.intro hC3 st3)
    clear hC2 s2 hE hsp1 hspn hn hC3 st3 hw3 s3
    go_wp2_with fail
    refine hdr.mono ?_
    rintro e w4 ⟨rfl,ρ4,hC4,s4⟩
    clear hdr
    obtain⟨hC2,s2,hE,hsp1,hspn,hn⟩:=HX.out
    obtain⟨hC3,st3⟩:=HY.out
    have hcm:=ccm_ok HS HT ρ4 a cc m ag _ (k+2+1) t w4 s4.fresh hC4 ((hsp1.dbar).drops (by show s<sC.now.length;rw[hspn];omega)) (by omega)
    have st4:=st3.trans s4
    rw[if_neg (by simp)]at hE
    rw[<-hE]at hcm
    have HZ:=Lib.hid st4
    clear hC2 s2 hE hsp1 hspn hn hC3 st3 st4 hC4 s4
    go_wp2_with fail
    refine hcm.mono ?_
    rintro e w5 ⟨rfl,ρ5,hC5,s5⟩
    have HV:=Lib.hid (And.intro hC5 s5)
    clear hcm hC5 s5
    go_wp2_with fail
    go_ret
    exact⟨rfl,ρ5,HV.out.1,HZ.out.trans HV.out.2⟩
  ·have t1:(se !=0)=true:=by simpa using he
   have HX:=Lib.hid (And.intro hC2 (And.intro s2 he))
   clear hC2 s2 he
   go_wp2_with fail
   go_ret
   obtain⟨hC2,s2,he⟩:=HX.out
   obtain⟨h,hC,hn,hE⟩:=H.out
   rw[if_pos (by first|rfl|trivial),if_pos he]at hE
   rw[hE]
   exact⟨rfl,ρ2,hC2,s2⟩
 |false=>
  obtain⟨h,hC,hn,hE⟩:=H.out
  have hdr:=drops_ok ρ a cc m ag C s w hf h (by omega) (by omega)
  rw[if_neg (by simp)]at hE
  have HE:=Lib.hid hE
  clear h hC hn hE
  go_wp2_with fail
  refine hdr.mono ?_
  rintro e w4 ⟨rfl,ρ4,hC4,s4⟩
  clear hdr
  obtain⟨h,hC,hn,hE⟩:=H.out
  have hcm:=ccm_ok HS HT ρ4 a cc m ag _ k t w4 s4.fresh hC4 (hC.drops (by omega)) (by omega)
  rw[<-HE.out]at hcm
  have HZ:=Lib.hid s4
  clear h hC hn hE hC4 s4 c2 c4 cd
  go_wp2_with fail
  refine hcm.mono ?_
  rintro e w5 ⟨rfl,ρ5,hC5,s5⟩
  have HV:=Lib.hid (And.intro hC5 s5)
  clear hcm hC5 s5
  go_wp2_with fail
  go_ret
  exact⟨rfl,ρ5,HV.out.1,HZ.out.trans HV.out.2⟩
set_option maxHeartbeats 4000000 in
set_option maxRecDepth 100000 in
theorem room_ok (HO:OpenOk) (HS:SumOk) (HT:ShutOk) (ρ:Rl) (a:Ads) (cc m ag:Nat) (C:Cch) (k t:Nat) (w:World) (hf:Fresh ρ w) (h:CchR ρ w a cc m ag C) (hC:Cok C k t) (hk6:k<=400000):
 Calls Tryz.prog 120 #[.pointer (some ⟨cc,0,none⟩)] w (CcP ρ a cc m ag (croom C) w):=by
 have hR:croom C=if 0<=free C then(0,C)else if(ccommit C).1≠0 then ccommit C else if 0<=free (ccommit C).2 then(0,(ccommit C).2)else cevict (ccommit C).2 (oldest (ccommit C).2):=rfl
 obtain⟨R,hRR⟩:∃R,R=croom C:=⟨_,rfl⟩
 rw[<-hRR]at hR
 rw[<-hRR]
 have hfr:=free_ok ρ a cc m ag C w h (by rw[hC.wl,hC.nl]) hC.n16.2
 have hcm:=ccm_ok HS HT ρ a cc m ag C k t w hf h hC (by omega)
 have hC1:=hC.commit (by omega)
 have hw1:(ccommit C).1=0->(ccommit C).2.was=(ccommit C).2.now:=fun e=>by
  have e':(cmt C.W C.M C.now).1=0:=e
  show(if(cmt C.W C.M C.now).1=0 then C.now else C.was)=C.now
  rw[if_pos e']
 obtain⟨F,hF⟩:∃F,F=free C:=⟨_,rfl⟩
 obtain⟨S,hS⟩:∃S,S=ccommit C:=⟨_,rfl⟩
 rw[<-hF]at hR hfr
 rw[<-hS]at hR hcm hC1 hw1
 obtain⟨se,sC⟩:=S
 simp only at hR hcm hC1 hw1
 have H:=Lib.hid (And.intro h (And.intro hR (And.intro hC1 hw1)))
 clear h hC hR hRR hF hS hC1 hw1
 by_cases hF0:0<=F
 ·have d0:decide (0<=F)=true:=by simpa using hF0
  go_enter Tryz.func120,Tryz.ntmps120
  go_wp2_with fail
  refine hfr.mono ?_
  rintro e w1 ⟨rfl,rfl⟩
  clear hcm hfr
  go_wp2_with fail
  go_ret
  obtain⟨h,hR,hC1,hw1⟩:=H.out
  rw[if_pos hF0]at hR
  rw[hR]
  exact⟨rfl,ρ,h,Ste.refl _ hf⟩
 ·have d0:decide (0<=F)=false:=by simpa using hF0
  have HF0:=Lib.hid hF0
  clear hF0
  go_enter Tryz.func120,Tryz.ntmps120
  go_wp2_with fail
  refine hfr.mono ?_
  rintro e w1 ⟨rfl,rfl⟩
  clear hfr
  go_wp2_with fail
  refine hcm.mono ?_
  rintro e w2 ⟨rfl,ρ2,hC2,s2⟩
  clear hcm
  by_cases he:se=0
  ·subst he
   obtain⟨h,hR,hC1,hw1⟩:=H.out
   have hw1':=hw1 rfl
   have hfr:=free_ok ρ2 a cc m ag sC w2 hC2 (by rw[hC1.wl,hC1.nl]) hC1.n16.2
   rw[if_neg (by have:=HF0.out;omega)]at hR
   simp only[ne_eq,not_true_eq_false,if_false]at hR
   obtain⟨F2,hF2⟩:∃F2,F2=free sC:=⟨_,rfl⟩
   rw[<-hF2]at hfr hR
   have HX:=Lib.hid (And.intro hC2 (And.intro s2 (And.intro hR (And.intro hC1 (And.intro hw1' hF2)))))
   clear h hR hC1 hw1 hw1' hC2 s2 hF2
   by_cases hF0:0<=F2
   ·have d1:decide (0<=F2)=true:=by simpa using hF0
    go_wp2_with fail
    refine hfr.mono ?_
    rintro e w3 ⟨rfl,rfl⟩
    clear hfr
    go_wp2_with fail
    go_ret
    obtain⟨hC2,s2,hR,hC1,hw1,hF2⟩:=HX.out
    rw[if_pos hF0]at hR
    rw[hR]
    exact⟨rfl,ρ2,hC2,s2⟩
   ·have d1:decide (0<=F2)=false:=by simpa using hF0
    have HF3:=Lib.hid hF0
    clear hF0
    go_wp2_with fail
    refine hfr.mono ?_
    rintro e w3 ⟨rfl,rfl⟩
    clear hfr
    obtain⟨hC2,s2,hR,hC1,hw1,hF2⟩:=HX.out
    have hol:=oldest_lt hC1 (by have:=HF3.out;omega) hw1
    have hev:=evict_ok HO HS HT ρ2 a cc m ag sC (k+50) t w2 s2.fresh hC2 hC1 (by omega) hol.1 hol.2.2
    rw[if_neg (by have:=HF3.out;omega)]at hR
    rw[<-hR]at hev
    have HS2:=Lib.hid s2
    clear hC2 s2 hR hC1 hw1 hF2 hol
    go_wp2_with fail
    refine hev.mono ?_
    rintro e w4 ⟨rfl,ρ4,hC4,s4⟩
    have HV:=Lib.hid (And.intro hC4 s4)
    clear hev hC4 s4
    go_wp2_with fail
    go_ret
    exact⟨rfl,ρ4,HV.out.1,HS2.out.trans HV.out.2⟩
  ·have t1:(se !=0)=true:=by simpa using he
   have HX:=Lib.hid (And.intro hC2 (And.intro s2 he))
   clear hC2 s2 he
   go_wp2_with fail
   go_ret
   obtain⟨hC2,s2,he⟩:=HX.out
   obtain⟨h,hR,hC1,hw1⟩:=H.out
   rw[if_neg (by have:=HF0.out;omega),if_pos he]at hR
   rw[hR]
   exact⟨rfl,ρ2,hC2,s2⟩
end Go.Proofs.YtggmdjdflaglpaaGreat
namespace Go.Proofs.YtggmdjdflaglpaaGreat
open Go.RowKit Go.Proofs.YtggmdjdflaglpaaGreat.geo
set_option linter.unusedVariables false
theorem made_leaves (n:Nat):madeCells (Value.agg (lfc Lf.no).toArray).cells (n*8)=(lcs (List.replicate n Lf.no)).toArray:=by
 apply Array.ext
 ·simp[madeCells,lcs_len];omega
 ·intro i h1 h2
  have hi:i<8*n:=by simpa[lcs_len]using h2
  have hm:i%8<8:=Nat.mod_lt _ (by omega)
  have key:(lcs (List.replicate n Lf.no))[8*(i / 8)+i%8]? =some ((lfc Lf.no)[i%8]'(by rw[lfc_len];exact hm)):=
   lcs_at (by rw[List.getElem?_replicate,if_pos (by omega)]) _ _ (List.getElem?_eq_getElem _)
  rw[show 8*(i / 8)+i%8=i by omega,List.getElem?_eq_getElem (by simpa using h2)]at key
  injection key with key
  simp only[madeCells,Value.cells,List.getElem_toArray]
  rw[key]
  have:i%8=0\/i%8=1\/i%8=2\/i%8=3\/i%8=4\/i%8=5\/i%8=6\/i%8=7:=by omega
  rcases this with e|e|e|e|e|e|e|e<;>simp[e,lfc,Lf.no]
theorem make_leaves (n:Nat) (hn:n<=1000) (w:World):(Instr.makeSlice 89 (.int .i64 (n:Int)) (.int .i64 (n:Int))).run Tryz.prog w=.ok (.slice (some ⟨w.heap.size,0,none⟩) n n) (w.alloc (.cells (lcs (List.replicate n Lf.no)).toArray 103)):=by
 obtain⟨i0,hi,hz0,hz1,hz2⟩:=info_parts info103
 have h:=run_make (P:=Tryz.prog) w 89 103 i0 (.agg (lfc Lf.no).toArray) Tryz.underlying89 hi hz0 .i64 .i64 n n (by omega) (by omega) (by rw[hz2];omega) (by omega)
 rw[hz1]at h
 simp only[Int.toNat_natCast]at h
 rw[made_leaves]at h
 exact h
theorem cspills_stuck (C:Cch) (i:Nat) (h:(cspills C i).1≠0):∀d,cspills C (i+d)=cspills C i
 |0=>rfl
 |d+1=>by
  have ih:=cspills_stuck C i h d
  have e:cspills C (i+d+1)=if(cspills C (i+d)).1≠0 then cspills C (i+d)else if(C.lf (i+d)).dirty then((cspill (cspills C (i+d)).2.1 (i+d)).1,(cspill (cspills C (i+d)).2.1 (i+d)).2,true)else cspills C (i+d):=rfl
  show cspills C (i+d+1)=_
  rw[e,ih,if_pos h]
theorem CchR.fresh_now {ρ:Rl}{w:World}{a:Ads}{cc m ag n:Nat}{C:Cch}(h:CchR ρ w a cc m ag C) (hf:Fresh ρ w) (hn:n=C.now.length):
 CchR (ρ.set w.heap.size rNow) ((w.setCell ⟨cc,2,none⟩ (.slice (some ⟨w.heap.size,0,none⟩) n n)).alloc (.cells (lcs (List.replicate n Lf.no)).toArray 103)) a cc m ag ⟨C.W,C.M,List.replicate n Lf.no,C.was,C.age,C.T,C.pois⟩/\
  Ste rtC ρ w (ρ.set w.heap.size rNow) ((w.setCell ⟨cc,2,none⟩ (.slice (some ⟨w.heap.size,0,none⟩) n n)).alloc (.cells (lcs (List.replicate n Lf.no)).toArray 103)):=by
 have hcl:cc<w.heap.size:=by obtain⟨vn,vw,h1,_⟩:=h;exact h1.lt
 rw[<-World.setCell_alloc_past (w:=w) (.cells (lcs (List.replicate n Lf.no)).toArray 103) cc 2 (.slice (some ⟨w.heap.size,0,none⟩) n n) hcl]
 have q:Below w.heap.size w (w.alloc (.cells (lcs (List.replicate n Lf.no)).toArray 103)):=(Below.refl _ _).alloc (Nat.le_refl _) _
 have hB:=Blk.new w 103 (lcs (List.replicate n Lf.no)).toArray
 have h0:ρ w.heap.size=0:=hf _ (Nat.le_refl _)
 have hs:Ste rtC ρ w (ρ.set w.heap.size rNow) (w.alloc (.cells (lcs (List.replicate n Lf.no)).toArray 103)):=(Ste.of_below q hf).label (Nat.le_refl _) hB.lt
 have h1:CchR (ρ.set w.heap.size rNow) (w.alloc (.cells (lcs (List.replicate n Lf.no)).toArray 103)) a cc m ag C:=h.keep q.size (fun b hb e=>⟨q.block b hb,Rl.set_other _ (by omega)⟩)
 have h2:=h1
 obtain⟨vn,vw,e1,e2,e3,e4,e5,e6,e7⟩:=h2
 have hg:=only_setCell (only_refl (w.alloc (.cells (lcs (List.replicate n Lf.no)).toArray 103)) (some cc)) (p:=⟨cc,2,none⟩) (.inl rfl) (.slice (some ⟨w.heap.size,0,none⟩) n n)
 refine⟨h1.head hg (e1.set_to 2 _ rfl) ⟨w.heap.size,n,[],by rw[List.length_replicate],Rl.set_same _ _ _,by rw[List.append_nil];exact hB⟩ e6 e7 rfl rfl,hs.trans (h1.ste_head hs.fresh hg)⟩
theorem CchR.fresh_age {ρ ρ':Rl}{w w':World}{a:Ads}{cc m ag ag':Nat}{C:Cch}(h:CchR ρ w a cc m ag C) (hs:Ste (fun _=>False) ρ w ρ' w') (hA:AgeR ρ' w' ag' 0 []):
 CchR ρ' (w'.setCell ⟨cc,4,none⟩ (.pointer (some ⟨ag',0,none⟩))) a cc m ag' ⟨C.W,C.M,C.now,C.was,[],0,C.pois⟩/\Ste rtC ρ w ρ' (w'.setCell ⟨cc,4,none⟩ (.pointer (some ⟨ag',0,none⟩))):=by
 have h1:CchR ρ' w' a cc m ag C:=h.keep hs.size (fun b hb e=>⟨hs.ch.keep b hb (fun c=>c),hs.old b hb⟩)
 have h2:=h1
 obtain⟨vn,vw,e1,e2,e3,e4,e5,e6,e7⟩:=h2
 have hg:=only_setCell (only_refl w' (some cc)) (p:=⟨cc,4,none⟩) (.inl rfl) (.pointer (some ⟨ag',0,none⟩))
 exact⟨h1.head hg (e1.set_to 4 _ rfl) e5 e6 hA rfl rfl,(hs.mono (fun r e=>e.elim)).trans (h1.ste_head hs.fresh hg)⟩
set_option maxHeartbeats 8000000 in
set_option maxRecDepth 100000 in
theorem empty_ok (HO:OpenOk) (ρ:Rl) (a:Ads) (cc m ag:Nat) (C:Cch) (k t:Nat) (w:World) (hf:Fresh ρ w) (h:CchR ρ w a cc m ag C) (hC:Cok C k t) (hk6:k<=500000):
 Calls Tryz.prog 69 #[.pointer (some ⟨cc,0,none⟩)] w fun e w'=>e=.returned (.int .i64 (cempty C).1)/\∃ρ' ag',CchR ρ' w' a cc m ag' (cempty C).2/\Ste rtC ρ w ρ' w':=by
 have hn16:=hC.n16
 have hE:cempty C=if(cspills C C.now.length).1≠0 then((cspills C C.now.length).1,(cspills C C.now.length).2.1)
  else if(cspills C C.now.length).2.2 then
   (if(spend (cspills C C.now.length).2.1.W.pow).2=false then(7,(cspills C C.now.length).2.1.wld (cspills C C.now.length).2.1.W.dbar)
   else(0,cclear ((cspills C C.now.length).2.1.wld (cspills C C.now.length).2.1.W.dbar)))
  else(0,cclear (cspills C C.now.length).2.1):=rfl
 have hsp:=hC.spills
 have hspn:=fun i=>(cspills_now C i).1
 have hstep:∀i,cspills C (i+1)=if(cspills C i).1≠0 then cspills C i else if(C.lf i).dirty then((cspill (cspills C i).2.1 i).1,(cspill (cspills C i).2.1 i).2,true)else cspills C i:=fun _=>rfl
 have h0':cspills C 0=(0,C,false):=rfl
 have hstk:=cspills_stuck C
 obtain⟨R,hR⟩:∃R,R=cempty C:=⟨_,rfl⟩
 rw[<-hR]at hE
 rw[<-hR]
 obtain⟨S,hS⟩:∃S,S=cspills C:=⟨_,rfl⟩
 rw[<-hS]at hE hsp hspn hstep h0' hstk
 have h':=h
 obtain⟨vn,vw,hb,hcc,_,_,⟨g,cap,rr,rfl,hgr,hg⟩,_⟩:=h'
 have c2:=hb.cell_ 2 rfl
 have lc:=hb.lt
 obtain⟨n,hn⟩:∃n,n=C.now.length:=⟨_,rfl⟩
 rw[<-hn]at hE hn16 c2 hb
 have hlf:∀i,i<n->C.now[i]? =some (C.lf i):=fun i hi=>lf_at C (by omega)
 have hstart:CchR ρ w a cc m ag (S 0).2.1:=by rw[h0'];exact h
 have hs0:(S 0).1=0/\(S 0).2.2=false:=by rw[h0'];exact⟨rfl,rfl⟩
 have H:=Lib.hid (And.intro hE (And.intro hsp (And.intro hspn (And.intro hstep (And.intro hn (And.intro hlf hstk))))))
 have hg0:=hg.lt
 have hgrn:¬rtW (ρ g):=by rw[hgr];unfold rtW;decide
 have hccn:¬rtW (ρ cc):=by rw[hcc];unfold rtW;decide
 have hrefl:Ste rtW ρ w ρ w:=Ste.refl _ hf
 clear h hC hE hsp hspn hstep hn hlf hstk h0' hS hR
 go_enter Tryz.func69,Tryz.ntmps69
 go_wp2_with fail
 go_loopw [3,12] (fun t3 t12 wr=>∃(i:Nat) (ρr:Rl) (b:Bool),t12=.int .i64 i/\i<=n/\t3=.bool b/\(S i).2.2=b/\(S i).1=0/\CchR ρr wr a cc m ag (S i).2.1/\Ste rtW ρ w ρr wr/\Blk wr cc 107 #[.pointer (some ⟨a.wl,0,none⟩),.pointer (some ⟨m,0,none⟩),.slice (some ⟨g,0,none⟩) n cap,vw,.pointer (some ⟨ag,0,none⟩),.bool C.pois]/\Blk wr g 103 (lcs C.now++rr).toArray) (fun _ t _=>n-(intOf t).toNat)
 case atStart=>exact⟨0,ρ,false,rfl,by omega,rfl,hs0.2,hs0.1,hstart,hrefl,hb,hg⟩
 case round=>
  obtain⟨i,ρr,B,rfl,hi,rfl,hB,he0,hCr,hst,hbr,hgr'⟩:=hrel
  clear hstart hs0 hrefl hb hg
  obtain⟨hE,hsp,hspn,hstep,hn,hlf,hstk⟩:=H.out
  by_cases hlt:i<n
  ·have hgl:=hgr'.leaf (hlf i hlt)
   have lg:=hgr'.lt
   obtain⟨l,hl⟩:∃l,l=C.lf i:=⟨_,rfl⟩
   have hst1:=hstep i
   rw[if_neg (by rw[he0];simp),<-hl]at hst1
   rw[<-hl]at hgl
   obtain⟨kind,dirty,lba,⟨ep,sl,ver⟩,ta,tb⟩:=l
   unfold lfc at hgl
   simp only at hgl hst1
   have m0:(0:Int)<=(i:Int):=by omega
   have m1:(i:Int)<(n:Int):=by omega
   have sz8:(Tryz.prog.info? 103).map (·.size)=some ([.int .i64 kind,.bool dirty,.int .i64 lba,.int .u32 ep,.int .u32 sl,.int .u64 ver,.int .u64 ta,.int .u64 tb]:List Value).length:=sz103
   have q1:Below wr.heap.size wr (wr.alloc (.cells #[.int .i64 kind,.bool dirty,.int .i64 lba,.int .u32 ep,.int .u32 sl,.int .u64 ver,.int .u64 ta,.int .u64 tb] 103)):=(Below.refl _ _).alloc (Nat.le_refl _) _
   have hC1:=hCr.below_ q1
   have st1:=hst.trans (Ste.of_below (T:=rtW) q1 hst.fresh)
   have hb1:=hbr.below_ q1
   have hg1:=hgr'.below_ q1
   obtain⟨W1,hW1⟩:∃W1,W1=wr.alloc (.cells #[.int .i64 kind,.bool dirty,.int .i64 lba,.int .u32 ep,.int .u32 sl,.int .u64 ver,.int .u64 ta,.int .u64 tb] 103):=⟨_,rfl⟩
   rw[<-hW1]at hC1 st1 hb1 hg1
   have HW1:=Lib.hid hW1
   have hsp':=spill_ok HO ρr a cc m ag (S i).2.1 (k+2*i) t i W1 st1.fresh hC1 (hsp i) (by omega) (by rw[hspn i];omega)
   have HR:=Lib.hid (And.intro he0 (And.intro hst1 (And.intro hC1 (And.intro st1 (And.intro hb1 (And.intro hg1 hB))))))
   clear hB hE hsp hspn hstep hn hlf hstk he0 hst1 hC1 st1 hb1 hg1 hCr hst hbr hgr' hl hW1 q1
   cases dirty with
   |true=>
    obtain⟨X,hX⟩:∃X,X=cspill (S i).2.1 i:=⟨_,rfl⟩
    rw[<-hX]at hsp'
    have HX:=Lib.hid hX
    clear hX
    obtain⟨xe,xC⟩:=X
    simp only at hsp'
    go_wp2_with (with_reducible refine wpList_load_mid rfl 103 _ rfl g (i*8) rfl _ _ hgl Tryz.underlying103 rfl sz8 ?_)
    rw[<-HW1.out]
    refine hsp'.mono ?_
    rintro e w2 ⟨rfl,ρ2,hC2,s2,u2⟩
    clear hsp'
    by_cases he:xe=0
    ·subst he
     obtain⟨he0,hst1,hC1,st1,hb1,hg1,hB⟩:=HR.out
     rw[if_pos (by first|rfl|trivial),<-HX.out]at hst1
     have u2':=u2 (by first|rfl|trivial)
     have hb2:=hb1.ste u2' (by rw[st1.old cc lc];exact hccn)
     have hg2:=hg1.ste u2' (by rw[st1.old g hg0];exact hgrn)
     have HY:=Lib.hid (And.intro hst1 (And.intro hC2 (And.intro (st1.trans u2') (And.intro hb2 hg2))))
     clear hB he0 hst1 hC1 st1 hb1 hg1 u2 u2' hb2 hg2 hC2 s2
     go_wp2_with fail
     go_roundw
     case rel=>
      obtain⟨hst1,hC2,st2,hb2,hg2⟩:=HY.out
      exact⟨i+1,ρ2,true,by go_num,by omega,rfl,by rw[hst1],by rw[hst1],by rw[hst1];exact hC2,st2,hb2,hg2⟩
     case measure=>simp[intOf];omega
    ·have t1:(xe !=0)=true:=by simpa using he
     have HY:=Lib.hid (And.intro hC2 (And.intro s2 he))
     clear hC2 s2 u2 he
     go_wp2_with fail
     go_ret
     obtain⟨hC2,s2,he⟩:=HY.out
     obtain⟨he0,hst1,hC1,st1,hb1,hg1,hB⟩:=HR.out
     obtain⟨hE,hsp,hspn,hstep,hn,hlf,hstk⟩:=H.out
     rw[if_pos (by first|rfl|trivial),<-HX.out]at hst1
     have hSn:S n=(xe,xC,true):=by
      have:=hstk (i+1) (by rw[hst1];exact he) (n-(i+1))
      rw[show i+1+(n-(i+1))=n by omega]at this
      rw[this,hst1]
     rw[hSn,if_pos he]at hE
     rw[hE]
     exact⟨rfl,ρ2,ag,hC2,(st1.mono (fun r e=>e.c)).trans s2⟩
   |false=>
    clear hsp'
    go_wp2_with (with_reducible refine wpList_load_mid rfl 103 _ rfl g (i*8) rfl _ _ hgl Tryz.underlying103 rfl sz8 ?_)
    rw[<-HW1.out]
    go_roundw
    case rel=>
     obtain⟨he0,hst1,hC1,st1,hb1,hg1,hB⟩:=HR.out
     rw[if_neg (by simp)]at hst1
     exact⟨i+1,ρr,B,by go_num,by omega,rfl,by rw[hst1];exact hB,by rw[hst1];exact he0,by rw[hst1];exact hC1,st1,hb1,hg1⟩
    case measure=>simp[intOf];omega
  ·obtain rfl:n=i:=by omega
   have hd:decide ((n:Int)<(n:Int))=false:=by simp
   have hq:=hsp n
   have hqn:=hspn n
   rw[if_neg (by rw[he0];simp)]at hE
   obtain⟨X,hX⟩:∃X,X=(S n).2.1:=⟨_,rfl⟩
   rw[<-hX]at hq hqn hCr hE
   rw[hB]at hE
   have hmk:=fun W=>make_leaves n (by omega) W
   cases B with
   |true=>
    have hdb:=wdbar_ok ρr a X.W wr hst.fresh hCr.wld (Nat.le_trans hq.fit.dsk (by omega))
    have hwr:=hCr.wld
    have c0:=hbr.cell_ 0 rfl
    have c3:=hwr.1.cell_ 3 rfl
    have lc2:=hbr.lt
    have lw2:=hwr.1.lt
    obtain⟨D,hD⟩:∃D,D=(spend X.W.pow).2:=⟨_,rfl⟩
    rw[<-hD]at hdb hE
    rw[if_pos (by first|rfl|trivial)]at hE
    have HX:=Lib.hid (And.intro hCr (And.intro hst (And.intro hbr (And.intro hE hqn))))
    clear hCr hst hbr hgr' hE hqn hq hwr hD hX hB he0 hsp hspn hstep hn hlf hstk
    cases D with
    |false=>
     go_wp2_with fail
     refine hdb.mono ?_
     rintro e w3 ⟨rfl,ρ3,hw3,s3⟩
     have HY:=Lib.hid (And.intro hw3 s3)
     clear hdb c0 c3 hw3 s3
     go_wp2_with fail
     go_ret
     obtain⟨hCr,hst,hbr,hE,hqn⟩:=HX.out
     obtain⟨hw3,s3⟩:=HY.out
     rw[if_pos (by first|rfl|trivial)]at hE
     rw[hE]
     exact⟨rfl,ρ3,ag,hCr.put_wld hw3 s3,(hst.trans s3).mono (fun r e=>e.c)⟩
    |true=>
     go_wp2_with fail
     refine hdb.mono ?_
     rintro e w5 ⟨rfl,ρ5,hw3,s3⟩
     obtain⟨hCr,hst,hbr,hE,hqn⟩:=HX.out
     have hC5:=hCr.put_wld hw3 s3
     have hf5:=s3.fresh
     have hYn:n=(X.wld X.W.dbar).now.length:=by show n=X.now.length;rw[hqn];exact H.out.2.2.2.2.1
     have hb5:=hbr.ste s3 (by rw[hst.old cc lc];exact hccn)
     have HY:=Lib.hid ((hst.trans s3).mono (T':=rtC) (fun r e=>e.c))
     clear hdb c0 c3 hw3 s3 hCr hst hbr hE hqn
     have c2':=hb5.cell_ 2 rfl
     have f2:=hb5.frozen 2
     have lc5:=hb5.lt
     have hF:=hC5.fresh_now hf5 hYn
     have hb6:=(hb5.set_to 2 (.slice (some ⟨w5.heap.size,0,none⟩) n n) rfl).alloc (.cells (lcs (List.replicate n Lf.no)).toArray 103)
     obtain⟨W6,hW6⟩:∃W6,W6=(w5.setCell ⟨cc,2,none⟩ (.slice (some ⟨w5.heap.size,0,none⟩) n n)).alloc (.cells (lcs (List.replicate n Lf.no)).toArray 103):=⟨_,rfl⟩
     obtain⟨ρ6,hρ6⟩:∃ρ6,ρ6=ρ5.set w5.heap.size rNow:=⟨_,rfl⟩
     rw[<-hW6]at hF hb6
     rw[<-hρ6]at hF
     have hag:=aage_ok ρ6 W6 hF.2.fresh
     have HW6:=Lib.hid hW6
     have HF:=Lib.hid hF
     have HB6:=Lib.hid hb6
     clear hW6 hF hb6 hb5 hC5 hYn hρ6
     go_wp2_with fail
     rw[<-HW6.out]
     refine hag.mono ?_
     rintro e w7 ⟨rfl,ρ7,hA7,hs7,q7⟩
     have hb7:=HB6.out.below_ q7
     have hfin:=CchR.fresh_age HF.out.1 (hs7 (fun _=>False)) hA7
     have c4:=hb7.cell_ 4 rfl
     have f4:=hb7.frozen 4
     have lc7:=hb7.lt
     have HZ:=Lib.hid hfin
     clear hag c2' f2 lc5 hA7 hs7 q7 hb7 hfin
     go_wp2_with fail
     go_ret
     obtain⟨hC8,s8⟩:=HZ.out
     obtain⟨hCr,hst,hbr,hE,hqn⟩:=HX.out
     rw[if_neg (by simp)]at hE
     rw[hE]
     have hcl:cclear (X.wld X.W.dbar)=⟨X.W.dbar,X.M,List.replicate n Lf.no,X.was,[],0,X.pois⟩:=by unfold cclear Cch.wld;simp only;rw[hqn,<-H.out.2.2.2.2.1]
     rw[hcl]
     exact⟨rfl,ρ7,_,hC8,HY.out.trans (HF.out.2.trans s8)⟩
   |false=>
    rw[if_neg (by simp)]at hE
    obtain⟨w5,hw5⟩:∃w5,w5=wr:=⟨_,rfl⟩
    subst hw5
    have hC5:=hCr
    have hf5:=hst.fresh
    obtain⟨ρ5,hρ5⟩:∃ρ5,ρ5=ρr:=⟨_,rfl⟩
    subst hρ5
    have hYn:n=X.now.length:=by rw[hqn];exact H.out.2.2.2.2.1
    have hb5:=hbr
    have HX:=Lib.hid (And.intro hst (And.intro hE hqn))
    clear hCr hst hbr hgr' hE hqn hq hX hB he0 hsp hspn hstep hn hlf hstk
    have c2':=hb5.cell_ 2 rfl
    have f2:=hb5.frozen 2
    have lc5:=hb5.lt
    have hF:=hC5.fresh_now hf5 hYn
    have hb6:=(hb5.set_to 2 (.slice (some ⟨w5.heap.size,0,none⟩) n n) rfl).alloc (.cells (lcs (List.replicate n Lf.no)).toArray 103)
    obtain⟨W6,hW6⟩:∃W6,W6=(w5.setCell ⟨cc,2,none⟩ (.slice (some ⟨w5.heap.size,0,none⟩) n n)).alloc (.cells (lcs (List.replicate n Lf.no)).toArray 103):=⟨_,rfl⟩
    obtain⟨ρ6,hρ6⟩:∃ρ6,ρ6=ρ5.set w5.heap.size rNow:=⟨_,rfl⟩
    rw[<-hW6]at hF hb6
    rw[<-hρ6]at hF
    have hag:=aage_ok ρ6 W6 hF.2.fresh
    have HW6:=Lib.hid hW6
    have HF:=Lib.hid hF
    have HB6:=Lib.hid hb6
    clear hW6 hF hb6 hb5 hC5 hYn hρ6
    go_wp2_with fail
    rw[<-HW6.out]
    refine hag.mono ?_
    rintro e w7 ⟨rfl,ρ7,hA7,hs7,q7⟩
    have hb7:=HB6.out.below_ q7
    have hfin:=CchR.fresh_age HF.out.1 (hs7 (fun _=>False)) hA7
    have c4:=hb7.cell_ 4 rfl
    have f4:=hb7.frozen 4
    have lc7:=hb7.lt
    have HZ:=Lib.hid hfin
    clear hag c2' f2 lc5 hA7 hs7 q7 hb7 hfin
    go_wp2_with fail
    go_ret
    obtain⟨hC8,s8⟩:=HZ.out
    obtain⟨hst,hE,hqn⟩:=HX.out
    rw[hE]
    have hcl:cclear X=⟨X.W,X.M,List.replicate n Lf.no,X.was,[],0,X.pois⟩:=by unfold cclear;rw[hqn,<-H.out.2.2.2.2.1]
    rw[hcl]
    exact⟨rfl,ρ7,_,hC8,(hst.mono (fun r e=>e.c)).trans (HF.out.2.trans s8)⟩
end Go.Proofs.YtggmdjdflaglpaaGreat
namespace Go.Proofs.YtggmdjdflaglpaaGreat
open Go.RowKit Go.Proofs.YtggmdjdflaglpaaGreat.geo
set_option linter.unusedVariables false
theorem s2g {w:World}{cc wl ka:Nat}{x1 x2 x3 x4 x5 y0 y1 y2 y3 y4 y6:Value}(b:Blk w cc 107 #[.pointer (some ⟨wl,0,none⟩),x1,x2,x3,x4,x5]) (b2:Blk w wl 70 #[y0,y1,y2,y3,y4,.pointer (some ⟨ka,0,none⟩),y6]):
 w.cell? ⟨cc,0,none⟩=some (.pointer (some ⟨wl,0,none⟩))/\w.cell? ⟨wl,5,none⟩=some (.pointer (some ⟨ka,0,none⟩)):=⟨b.cell_ 0 rfl,b2.cell_ 5 rfl⟩
theorem Cok.kdel {C:Cch}{k t:Nat}(h:Cok C k t):Cok (C.wld C.W.kdel) (k+1) t:=h.wld h.fit.kdel h.good rfl (by
 show 1<=(if(spend C.W.pow).2 then(⟨C.W.kys.seed,C.W.kys.a+1,false⟩:Kys)else C.W.kys).a
 have:=h.ka
 split
 ·show 1<=C.W.kys.a+1;omega
 ·exact this)
theorem Cok.kadd {C:Cch}{k t:Nat}(h:Cok C k t):Cok (C.wld C.W.kadd) k t:=h.wld h.fit.kadd h.good rfl (by
 show 1<=(if(spend C.W.pow).2 then(⟨C.W.kys.seed,C.W.kys.a,true⟩:Kys)else C.W.kys).a
 have:=h.ka
 split
 ·exact this
 ·exact this)
set_option maxHeartbeats 4000000 in
set_option maxRecDepth 100000 in
theorem forget_ok (HS:SumOk) (HT:ShutOk) (ρ:Rl) (a:Ads) (cc m ag:Nat) (C:Cch) (k t:Nat) (w:World) (hf:Fresh ρ w) (h:CchR ρ w a cc m ag C) (hC:Cok C k t) (hk6:k<=500000) (h2:C.W.kys.two=true):
 Calls Tryz.prog 70 #[.pointer (some ⟨cc,0,none⟩)] w (CcP ρ a cc m ag (cforget C) w):=by
 have hR:cforget C=if(ccommit C).1≠0 then ccommit C else(if(spend (ccommit C).2.W.pow).2 then 0 else 7,(ccommit C).2.wld (ccommit C).2.W.kdel):=rfl
 obtain⟨R,hRR⟩:∃R,R=cforget C:=⟨_,rfl⟩
 rw[<-hRR]at hR
 rw[<-hRR]
 have hcm:=ccm_ok HS HT ρ a cc m ag C k t w hf h hC (by omega)
 have hC1:=hC.commit (by omega)
 have hk2:(ccommit C).2.W.kys.two=true:=by show(cmt C.W C.M C.now).2.1.kys.two=true;rw[(cmt_same C.W C.M C.now).2.1];exact h2
 obtain⟨S,hS⟩:∃S,S=ccommit C:=⟨_,rfl⟩
 rw[<-hS]at hR hcm hC1 hk2
 obtain⟨se,sC⟩:=S
 simp only at hR hcm hC1 hk2
 have H:=Lib.hid (And.intro hR (And.intro hC1 hk2))
 clear h hC hR hRR hS hC1 hk2 h2
 go_enter Tryz.func70,Tryz.ntmps70
 go_wp2_with fail
 refine hcm.mono ?_
 rintro e w2 ⟨rfl,ρ2,hC2,s2⟩
 clear hcm
 by_cases he:se=0
 ·subst he
  obtain⟨hR,hC1,hk2⟩:=H.out
  simp only[ne_eq,not_true_eq_false,if_false]at hR
  have hC2':=hC2
  obtain⟨vn2,vw2,hb2,hcc2,hw2,_⟩:=hC2'
  have hww2:=hw2.1
  have hwl2:=hw2.2.1
  have hcu:=fun W' hh=>current_ok ρ2 a.p a.k sC.W.kys W' hh
  have hkd:=fun W' h0 h1=>wkdel_ok ρ2 a sC.W W' h0 h1 hk2 (by have:=hC1.fit.kys;omega)
  have hk:=hw2.drew.2.2.2.2.2.2.2.2.1
  have hf2:=s2.fresh
  obtain⟨B,hB⟩:∃B,B=(spend sC.W.pow).2:=⟨_,rfl⟩
  rw[<-hB]at hR hkd
  obtain⟨cu,hcue⟩:∃cu,cu=sC.W.kys.cur:=⟨_,rfl⟩
  rw[<-hcue]at hcu hkd
  have HX:=Lib.hid (And.intro hC2 (And.intro s2 hR))
  clear hC2 s2 hR hC1 hk2 hB hcue
  go_wp2_with fail
  go_region_held3 (fun w'=>w'.cell? ⟨cc,0,none⟩=some (.pointer (some ⟨a.wl,0,none⟩))/\w'.cell? ⟨a.wl,5,none⟩=some (.pointer (some ⟨a.k,0,none⟩)))
   (first|(with_reducible exact s2g hb2 hww2)|(with_reducible exact s2g hb2.drew hww2.drew))
   (first
    |(go_at_call 111;(with_reducible refine(hcu w2.drew hk).mono ?_);rintro e w3 ⟨rfl,q3⟩;have r3:Below w2.heap.size w2 w3:=(Below.refl _ _).drew.trans q3;replace hb2:=hb2.below_ r3;replace hww2:=hww2.below_ r3)
    |(go_at_call 110;have c3:=hkd w3 (fun i hi=>hf2 i (Nat.le_trans r3.size hi)) (hw2.below_ r3);(with_reducible refine c3.mono ?_);clear c3;rintro e w4 ⟨rfl,ρ4,hw4,s4⟩;have t4:Ste rtW ρ2 w2 ρ4 w4:=(Ste.of_below r3 hf2).trans s4;replace hb2:=hb2.ste s4 (by rw[hcc2];unfold rtW;decide);replace hww2:=hww2.ste s4 (by rw[hwl2];exact rtW17))
    |fail)
  have HY:=Lib.hid (And.intro hw4 t4)
  clear hw4 t4 s4 hb2 hww2 hcu hkd hk
  cases B
  all_goals
   go_wp2_with fail
   go_ret
   obtain⟨hC2,s2,hR⟩:=HX.out
   obtain⟨hw4,t4⟩:=HY.out
   rw[hR]
   exact⟨rfl,ρ4,hC2.put_wld hw4 t4,s2.trans (t4.mono (fun r e=>e.c))⟩
 ·have t1:(se !=0)=true:=by simpa using he
  have HX:=Lib.hid (And.intro hC2 (And.intro s2 he))
  clear hC2 s2 he
  go_wp2_with fail
  go_ret
  obtain⟨hC2,s2,he⟩:=HX.out
  obtain⟨hR,hC1,hk2⟩:=H.out
  rw[if_pos he]at hR
  rw[hR]
  exact⟨rfl,ρ2,hC2,s2⟩
def TolP (ρ:Rl) (a:Ads) (cc m:Nat) (er:Int) (b:By) (C:Cch) (w:World) (e:Ending) (w':World):Prop:=
 ∃v,e=.returned (.agg #[.int .i64 er,v])/\∃ρ' ag',HasP (ρ' · =0) w' v b/\CchR ρ' w' a cc m ag' C/\Ste rtC ρ w ρ' w'
theorem told_end {ρ ρ':Rl}{w w':World}{a:Ads}{cc m ag g:Nat}{C:Cch}{x y:Value}(hB:Blk w' g 38 #[x,y]) (hz:ρ' g=0) (hg:w.heap.size<=g) (hC:CchR ρ' w' a cc m ag C) (hs:Ste rtC ρ w ρ' w') (u v:Value):
 Blk ((w'.setCell ⟨g,0,none⟩ u).setCell ⟨g,1,none⟩ v) g 38 [u,v].toArray/\CchR ρ' ((w'.setCell ⟨g,0,none⟩ u).setCell ⟨g,1,none⟩ v) a cc m ag C/\Ste rtC ρ w ρ' ((w'.setCell ⟨g,0,none⟩ u).setCell ⟨g,1,none⟩ v)/\w'.grownBy ((w'.setCell ⟨g,0,none⟩ u).setCell ⟨g,1,none⟩ v) (some g):=by
 have h2:=only_set2 w' g 0 1 u v
 refine⟨(hB.set_to 0 u (cs':=#[u,y]) rfl).set_to 1 v rfl,hC.keep h2.size (fun b hb e=>⟨h2.block b hb (fun c=>by injection c with c;rw[c,hz]at e;unfold rsC at e;omega),rfl⟩),⟨hs.ch.then_only h2 hg,hs.old,fun i hi=>hs.fresh i (Nat.le_trans h2.size hi)⟩,h2⟩
theorem told_nil {ρ ρ':Rl}{w w':World}{a:Ads}{cc m ag g:Nat}{C:Cch}{x y:Value}(hB:Blk w' g 38 #[x,y]) (hz:ρ' g=0) (hg:w.heap.size<=g) (hC:CchR ρ' w' a cc m ag C) (hs:Ste rtC ρ w ρ' w') (er:Int):
 TolP ρ a cc m er [] C w (.returned (.agg [.int .i64 er,.slice none 0 0].toArray)) ((w'.setCell ⟨g,0,none⟩ (.int .i64 er)).setCell ⟨g,1,none⟩ (.slice none 0 0)):=by
 obtain⟨_,h2,h3,_⟩:=told_end hB hz hg hC hs (.int .i64 er) (.slice none 0 0)
 exact⟨_,rfl,ρ',ag,.inl ⟨rfl,rfl⟩,h2,h3⟩
theorem told_yes {ρ ρ':Rl}{w w':World}{a:Ads}{cc m ag g:Nat}{C:Cch}{x y v:Value}{b:By}(hB:Blk w' g 38 #[x,y]) (hz:ρ' g=0) (hg:w.heap.size<=g) (hC:CchR ρ' w' a cc m ag C) (hs:Ste rtC ρ w ρ' w') (hv:HasP (fun i=>ρ' i=0/\i≠g) w' v b):
 TolP ρ a cc m 0 b C w (.returned (.agg [.int .i64 0,v].toArray)) ((w'.setCell ⟨g,0,none⟩ (.int .i64 0)).setCell ⟨g,1,none⟩ v):=by
 obtain⟨_,h2,h3,h4⟩:=told_end hB hz hg hC hs (.int .i64 0) v
 exact⟨_,rfl,ρ',ag,(hv.keep h4.size (fun i hi e=>h4.block i hi (fun c=>e.2 (by injection c)))).weak (fun i e=>e.1),h2,h3⟩
theorem boxes (w:World) (k l:Int) (v:Value):Below w.heap.size w ((w.alloc (.cells #[.int .i64 k,.int .i64 l,v] 34)).alloc (.cells #[.int .i64 0,.slice none 0 0] 38))/\Blk ((w.alloc (.cells #[.int .i64 k,.int .i64 l,v] 34)).alloc (.cells #[.int .i64 0,.slice none 0 0] 38)) w.heap.size 34 #[.int .i64 k,.int .i64 l,v]/\
 Blk ((w.alloc (.cells #[.int .i64 k,.int .i64 l,v] 34)).alloc (.cells #[.int .i64 0,.slice none 0 0] 38)) (w.heap.size+1) 38 #[.int .i64 0,.slice none 0 0]:=by
 refine⟨((Below.refl _ _).alloc (Nat.le_refl _) _).alloc (by simp) _,(Blk.new w 34 _).alloc _,?_⟩
 have:=Blk.new (w.alloc (.cells #[.int .i64 k,.int .i64 l,v] 34)) 38 #[.int .i64 0,.slice none 0 0]
 rw[World.size_alloc]at this
 exact this
set_option maxHeartbeats 2000000 in
set_option maxRecDepth 100000 in
theorem flush_ok (HS:SumOk) (HT:ShutOk) (ρ:Rl) (a:Ads) (cc m ag:Nat) (C:Cch) (k t:Nat) (kd l:Int) (Av:Option Addr) (n c:Nat) (w:World) (hf:Fresh ρ w) (h:CchR ρ w a cc m ag C) (hC:Cok C k t) (hk6:k<=500000):
 Calls Tryz.prog 74 #[.pointer (some ⟨cc,0,none⟩),.agg #[.int .i64 kd,.int .i64 l,.slice Av n c]] w (TolP ρ a cc m (ccommit C).1 [] (ccommit C).2 w):=by
 obtain⟨q1,b1,b2⟩:=boxes w kd l (.slice Av n c)
 obtain⟨W1,hW1⟩:∃W1,W1=(w.alloc (.cells #[.int .i64 kd,.int .i64 l,.slice Av n c] 34)).alloc (.cells #[.int .i64 0,.slice none 0 0] 38):=⟨_,rfl⟩
 rw[<-hW1]at q1 b1 b2
 have h1:=h.below_ q1
 have hf1:Fresh ρ W1:=fun i hi=>hf i (Nat.le_trans q1.size hi)
 have hcm:=ccm_ok HS HT ρ a cc m ag C k t W1 hf1 h1 hC (by omega)
 have hz:ρ (w.heap.size+1)=0:=hf _ (by omega)
 obtain⟨S,hS⟩:∃S,S=ccommit C:=⟨_,rfl⟩
 rw[<-hS]at hcm
 rw[<-hS]
 obtain⟨se,sC⟩:=S
 simp only at hcm ⊢
 have HW:=Lib.hid hW1
 have H:=Lib.hid (And.intro q1 b2)
 have b2l:=b2.lt
 clear h h1 hC hS hW1 q1 b1 b2
 go_enter Tryz.func74,Tryz.ntmps74
 go_wp2_with fail
 rw[<-HW.out]
 refine hcm.mono ?_
 rintro e w2 ⟨rfl,ρ2,hC2,s2⟩
 clear hcm
 obtain⟨q1,b2⟩:=H.out
 have b3:=b2.ste s2 (by rw[hz];exact rtC0)
 have hz2:=(s2.old _ b2l).trans hz
 have st:=(Ste.of_below (T:=rtC) q1 hf).trans s2
 have c0:=b3.cell_ 0 rfl
 have c1:=b3.cell_ 1 rfl
 have f0:=b3.frozen 0
 have f1:=b3.frozen 1
 have lb:=b3.lt
 have HF:=Lib.hid (And.intro b3 (And.intro hz2 (And.intro hC2 st)))
 clear q1 b2 b3 hz2 st hC2 s2
 go_wp2_with fail
 obtain⟨b3,hz2,hC2,st⟩:=HF.out
 exact ret_cell 4 38 (by rfl) (w.heap.size+1) 0 (by rfl) [.int .i64 se,.slice none 0 0] _ (told_end b3 hz2 (by omega) hC2 st _ _).1.range Tryz.underlying38 rfl sz38 rfl (told_nil b3 hz2 (by omega) hC2 st se)
set_option maxHeartbeats 4000000 in
set_option maxRecDepth 100000 in
theorem rotate_ok (HO:OpenOk) (HS:SumOk) (HT:ShutOk) (ρ:Rl) (a:Ads) (cc m ag:Nat) (C:Cch) (k t:Nat) (kd l:Int) (Av:Option Addr) (n c:Nat) (w:World) (hf:Fresh ρ w) (h:CchR ρ w a cc m ag C) (hC:Cok C k t) (hk6:k<=400000) (htw:C.tw):
 Calls Tryz.prog 76 #[.pointer (some ⟨cc,0,none⟩),.agg #[.int .i64 kd,.int .i64 l,.slice Av n c]] w (TolP ρ a cc m (crotate C).1 [] (crotate C).2 w):=by
 have hR:crotate C=if(ccommit C).1≠0 then ccommit C else if(cempty (ccommit C).2).1≠0 then cempty (ccommit C).2
  else if(spend (cempty (ccommit C).2).2.W.pow).2=false then(7,(cempty (ccommit C).2).2.wld (cempty (ccommit C).2).2.W.kadd)
  else cforget ((cempty (ccommit C).2).2.wld (cempty (ccommit C).2).2.W.kadd):=rfl
 have htw1:=tw_commit htw
 have herr:=cmt_err C.W C.M C.now
 have hn2:(ccommit C).1=0->C.W.kys.two=false:=fun e=>by
  rcases herr with⟨_,h1,h2,h3,_⟩|⟨h1,_⟩|⟨h1,_⟩
  ·cases hq:C.W.kys.two with
   |false=>rfl
   |true=>
    exfalso
    rcases htw hq with q|q
    ·exact h2 q
    ·have:=cmt_gone C.W C.M C.now q
     rw[h1]at this
     cases this
  ·exact absurd (e.symm.trans h1) (by decide)
  ·exact absurd (e.symm.trans h1) (by decide)
 obtain⟨q1,b1,b2⟩:=boxes w kd l (.slice Av n c)
 obtain⟨W1,hW1⟩:∃W1,W1=(w.alloc (.cells #[.int .i64 kd,.int .i64 l,.slice Av n c] 34)).alloc (.cells #[.int .i64 0,.slice none 0 0] 38):=⟨_,rfl⟩
 rw[<-hW1]at q1 b1 b2
 have h1:=h.below_ q1
 have hf1:Fresh ρ W1:=fun i hi=>hf i (Nat.le_trans q1.size hi)
 have hcm:=ccm_ok HS HT ρ a cc m ag C k t W1 hf1 h1 hC (by omega)
 have hz:ρ (w.heap.size+1)=0:=hf _ (by omega)
 have hC1:=hC.commit (by omega)
 have hkk:(ccommit C).2.W.kys=C.W.kys:=(cmt_same C.W C.M C.now).2.1
 have hem:=cempty_now (ccommit C).2
 have hCe:=hC1.empty
 obtain⟨R,hRR⟩:∃R,R=crotate C:=⟨_,rfl⟩
 rw[<-hRR]at hR
 rw[<-hRR]
 obtain⟨S,hS⟩:∃S,S=ccommit C:=⟨_,rfl⟩
 rw[<-hS]at hcm hR hn2 hC1 hkk hem hCe
 obtain⟨se,sC⟩:=S
 simp only at hcm hR hn2 hC1 hkk hem hCe
 obtain⟨E,hE⟩:∃E,E=cempty sC:=⟨_,rfl⟩
 rw[<-hE]at hR hem hCe
 have HW:=Lib.hid hW1
 have H:=Lib.hid (And.intro q1 b2)
 have HH:=Lib.hid (And.intro hR (And.intro hn2 (And.intro hC1 (And.intro hkk (And.intro hem (And.intro hCe hE))))))
 have b2l:=b2.lt
 clear h h1 hC hS hW1 q1 b1 b2 hR hn2 hC1 hkk hem hCe hRR hE herr htw htw1
 go_enter Tryz.func76,Tryz.ntmps76
 go_wp2_with fail
 rw[<-HW.out]
 refine hcm.mono ?_
 rintro e w2 ⟨rfl,ρ2,hC2,s2⟩
 clear hcm
 obtain⟨q1,b2⟩:=H.out
 have b3:=b2.ste s2 (by rw[hz];exact rtC0)
 have hz2:=(s2.old _ b2l).trans hz
 have st:=(Ste.of_below (T:=rtC) q1 hf).trans s2
 by_cases he:se=0
 ·subst he
  obtain⟨hR,hn2,hC1,hkk,hem,hCe,hE⟩:=HH.out
  simp only[ne_eq,not_true_eq_false,if_false]at hR
  have hem':=empty_ok HO ρ2 a cc m ag sC (k+50) t w2 s2.fresh hC2 hC1 (by omega)
  rw[<-hE]at hem'
  obtain⟨ee,eC⟩:=E
  simp only at hR hem hCe hem'
  have b3l:=b3.lt
  have HF:=Lib.hid (And.intro b3 (And.intro hz2 (And.intro st (And.intro hR (And.intro (hn2 (by first|rfl|trivial)) (And.intro hkk (And.intro hem hCe)))))))
  clear q1 b2 b3 hz2 st hC2 s2 hR hn2 hC1 hkk hem hCe hE
  go_wp2_with fail
  refine hem'.mono ?_
  rintro e w3 ⟨rfl,ρ3,ag3,hC3,s3⟩
  clear hem'
  obtain⟨b3,hz2,st,hR,hn2,hkk,hem,hCe⟩:=HF.out
  have b4:=b3.ste s3 (by rw[hz2];exact rtC0)
  have hz3:=(s3.old _ b3l).trans hz2
  have st3:=st.trans s3
  by_cases hee:ee=0
  ·subst hee
   simp only[not_true_eq_false,if_false]at hR
   have htwo:eC.W.kys.two=false:=by rw[hem.2.2.1,hkk];exact hn2
   have hka:=wkadd_ok ρ3 a eC.W w3 s3.fresh hC3.wld htwo (by have:=hCe.fit.kys;omega)
   have hC3':=hC3
   obtain⟨vn3,vw3,hb3,hcc3,hw3,_⟩:=hC3'
   have c0:=hb3.cell_ 0 rfl
   have c5:=hw3.1.cell_ 5 rfl
   have lc3:=hb3.lt
   have lw3:=hw3.1.lt
   obtain⟨B,hB⟩:∃B,B=(spend eC.W.pow).2:=⟨_,rfl⟩
   rw[<-hB]at hka hR
   have b4l:=b4.lt
   have HG:=Lib.hid (And.intro b4 (And.intro hz3 (And.intro st3 (And.intro hR (And.intro hC3 (And.intro hCe hB))))))
   clear b3 hz2 st hR hn2 hkk hem hCe b4 hz3 st3 hC3 s3 hb3 hw3 htwo hB
   cases B with
   |false=>
    go_wp2_with fail
    refine hka.mono ?_
    rintro e w4 ⟨rfl,ρ4,hw4,s4⟩
    obtain⟨b4,hz3,st3,hR,hC3,hCe,hB⟩:=HG.out
    have b5:=b4.ste s4 (by rw[hz3];exact rtW0)
    have hz4:=(s4.old _ b4l).trans hz3
    have hC4:=hC3.put_wld hw4 s4
    have st4:=st3.trans (s4.mono (T':=rtC) (fun r e=>e.c))
    rw[if_pos (by first|rfl|trivial)]at hR
    have d0:=b5.cell_ 0 rfl
    have d1:=b5.cell_ 1 rfl
    have f0:=b5.frozen 0
    have f1:=b5.frozen 1
    have lb:=b5.lt
    have HK:=Lib.hid (And.intro b5 (And.intro hz4 (And.intro hC4 (And.intro st4 hR))))
    clear hka c0 c5 hw4 s4 b4 hz3 st3 hR hC3 hCe hB b5 hz4 hC4 st4
    go_wp2_with fail
    obtain⟨b5,hz4,hC4,st4,hR⟩:=HK.out
    rw[hR]
    exact ret_cell 4 38 (by rfl) (w.heap.size+1) 0 (by rfl) [.int .i64 7,.slice none 0 0] _ (told_end b5 hz4 (by omega) hC4 st4 _ _).1.range Tryz.underlying38 rfl sz38 rfl (told_nil b5 hz4 (by omega) hC4 st4 7)
   |true=>
    go_wp2_with fail
    refine hka.mono ?_
    rintro e w4 ⟨rfl,ρ4,hw4,s4⟩
    obtain⟨b4,hz3,st3,hR,hC3,hCe,hB⟩:=HG.out
    have b5:=b4.ste s4 (by rw[hz3];exact rtW0)
    have hz4:=(s4.old _ b4l).trans hz3
    have hC4:=hC3.put_wld hw4 s4
    have st4:=st3.trans (s4.mono (T':=rtC) (fun r e=>e.c))
    rw[if_neg (by simp)]at hR
    have hfo:=forget_ok HS HT ρ4 a cc m ag3 (eC.wld eC.W.kadd) (k+83) t w4 s4.fresh hC4 (hCe.kadd.mono (by omega) (Nat.le_refl _)) (by omega) (by
     show(if(spend eC.W.pow).2 then(⟨eC.W.kys.seed,eC.W.kys.a,true⟩:Kys)else eC.W.kys).two=true
     rw[<-hB]
     rfl)
    rw[<-hR]at hfo
    have b5l:=b5.lt
    have HK:=Lib.hid (And.intro b5 (And.intro hz4 st4))
    clear hka c0 c5 hw4 s4 b4 hz3 st3 hR hC3 hCe hB b5 hz4 hC4 st4
    go_wp2_with fail
    refine hfo.mono ?_
    rintro e w6 ⟨rfl,ρ6,hC6,s6⟩
    obtain⟨b5,hz4,st4⟩:=HK.out
    have b7:=b5.ste s6 (by rw[hz4];exact rtC0)
    have hz6:=(s6.old _ b5l).trans hz4
    have st6:=st4.trans s6
    have d0:=b7.cell_ 0 rfl
    have d1:=b7.cell_ 1 rfl
    have f0:=b7.frozen 0
    have f1:=b7.frozen 1
    have lb:=b7.lt
    have HV:=Lib.hid (And.intro b7 (And.intro hz6 (And.intro hC6 st6)))
    clear hfo b5 hz4 st4 b7 hz6 st6 hC6 s6
    go_wp2_with fail
    obtain⟨b7,hz6,hC6,st6⟩:=HV.out
    exact ret_cell 4 38 (by rfl) (w.heap.size+1) 0 (by rfl) [.int .i64 R.1,.slice none 0 0] _ (told_end b7 hz6 (by omega) hC6 st6 _ _).1.range Tryz.underlying38 rfl sz38 rfl (told_nil b7 hz6 (by omega) hC6 st6 R.1)
  ·have t1:(ee !=0)=true:=by simpa using hee
   rw[if_pos hee]at hR
   have c0:=b4.cell_ 0 rfl
   have c1:=b4.cell_ 1 rfl
   have f0:=b4.frozen 0
   have f1:=b4.frozen 1
   have lb:=b4.lt
   have HK:=Lib.hid (And.intro b4 (And.intro hz3 (And.intro hC3 (And.intro st3 hR))))
   clear b3 hz2 st hR hn2 hkk hem hCe b4 hz3 st3 hC3 s3 hee
   go_wp2_with fail
   obtain⟨b4,hz3,hC3,st3,hR⟩:=HK.out
   rw[hR]
   exact ret_cell 4 38 (by rfl) (w.heap.size+1) 0 (by rfl) [.int .i64 ee,.slice none 0 0] _ (told_end b4 hz3 (by omega) hC3 st3 _ _).1.range Tryz.underlying38 rfl sz38 rfl (told_nil b4 hz3 (by omega) hC3 st3 ee)
 ·have t1:(se !=0)=true:=by simpa using he
  obtain⟨hR,_⟩:=HH.out
  rw[if_pos he]at hR
  have c0:=b3.cell_ 0 rfl
  have c1:=b3.cell_ 1 rfl
  have f0:=b3.frozen 0
  have f1:=b3.frozen 1
  have lb:=b3.lt
  have HK:=Lib.hid (And.intro b3 (And.intro hz2 (And.intro hC2 (And.intro st hR))))
  clear q1 b2 b3 hz2 st hC2 s2 hR he
  go_wp2_with fail
  obtain⟨b3,hz2,hC2,st,hR⟩:=HK.out
  rw[hR]
  exact ret_cell 4 38 (by rfl) (w.heap.size+1) 0 (by rfl) [.int .i64 se,.slice none 0 0] _ (told_end b3 hz2 (by omega) hC2 st _ _).1.range Tryz.underlying38 rfl sz38 rfl (told_nil b3 hz2 (by omega) hC2 st se)
end Go.Proofs.YtggmdjdflaglpaaGreat
