/- The cache: lay. -/
import Derived.Test.YtggmdjdflaglpaaGreatR27
namespace Go.Proofs.YtggmdjdflaglpaaGreat
open Go.RowKit Go.Proofs.YtggmdjdflaglpaaGreat.geo
set_option linter.unusedVariables false
theorem HasP.steN {T:Nat->Prop}{ρ ρ':Rl}{w w':World}{v:Value}{l:By}(h:HasP (fun b=>¬T (ρ b)) w v l) (hs:Ste T ρ w ρ' w'):HasP (fun b=>¬T (ρ' b)) w' v l:=
 ((h.weakB (q:=fun b=>¬T (ρ b)/\¬T (ρ' b)) (fun b hb e=>⟨e,by rw[hs.old b hb];exact e⟩)).keep hs.size (fun b hb e=>hs.ch.keep b hb e.1)).weak (fun b e=>e.2)
theorem s7l {w:World}{cc wl l g1 g2:Nat}{c1 c2 c3 c4 c5 x0 x1 x2 x3 x4 x5:Value}{ka kb ne ns nr:Int}(b:Blk w cc 107 #[.pointer (some ⟨wl,0,none⟩),c1,c2,c3,c4,c5]) (b0:Blk w wl 70 #[x0,x1,x2,x3,x4,x5,.pointer (some ⟨l,0,none⟩)]) (b1:Blk w g1 101 #[.int .u64 ka,.int .u64 kb]) (b2:Blk w g2 99 #[.int .u32 ne,.int .u32 ns,.int .u64 nr]):
 w.cell? ⟨cc,0,none⟩=some (.pointer (some ⟨wl,0,none⟩))/\w.cell? ⟨wl,6,none⟩=some (.pointer (some ⟨l,0,none⟩))/\w.cell? ⟨g1,0,none⟩=some (.int .u64 ka)/\w.cell? ⟨g1,1,none⟩=some (.int .u64 kb)/\w.cell? ⟨g2,0,none⟩=some (.int .u32 ne)/\w.cell? ⟨g2,1,none⟩=some (.int .u32 ns)/\w.cell? ⟨g2,2,none⟩=some (.int .u64 nr):=
 ⟨b.cell_ 0 rfl,b0.cell_ 6 rfl,b1.cell_ 0 rfl,b1.cell_ 1 rfl,b2.cell_ 0 rfl,b2.cell_ 1 rfl,b2.cell_ 2 rfl⟩
theorem s4l {w:World}{cc wl sa n m x:Nat}{v u1 u2 x1 x2 x3 x4 x5 y1 y3 y4 y5 y6:Value}(hn:n=m) (b:Blk w cc 107 #[.pointer (some ⟨wl,0,none⟩),x1,x2,x3,x4,x5]) (b2:Blk w wl 70 #[.int .i64 m,y1,.pointer (some ⟨sa,0,none⟩),y3,y4,y5,y6]) (b3:Blk w x 157 #[v,u1,u2]):
 w.cell? ⟨cc,0,none⟩=some (.pointer (some ⟨wl,0,none⟩))/\w.cell? ⟨wl,2,none⟩=some (.pointer (some ⟨sa,0,none⟩))/\w.cell? ⟨wl,0,none⟩=some (.int .i64 n)/\w.cell? ⟨x,0,none⟩=some v:=⟨b.cell_ 0 rfl,b2.cell_ 2 rfl,by rw[hn];exact b2.cell_ 0 rfl,b3.cell_ 0 rfl⟩
theorem sets8' (w:World) (x:Nat) (a b c d e f g h:Value):((((((((w.setCell ⟨x,0,none⟩ a).setCell ⟨x,1,none⟩ b).setCell ⟨x,2,none⟩ c).setCell ⟨x,3,none⟩ d).setCell ⟨x,4,none⟩ e).setCell ⟨x,5,none⟩ f).setCell ⟨x,6,none⟩ g).setCell ⟨x,7,none⟩ h)=w.setCells x 0 [a,b,c,d,e,f,g,h]:=rfl
def zleaf:Array Value:=#[.int .i64 0,.bool false,.int .i64 0,.int .u32 0,.int .u32 0,.int .u64 0,.int .u64 0,.int .u64 0]
def LayP (ρ:Rl) (a:Ads) (cc m ag s:Nat) (R:Int×Lf×Cch) (w:World) (e:Ending) (w':World):Prop:=
 e=.returned (.tuple #[.int .i64 (if R.1=0 then(s:Int)else-1),lfv R.2.1,.int .i64 R.1])/\∃ρ',CchR ρ' w' a cc m ag R.2.2/\Ste rtC ρ w ρ' w'
structure Lz (ρ:Rl) (w:World) (a:Ads) (cc m ag g2 x:Nat) (C:Cch) (ne ns nr:Int) (v:Value) (ob:By) (oa oc:Int) (ρ':Rl) (w':World):Prop where
 bx:Blk w' x 157 #[v,.int .u64 oa,.int .u64 oc]
 ch:CchR ρ' w' a cc m ag C
 bn:Blk w' g2 99 #[.int .u32 ne,.int .u32 ns,.int .u64 nr]
 br:Blk w' w.heap.size 103 #[.int .i64 0,.bool false,.int .i64 0,.int .u32 0,.int .u32 0,.int .u64 0,.int .u64 0,.int .u64 0]
 ov:HasP (ρ' · =0) w' v ob
 st:Ste rtC ρ w ρ' w'
 zr:ρ' w.heap.size=0
 zn:ρ' g2=0
 zx:ρ' x=0
theorem Lz.of_alloc {ρ:Rl}{w:World}{a:Ads}{cc m ag g2:Nat}{C:Cch}{ne ns nr:Int}{v:Value}{ob:By}{oa oc:Int}{ρ':Rl}{w':World}
 (ch:CchR ρ' w' a cc m ag C) (bn:Blk w' g2 99 #[.int .u32 ne,.int .u32 ns,.int .u64 nr]) (br:Blk w' w.heap.size 103 #[.int .i64 0,.bool false,.int .i64 0,.int .u32 0,.int .u32 0,.int .u64 0,.int .u64 0,.int .u64 0]) (ov:HasP (ρ' · =0) w' v ob) (st:Ste rtC ρ w ρ' w') (zr:ρ' w.heap.size=0) (zn:ρ' g2=0):
 Lz ρ w a cc m ag g2 w'.heap.size C ne ns nr v ob oa oc ρ' (w'.alloc (.cells #[v,.int .u64 oa,.int .u64 oc] 157)):=
 ⟨Blk.new w' 157 _,ch.alloc _,bn.alloc _,br.alloc _,ov.alloc _,st.trans (Ste.of_below ((Below.refl _ _).alloc (Nat.le_refl _) _) st.fresh),zr,zn,st.fresh _ (Nat.le_refl _)⟩
theorem Lz.of_set {ρ:Rl}{w:World}{a:Ads}{cc m ag g2 x:Nat}{C:Cch}{ne ns nr:Int}{v:Value}{ob:By}{oa oc:Int}{ρ':Rl}{w':World}{z0 z1 z2:Value}
 (bx:Blk w' x 157 #[z0,z1,z2]) (hz:ρ' x=0) (hx:w.heap.size<x) (hg:g2≠x) (ch:CchR ρ' w' a cc m ag C) (bn:Blk w' g2 99 #[.int .u32 ne,.int .u32 ns,.int .u64 nr]) (br:Blk w' w.heap.size 103 #[.int .i64 0,.bool false,.int .i64 0,.int .u32 0,.int .u32 0,.int .u64 0,.int .u64 0,.int .u64 0])
 (ov:HasP (fun b=>ρ' b=0/\b≠x) w' v ob) (st:Ste rtC ρ w ρ' w') (zr:ρ' w.heap.size=0) (zn:ρ' g2=0):
 Lz ρ w a cc m ag g2 x C ne ns nr v ob oa oc ρ' (((w'.setCell ⟨x,0,none⟩ v).setCell ⟨x,1,none⟩ (.int .u64 oa)).setCell ⟨x,2,none⟩ (.int .u64 oc)):=by
 have g:=only_set3 w' x v (.int .u64 oa) (.int .u64 oc)
 have hk:∀b,b<w'.heap.size->b≠x->_:=fun b hb e=>g.block b hb (fun c=>e (by injection c))
 refine⟨((bx.set_to 0 v (cs':=#[v,z1,z2]) rfl).set_to 1 _ (cs':=#[v,.int .u64 oa,z2]) rfl).set_to 2 _ rfl,ch.keep g.size (fun b hb e=>⟨hk b hb (fun c=>by rw[c,hz]at e;unfold rsC at e;omega),rfl⟩),
  bn.far3 hg _ _ _,br.far3 (by omega) _ _ _,(ov.keep g.size (fun b hb e=>hk b hb e.2)).weak (fun b e=>e.1),?_,zr,zn,hz⟩
 exact⟨st.ch.then_only g (by omega),st.old,fun i hi=>st.fresh i (Nat.le_trans g.size hi)⟩
set_option maxHeartbeats 16000000 in
set_option maxRecDepth 100000 in
theorem lay_full (ρ:Rl) (a:Ads) (cc m ag:Nat) (C:Cch) (k t s x:Nat) (vd:Value) (data:By) (d:Bool) (w:World) (hf:Fresh ρ w) (h:CchR ρ w a cc m ag C) (hC:Cok C k t) (hk6:k<=600000) (hs:free C=(s:Int)) (hsl:s<C.now.length) (hM:C.M.n=100) (hv:HasP (fun b=>¬rtC (ρ b)) w vd data):
 Calls Tryz.prog 118 #[.pointer (some ⟨cc,0,none⟩),.int .i64 x,vd,.bool d] w (LayP ρ a cc m ag s (clay C s x data d) w):=by
 have hR:clay C s x data d=(6,Lf.no,C):=by unfold clay;rw[if_pos hM]
 rw[hR]
 have hn16:=hC.n16
 have hfr:=fun W' hh=>free_ok ρ a cc m ag C W' hh (by rw[hC.wl,hC.nl]) hn16.2
 have hky:=fun W' hh=>wkey_ok ρ a C.W W' hh
 have hnx:=fun W' hh=>mnext_no ρ m C.M C.W.kys.cur s W' hh hM (by omega)
 rw[hs]at hfr
 unfold pv at hky
 obtain⟨K,hK⟩:∃K,K=C.W.curKey:=⟨_,rfl⟩
 rw[<-hK]at hky
 obtain⟨ka,kb⟩:=K
 obtain⟨cu,hcu⟩:∃cu,cu=C.W.kys.cur:=⟨_,rfl⟩
 rw[<-hcu]at hky hnx
 obtain⟨Av,cv,rfl⟩:=hv.slice
 obtain⟨dl,hdl⟩:∃dl,dl=data.length:=⟨_,rfl⟩
 rw[<-hdl]
 simp only at hky
 have hfin:∀W',Below w.heap.size w W'->LayP ρ a cc m ag s (6,Lf.no,C) w (.returned (.tuple #[.int .i64 (-1),lfv Lf.no,.int .i64 6])) W':=fun W' q=>⟨rfl,ρ,h.below_ q,Ste.of_below q hf⟩
 have hB:Blk (w.alloc (.cells #[.int .i64 0,.bool false,.int .i64 0,.int .u32 0,.int .u32 0,.int .u64 0,.int .u64 0,.int .u64 0] 103)) w.heap.size 103 #[.int .i64 0,.bool false,.int .i64 0,.int .u32 0,.int .u32 0,.int .u64 0,.int .u64 0,.int .u64 0]:=Blk.new w 103 _
 have hbw:Below w.heap.size w (w.alloc (.cells #[.int .i64 0,.bool false,.int .i64 0,.int .u32 0,.int .u32 0,.int .u64 0,.int .u64 0,.int .u64 0] 103)):=(Below.refl _ _).alloc (Nat.le_refl _) _
 have h1:=h.below_ hbw
 obtain⟨W1,hW1⟩:∃W1,W1=w.alloc (.cells #[.int .i64 0,.bool false,.int .i64 0,.int .u32 0,.int .u32 0,.int .u64 0,.int .u64 0,.int .u64 0] 103):=⟨_,rfl⟩
 rw[<-hW1]at hB hbw h1
 have hf1:=hfr W1 h1
 have hk1:=hky W1 h1.wld
 have h1':=h1
 obtain⟨vn,vw,hb,_⟩:=h1'
 have c0:=hb.cell_ 0 rfl
 have lc:=hb.lt
 have HW:=Lib.hid hW1
 have H:=Lib.hid (And.intro hbw (And.intro h1 hB))
 have HF:=Lib.hid hfin
 clear h hC hs hsl hM hv hR hfr hky hK hcu hdl hb hbw h1 hB hW1 hn16 hfin
 go_enter Tryz.func118,Tryz.ntmps118
 go_wp2_with fail
 rw[<-HW.out]
 refine hf1.mono ?_
 rintro e w2 ⟨rfl,rfl⟩
 clear hf1
 go_wp2_with fail
 refine hk1.mono ?_
 rintro e w2 ⟨rfl,q2⟩
 clear hk1
 obtain⟨hbw,h1,hB⟩:=H.out
 have hw2:=hbw.trans (q2.mono hbw.size)
 have q3:Below w2.heap.size w2 (w2.alloc (.cells #[.int .u64 ka,.int .u64 kb] 101)):=(Below.refl _ _).alloc (Nat.le_refl _) _
 have hw3:=hw2.trans (q3.mono hw2.size)
 have h3:=(h1.below_ q2).below_ q3
 have hB3:=(hB.below_ q2).below_ q3
 have hx3:=hnx _ h3.mkr
 have h2':=h1.below_ q2
 obtain⟨vn2,vw2,hb2,_⟩:=h2'
 have c1:=hb2.cell_ 1 rfl
 have lc2:=hb2.lt
 have HX:=Lib.hid (And.intro hw3 hB3)
 clear hbw h1 hB hw2 q3 hw3 h3 hB3 hb2 c0 lc hnx q2
 go_wp2_with fail
 refine hx3.mono ?_
 rintro e w4 ⟨rfl,q4⟩
 clear hx3 c1 lc2
 obtain⟨hw3,hB3⟩:=HX.out
 have hB4:=hB3.below_ q4
 have hw4:=hw3.trans (q4.mono hw3.size)
 have hB5:=hB4.alloc (.cells #[.int .u32 0,.int .u32 0,.int .u64 0] 99)
 have hw5:=hw4.alloc hw4.size (.cells #[.int .u32 0,.int .u32 0,.int .u64 0] 99)
 have ht:(w4.alloc (.cells #[.int .u32 0,.int .u32 0,.int .u64 0] 99)).there w.heap.size 0 (#[.int .i64 0,.bool false,.int .i64 0,.int .u32 0,.int .u32 0,.int .u64 0,.int .u64 0,.int .u64 0]:Array Value).size:=hB5.there_ (cs:=lfc Lf.no) rfl
 have sz8:(Tryz.prog.info? 103).map (·.size)=some (#[.int .i64 0,.bool false,.int .i64 0,.int .u32 0,.int .u32 0,.int .u64 0,.int .u64 0,.int .u64 0]:Array Value).size:=sz103
 have hone:(#[.int .i64 0,.bool false,.int .i64 0,.int .u32 0,.int .u32 0,.int .u64 0,.int .u64 0,.int .u64 0]:Array Value).all (·.oneCell')=true:=lfc_one Lf.no
 have hw6:=below_only hw5 (r27.only_setCells (lfc Lf.no) 0 _ (only_refl _ (some w.heap.size))) hw5.size (Nat.le_refl _)
 have hB6:=Blk.whole (cs:=lfc Lf.no) (vs:=lfc Lf.no) hB5 rfl
 have hfin:=Lib.hid (And.intro (HF.out _ hw6) hB6)
 obtain⟨W6,hW6⟩:∃W6,W6=(w4.alloc (.cells #[.int .u32 0,.int .u32 0,.int .u64 0] 99)).setCells w.heap.size 0 (lfc Lf.no):=⟨_,rfl⟩
 have hW6':(w4.alloc (.cells #[.int .u32 0,.int .u32 0,.int .u64 0] 99)).setCells w.heap.size 0 (#[.int .i64 0,.bool false,.int .i64 0,.int .u32 0,.int .u32 0,.int .u64 0,.int .u64 0,.int .u64 0]:Array Value).toList=W6:=hW6.symm
 rw[<-hW6]at hfin
 have HW6:=Lib.hid hW6'
 clear hB3 hB4 hB5 hw3 hw4 hw5 hw6 hB6 q4 hW6 hW6'
 go_wp2_with ((with_reducible refine wpList_store_mid rfl 103 _ _ rfl w.heap.size 0 #[.int .i64 0,.bool false,.int .i64 0,.int .u32 0,.int .u32 0,.int .u64 0,.int .u64 0,.int .u64 0] rfl rfl ht sz8 hone ?_);rw[HW6.out])
 exact ret_tmp_cell_tmp 8 9 103 10 (by rfl) w.heap.size 0 (by rfl) (.int .i64 (-1)) (by rfl) (.int .i64 6) (by rfl) (lfc Lf.no) _ hfin.out.2.range Tryz.underlying103 rfl sz103 rfl hfin.out.1
set_option maxHeartbeats 32000000 in
set_option maxRecDepth 100000 in
theorem lay_go (HT:ShutOk) (ρ:Rl) (a:Ads) (cc m ag:Nat) (C:Cch) (k t s x:Nat) (vd:Value) (data:By) (d:Bool) (w:World) (hf:Fresh ρ w) (h:CchR ρ w a cc m ag C) (hC:Cok C k t) (hk6:k<=600000) (hs:free C=(s:Int)) (hsl:s<C.now.length) (hx:x<32) (hM:C.M.n≠100) (hv:HasP (fun b=>¬rtC (ρ b)) w vd data) (hd:data.length=32):
 Calls Tryz.prog 118 #[.pointer (some ⟨cc,0,none⟩),.int .i64 x,vd,.bool d] w (LayP ρ a cc m ag s (clay C s x data d) w):=by
 have hR:clay C s x data d=if(spend C.W.pow).2=false then(7,Lf.no,lcch C s x data)else(0,lleaf C s x data d,lcch C s x data):=by unfold clay;rw[if_neg hM]
 have hn16:=hC.n16
 have hV:=hC.fit.geo
 have hmk:=h.mkr.2.2
 have hfr0:=fun W' hh=>free_ok ρ a cc m ag C W' hh (by rw[hC.wl,hC.nl]) hn16.2
 have hky:=fun W' hh=>wkey_ok ρ a C.W W' hh
 have hno:=lnce_ok hC (by omega) (s:=s) (by omega)
 have hnx:=fun W' h0 hh=>mnext_ok ρ m C.M C.W.kys.cur s W' h0 hh (by have:=hmk.1;omega) (by have:=C.W.kys.cur_le (Nat.le_trans hC.fit.kys (by omega));omega) (by omega)
 have hhd:=fun W'=>head_ok x W' hx
 have hcv:=hC.fit.ssd
 have hlim:=hC.fit.lk
 have hsl2:(lsh C s x data).1.length=32:=Lk.shut_len _ _ _ _ _ hd
 have hin:=lin_ok hC hsl _ hsl2
 have hnl:=hC.nl
 have hsh:=fun W' vh h1 h2 h3 hd'=>wshut_ok ρ a C.W W' HT (fun _=>True) (fun b=>¬rtC (ρ b)) C.W.curKey (lnce C s) vh (headB x) vd data h1 h2 (curKey_u hC (by omega)) hno h3 hd' (by simp[headB,putB_len]) hd (Lk.lim_mono hC.fit.lk (by omega))
 rw[hs]at hfr0
 unfold pv at hky
 unfold pv nv at hsh
 have hot:lsh C s x data=C.W.lk.shut C.W.curKey (lnce C s) (headB x) data:=rfl
 rw[<-hot]at hsh
 obtain⟨ot,hot'⟩:∃ot,ot=lsh C s x data:=⟨_,rfl⟩
 rw[<-hot']at hsh hsl2 hin
 obtain⟨LK,hLK⟩:∃LK,LK=C.W.lk.shutd C.W.curKey (lnce C s) (headB x) data:=⟨_,rfl⟩
 rw[<-hLK]at hsh
 obtain⟨K,hK⟩:∃K,K=C.W.curKey:=⟨_,rfl⟩
 rw[<-hK]at hky hsh
 obtain⟨ka,kb⟩:=K
 obtain⟨N,hN⟩:∃N,N=lnce C s:=⟨_,rfl⟩
 have hN':C.M.nonce C.W.kys.cur s=N:=hN.symm
 rw[hN']at hnx
 rw[<-hN]at hsh hno
 unfold nv at hnx
 obtain⟨ne,ns,nr⟩:=N
 obtain⟨ob,oa,oc⟩:=ot
 obtain⟨cu,hcu⟩:∃cu,cu=C.W.kys.cur:=⟨_,rfl⟩
 rw[<-hcu]at hky hnx
 simp only at hky hnx hsh hsl2 hin
 obtain⟨Av,cv,hvd⟩:=hv.slice
 rw[hd]at hvd
 subst hvd
 have HN:=Lib.hid (And.intro hR (And.intro hot' (And.intro hLK (And.intro hN (And.intro hcu (And.intro hsl2 (And.intro hin (And.intro hnl (And.intro hC (And.intro hV hM))))))))))
 have hB:Blk (w.alloc (.cells #[.int .i64 0,.bool false,.int .i64 0,.int .u32 0,.int .u32 0,.int .u64 0,.int .u64 0,.int .u64 0] 103)) w.heap.size 103 #[.int .i64 0,.bool false,.int .i64 0,.int .u32 0,.int .u32 0,.int .u64 0,.int .u64 0,.int .u64 0]:=Blk.new w 103 _
 have hbw:Below w.heap.size w (w.alloc (.cells #[.int .i64 0,.bool false,.int .i64 0,.int .u32 0,.int .u32 0,.int .u64 0,.int .u64 0,.int .u64 0] 103)):=(Below.refl _ _).alloc (Nat.le_refl _) _
 have h1:=h.below_ hbw
 obtain⟨W1,hW1⟩:∃W1,W1=w.alloc (.cells #[.int .i64 0,.bool false,.int .i64 0,.int .u32 0,.int .u32 0,.int .u64 0,.int .u64 0,.int .u64 0] 103):=⟨_,rfl⟩
 rw[<-hW1]at hB hbw h1
 have hf1:=hfr0 W1 h1
 have hk1:=hky W1 h1.wld
 have h1':=h1
 obtain⟨vn,vw,hb,_⟩:=h1'
 have c0:=hb.cell_ 0 rfl
 have lc:=hb.lt
 have HW:=Lib.hid hW1
 have hfr:∀b,w.heap.size<=b->ρ b=0:=hf
 have H:=Lib.hid (And.intro hbw (And.intro h1 (And.intro hB hv)))
 have HS:=Lib.hid (show s<C.W.slots by rw[<-hnl];exact hsl)
 clear h hC hs hsl hM hv hR hfr0 hky hK hcu hb hbw h1 hB hW1 hn16 hV hmk hno hcv hlim hsl2 hin hnl hot hot' hLK hN hN' hd
 go_enter Tryz.func118,Tryz.ntmps118
 go_wp2_with fail
 rw[<-HW.out]
 refine hf1.mono ?_
 rintro e w2 ⟨rfl,rfl⟩
 clear hf1
 go_wp2_with fail
 refine hk1.mono ?_
 rintro e w2 ⟨rfl,q2⟩
 clear hk1
 obtain⟨hbw,h1,hB,hv⟩:=H.out
 have hw2:=hbw.trans (q2.mono hbw.size)
 have h2:=h1.below_ q2
 obtain⟨W3,hW3⟩:∃W3,W3=w2.alloc (.cells #[.int .u64 ka,.int .u64 kb] 101):=⟨_,rfl⟩
 obtain⟨g1,hg1⟩:∃g1,g1=w2.heap.size:=⟨_,rfl⟩
 have q3:Below w2.heap.size w2 W3:=by rw[hW3];exact(Below.refl _ _).alloc (Nat.le_refl _) _
 have hw3:=hw2.trans (q3.mono hw2.size)
 have h3:=h2.below_ q3
 have hK3:Blk W3 g1 101 #[.int .u64 ka,.int .u64 kb]:=by rw[hW3,hg1];exact Blk.new w2 101 _
 have hz1:ρ g1=0:=hfr _ (by rw[hg1];exact hw2.size)
 have hf3:Fresh ρ W3:=fun i hi=>hfr i (Nat.le_trans hw3.size hi)
 have hx3:=hnx W3 hf3 h3.mkr
 obtain⟨vn2,vw2,hb2,_⟩:=h2
 have c1:=hb2.cell_ 1 rfl
 have lc2:=hb2.lt
 have hB3:=(hB.below_ q2).below_ q3
 have hv3:=(hv.below_ hbw).below_ (q2) |>.below_ q3
 have HX:=Lib.hid (And.intro hw3 (And.intro h3 (And.intro hB3 (And.intro hv3 hK3))))
 have HW3:=Lib.hid (And.intro hW3 hg1)
 clear hbw h1 hB hv hw2 q3 hw3 h3 hB3 hb2 c0 lc hnx q2 hv3 hK3 hf3 hW3 hg1
 go_wp2_with fail
 rw[<-HW3.out.1,<-HW3.out.2]
 refine hx3.mono ?_
 rintro e w4 ⟨rfl,hm4,s4⟩
 clear hx3 c1 lc2
 obtain⟨hw3,h3,hB3,hv3,hK3⟩:=HX.out
 have t4:Ste rtLog ρ W3 ρ w4:=s4.mono (fun r e=>.inr e)
 have hC4:=h3.put_log (h3.wld.ste s4 (fun r e c=>by rw[e]at c;unfold rsW at c;revert c;decide)) hm4 t4
 have hB4:=hB3.ste t4 (by rw[hfr _ (Nat.le_refl _)];unfold rtLog rtW;decide)
 have hK4:=hK3.ste t4 (by rw[hz1];unfold rtLog rtW;decide)
 have hv4:=hv3.steN (t4.mono (fun r e=>e.c))
 have st4:Ste rtC ρ w ρ w4:=(Ste.of_below hw3 hf).trans (t4.mono (fun r e=>e.c))
 clear hw3 h3 hB3 hv3 hK3 s4 t4 hm4
 obtain⟨W5,hW5⟩:∃W5,W5=w4.alloc (.cells #[.int .u32 ne,.int .u32 ns,.int .u64 nr] 99):=⟨_,rfl⟩
 obtain⟨g2,hg2⟩:∃g2,g2=w4.heap.size:=⟨_,rfl⟩
 have q5:Below w4.heap.size w4 W5:=by rw[hW5];exact(Below.refl _ _).alloc (Nat.le_refl _) _
 have hN5:Blk W5 g2 99 #[.int .u32 ne,.int .u32 ns,.int .u64 nr]:=by rw[hW5,hg2];exact Blk.new w4 99 _
 have hz2:ρ g2=0:=st4.fresh _ (by rw[hg2];exact Nat.le_refl _)
 have hC5:=hC4.below_ q5
 have hB5:=hB4.below_ q5
 have hK5:=hK4.below_ q5
 have hv5:=hv4.below_ q5
 have st5:=st4.trans (Ste.of_below (T:=rtC) q5 st4.fresh)
 have HW5:=Lib.hid (And.intro hW5 hg2)
 have hC5':=hC5
 obtain⟨vn5,vw5,hb5,hcc5,hwd5,_⟩:=hC5'
 have hww5:=hwd5.1
 have hww50:=hwd5.2.1
 have hf5:=st5.fresh
 clear hC4 hB4 hK4 hv4 st4 q5 hW5 hg2
 go_wp2_with fail
 rw[<-HW5.out.1,<-HW5.out.2]
 have hB5l:=hB5.lt
 have hN5l:=hN5.lt
 go_region_held3 (fun w'=>w'.cell? ⟨cc,0,none⟩=some (.pointer (some ⟨a.wl,0,none⟩))/\w'.cell? ⟨a.wl,6,none⟩=some (.pointer (some ⟨a.l,0,none⟩))/\w'.cell? ⟨g1,0,none⟩=some (.int .u64 ka)/\w'.cell? ⟨g1,1,none⟩=some (.int .u64 kb)/\w'.cell? ⟨g2,0,none⟩=some (.int .u32 ne)/\w'.cell? ⟨g2,1,none⟩=some (.int .u32 ns)/\w'.cell? ⟨g2,2,none⟩=some (.int .u64 nr))
  (first|(with_reducible exact s7l hb5 hww5 hK5 hN5)|(with_reducible exact s7l hb5.drew hww5.drew hK5.drew hN5.drew)|(with_reducible exact s7l (hb5.alloc _) (hww5.alloc _) (hK5.alloc _) (hN5.alloc _))|(with_reducible exact s7l (hb5.alloc _).drew (hww5.alloc _).drew (hK5.alloc _).drew (hN5.alloc _).drew)|(with_reducible exact s7l (hb5.far3 hx0 _ _ _) (hww5.far3 hx1 _ _ _) (hK5.far3 hx2 _ _ _) (hN5.far3 hx3 _ _ _)))
  (first
   |(go_at_call 151;(with_reducible refine(hhd W5.drew).mono ?_);rintro e w6 ⟨v6,rfl,o6,q6⟩;have r6:Below W5.heap.size W5 w6:=(Below.refl _ _).drew.trans q6;replace hb5:=hb5.below_ r6;replace hww5:=hww5.below_ r6;replace hK5:=hK5.below_ r6;replace hN5:=hN5.below_ r6;have hv6:=o6.has.any;clear o6 q6)
   |(go_at_call 151;(with_reducible refine(hhd (W5.alloc (.cells #[.slice none 0 0,.int .u64 0,.int .u64 0] 157)).drew).mono ?_);rintro e w6 ⟨v6,rfl,o6,q6⟩;have bX:=(Blk.new W5 157 #[.slice none 0 0,.int .u64 0,.int .u64 0]).drew.below_ q6;have hxl:=bX.lt;have r6:Below W5.heap.size W5 w6:=((Below.refl _ _).alloc (Nat.le_refl _) (.cells #[.slice none 0 0,.int .u64 0,.int .u64 0] 157)).drew.trans (q6.mono (by simp));have hx0:cc≠W5.heap.size:=Nat.ne_of_lt hb5.lt;have hx1:a.wl≠W5.heap.size:=Nat.ne_of_lt hww5.lt;have hx2:g1≠W5.heap.size:=Nat.ne_of_lt hK5.lt;have hx3:g2≠W5.heap.size:=Nat.ne_of_lt hN5.lt;replace hb5:=hb5.below_ r6;replace hww5:=hww5.below_ r6;replace hK5:=hK5.below_ r6;replace hN5:=hN5.below_ r6;have hv6:=o6.has.any;clear o6 q6)
   |(go_at_call 156;have c7:=hsh w6 v6 (fun i hi=>hf5 i (Nat.le_trans r6.size hi)) (hwd5.below_ r6) hv6 (hv5.below_ r6);(with_reducible refine c7.mono ?_);clear c7;rintro e w7 ⟨v7,rfl,ρ7,o7,hw7,s7⟩;obtain⟨A7,z7,rfl⟩:=o7.slice;have t7:Ste rtW ρ W5 ρ7 w7:=(Ste.of_below r6 hf5).trans s7;have hzx:ρ7 W5.heap.size=0:=(s7.old _ bX.lt).trans (hf5 _ (Nat.le_refl _));replace bX:=bX.ste s7 (by rw[hf5 _ (Nat.le_refl _)];exact rtW0);replace hb5:=hb5.ste s7 (by rw[hcc5];unfold rtW;decide);replace hww5:=hw7.1;replace hK5:=hK5.ste s7 (by rw[hz1];exact rtW0);replace hN5:=hN5.ste s7 (by rw[hz2];exact rtW0);have x0:=bX.cell_ 0 rfl;have x1:=bX.cell_ 1 rfl;have x2:=bX.cell_ 2 rfl;have y0:=bX.frozen 0;have y1:=bX.frozen 1;have y2:=bX.frozen 2;have yl:=bX.lt)
   |(go_at_call 156;have c7:=hsh w6 v6 (fun i hi=>hf5 i (Nat.le_trans r6.size hi)) (hwd5.below_ r6) hv6 (hv5.below_ r6);(with_reducible refine c7.mono ?_);clear c7;rintro e w7 ⟨v7,rfl,ρ7,o7,hw7,s7⟩;obtain⟨A7,z7,rfl⟩:=o7.slice;have t7:Ste rtW ρ W5 ρ7 w7:=(Ste.of_below r6 hf5).trans s7;replace hb5:=hb5.ste s7 (by rw[hcc5];unfold rtW;decide);replace hww5:=hw7.1;replace hK5:=hK5.ste s7 (by rw[hz1];exact rtW0);replace hN5:=hN5.ste s7 (by rw[hz2];exact rtW0))
   |(go_at_call 156;have c7:=hsh (w6.alloc (.cells #[.slice none 0 0,.int .u64 0,.int .u64 0] 157)) v6 (fun i hi=>hf5 i (Nat.le_trans r6.size (by simp at hi;omega))) ((hwd5.below_ r6).alloc _) (hv6.alloc _) ((hv5.below_ r6).alloc _);(with_reducible refine c7.mono ?_);clear c7;rintro e w7 ⟨v7,rfl,ρ7,o7,hw7,s7⟩;obtain⟨A7,z7,rfl⟩:=o7.slice;have r6':Below W5.heap.size W5 (w6.alloc (.cells #[.slice none 0 0,.int .u64 0,.int .u64 0] 157)):=r6.alloc r6.size _;have t7:Ste rtW ρ W5 ρ7 w7:=(Ste.of_below r6' hf5).trans s7;have bX:=Blk.new w6 157 #[.slice none 0 0,.int .u64 0,.int .u64 0];have hzx:ρ7 w6.heap.size=0:=(s7.old _ bX.lt).trans (hf5 _ r6.size);replace bX:=bX.ste s7 (by rw[hf5 _ r6.size];exact rtW0);have hx0:cc≠w6.heap.size:=Nat.ne_of_lt hb5.lt;have hx1:a.wl≠w6.heap.size:=Nat.ne_of_lt hww5.lt;have hx2:g1≠w6.heap.size:=Nat.ne_of_lt hK5.lt;have hx3:g2≠w6.heap.size:=Nat.ne_of_lt hN5.lt;replace hb5:=(hb5.alloc _).ste s7 (by rw[hcc5];unfold rtW;decide);replace hww5:=hw7.1;replace hK5:=(hK5.alloc _).ste s7 (by rw[hz1];exact rtW0);replace hN5:=(hN5.alloc _).ste s7 (by rw[hz2];exact rtW0);have x0:=bX.cell_ 0 rfl;have x1:=bX.cell_ 1 rfl;have x2:=bX.cell_ 2 rfl;have y0:=bX.frozen 0;have y1:=bX.frozen 1;have y2:=bX.frozen 2;have yl:=bX.lt)
   |fail)
 all_goals
  have hC7:=hC5.put_wld hw7 t7
  have hB7:=hB5.ste t7 (by rw[hfr _ (Nat.le_refl _)];exact rtW0)
  have st7:=st5.trans (t7.mono (fun r e=>e.c))
  have zr7:ρ7 w.heap.size=0:=(t7.old _ hB5l).trans (hfr _ (Nat.le_refl _))
  have zn7:ρ7 g2=0:=(t7.old _ hN5l).trans hz2
  have hgz:w.heap.size<W5.heap.size:=hB5l
  first
   |(refine gen_world (F:=Lz ρ w a cc m ag g2 w7.heap.size (Cch.mk (C.W.lck LK) C.M.up C.now C.was C.age C.T C.pois) ne ns nr (.slice A7 ob.length z7) ob oa oc ρ7) (Lz.of_alloc hC7 hN5 hB7 (o7.weak (fun b e=>e.2)) st7 zr7 zn7) ?_;obtain⟨gx,hgx⟩:∃gx,gx=w7.heap.size:=⟨_,rfl⟩;rw[<-hgx];clear hgx)
   |(refine gen_world (F:=Lz ρ w a cc m ag g2 W5.heap.size (Cch.mk (C.W.lck LK) C.M.up C.now C.was C.age C.T C.pois) ne ns nr (.slice A7 ob.length z7) ob oa oc ρ7) (Lz.of_set bX hzx hgz hx3 hC7 hN5 hB7 (o7.weak (fun b e=>⟨e.2,fun c=>by have h3:=e.1;rw[c]at h3;omega⟩)) st7 zr7 zn7) ?_;obtain⟨gx,hgx⟩:∃gx,gx=W5.heap.size:=⟨_,rfl⟩;rw[<-hgx];clear hgx)
   |(refine gen_world (F:=Lz ρ w a cc m ag g2 w6.heap.size (Cch.mk (C.W.lck LK) C.M.up C.now C.was C.age C.T C.pois) ne ns nr (.slice A7 ob.length z7) ob oa oc ρ7) (Lz.of_set bX hzx (Nat.lt_of_lt_of_le hgz r6.size) hx3 hC7 hN5 hB7 (o7.weak (fun b e=>⟨e.2,fun c=>by have h3:=e.1;rw[c]at h3;simp at h3;omega⟩)) st7 zr7 zn7) ?_;obtain⟨gx,hgx⟩:∃gx,gx=w6.heap.size:=⟨_,rfl⟩;rw[<-hgx];clear hgx)
 all_goals
  clear hb5 hww5 hK5 hN5 hC5 hB5 hv5 st5 hwd5 hC7 hB7 st7 hw7 s7 t7 r6 hsh hhd zr7 zn7 o7
  intro W8 hL
  have HL:=Lib.hid hL
  obtain⟨bx,ch,bn,br,ov,st,zr,zn,zx⟩:=hL
  obtain⟨hR,hot',hLK,hN,hcu,hsl2,hin,hnl,hC,hV,hM⟩:=HN.out
  have hdt:=fun W'=>data_ok (C.W.slots:Int) (s:Int) W' hV (by omega) (by have:=HS.out;omega)
  have hwr:=fun W' h1 h2 h3=>wswr_ok ρ7 a (C.W.lck LK) W' ((s*32:Nat):Int) (.slice A7 ob.length z7) ob h1 h2 h3 hin (Nat.le_trans hC.fit.ssd (by omega))
  have e32:(s:Int)*32=((s*32:Nat):Int):=by omega
  obtain⟨off,hoff⟩:∃off:Int,off=((s*32:Nat):Int):=⟨_,rfl⟩
  rw[e32,<-hoff]at hdt
  rw[<-hoff]at hwr
  rw[show(spend (C.W.lck LK).pow).2=(spend C.W.pow).2 from rfl]at hwr
  have ch':=ch
  obtain⟨vn8,vw8,hb8,hcc8,hw8,_⟩:=ch'
  have hww8:=hw8.1
  have hwl8:=hw8.2.1
  obtain⟨n,hn⟩:∃n,n=C.W.slots:=⟨_,rfl⟩
  rw[<-hn]at hdt
  have hnn:n=(C.W.lck LK).slots:=hn
  have HNN:=Lib.hid hnn
  have hvw:HasP (fun i=>¬rtW (ρ7 i)) W8 (.slice A7 ob.length z7) ob:=ov.weak (fun b e=>by rw[e];exact rtW0)
  have st8:=st.fresh
  have HOF:=Lib.hid hoff
  have HSW:=Lib.hid (And.intro hw8 hvw)
  obtain⟨B,hB⟩:∃B,B=(spend C.W.pow).2:=⟨_,rfl⟩
  rw[<-hB]at hwr hR
  have HR:=Lib.hid hR
  clear ch bn br ov st zr hot' hLK hN hcu hsl2 hin hnl hC hV hM e32 hoff hn hnn hB hR hvw hw8
  go_wp2_with fail
  go_region_held3 (fun w'=>w'.cell? ⟨cc,0,none⟩=some (.pointer (some ⟨a.wl,0,none⟩))/\w'.cell? ⟨a.wl,2,none⟩=some (.pointer (some ⟨a.s,0,none⟩))/\w'.cell? ⟨a.wl,0,none⟩=some (.int .i64 n)/\w'.cell? ⟨gx,0,none⟩=some (.slice A7 ob.length z7))
   (first|(with_reducible exact s4l HNN.out hb8 hww8 bx)|(with_reducible exact s4l HNN.out hb8.drew hww8.drew bx.drew))
   (first
    |(go_at_call 150;(with_reducible refine(hdt W8.drew).mono ?_);rintro e w9 ⟨rfl,q9⟩;have r9:Below W8.heap.size W8 w9:=(Below.refl _ _).drew.trans q9;replace hb8:=hb8.below_ r9;replace hww8:=hww8.below_ r9;replace bx:=bx.below_ r9)
    |(go_at_call 157;have c9:=hwr w9 (fun i hi=>st8 i (Nat.le_trans r9.size hi)) (HSW.out.1.below_ r9) (HSW.out.2.below_ r9);(with_reducible refine c9.mono ?_);clear c9;rintro e w10 ⟨rfl,ρ10,hw10,s10⟩;have t10:Ste rtW ρ7 W8 ρ10 w10:=(Ste.of_below r9 st8).trans s10;replace hb8:=hb8.ste s10 (by rw[hcc8];unfold rtW;decide);replace hww8:=hww8.ste s10 (by rw[hwl8];exact rtW17);replace bx:=bx.ste s10 (by rw[zx];exact rtW0))
    |fail)
  obtain⟨bx0,ch0,bn0,br0,ov0,st0,zr0,zn0,zx0⟩:=HL.out
  have chA:=ch0.put_wld hw10 t10
  have bxA:=bx0.ste t10 (by rw[zx];exact rtW0)
  have bnA:=bn0.ste t10 (by rw[zn];exact rtW0)
  have brA:=br0.ste t10 (by rw[zr0];exact rtW0)
  have stA:=st0.trans (t10.mono (fun r e=>e.c))
  have zrA:ρ10 w.heap.size=0:=(t10.old _ br0.lt).trans zr0
  have HA:=Lib.hid (And.intro chA (And.intro stA (And.intro brA zrA)))
  clear bx0 ch0 bn0 br0 ov0 st0 zr0 zn0 zx0 hb8 hww8 bx hdt hwr chA stA zrA t10 s10 hw10 r9
  cases B with
  |true=>
   have Xb:=brA.cell_ 0 rfl
   have n0:=bnA.cell_ 0 rfl
   have n1:=bnA.cell_ 1 rfl
   have n2:=bnA.cell_ 2 rfl
   have x1:=bxA.cell_ 1 rfl
   have x2:=bxA.cell_ 2 rfl
   have nl:=bnA.lt
   have xl:=bxA.lt
   have f0:=brA.frozen 0
   have f1:=brA.frozen 1
   have f2:=brA.frozen 2
   have f3:=brA.frozen 3
   have f4:=brA.frozen 4
   have f5:=brA.frozen 5
   have f6:=brA.frozen 6
   have f7:=brA.frozen 7
   have b1:=brA.cell_ 1 rfl
   have b2:=brA.cell_ 2 rfl
   have b3:=brA.cell_ 3 rfl
   have b4:=brA.cell_ 4 rfl
   have b5:=brA.cell_ 5 rfl
   have b6:=brA.cell_ 6 rfl
   have b7:=brA.cell_ 7 rfl
   have bl:=brA.lt
   clear brA bnA bxA
   go_wp2_with fail
   go_region
   go_wp2_with fail
   rw[sets8']
   obtain⟨chA,stA,brA,zrA⟩:=HA.out
   obtain⟨_,hot',hLK,hN,_,_,_,_,_,_,_⟩:=HN.out
   have hR:=HR.out
   rw[if_neg (by simp)]at hR
   rw[hR]
   have hl':lleaf C s x data d=⟨1,d,x,⟨ne,ns,nr⟩,(oa,oc)⟩:=by unfold lleaf;rw[<-hN,<-hot']
   have hc':lcch C s x data=(Cch.mk (C.W.lck LK) C.M.up C.now C.was C.age C.T C.pois).wld ((C.W.lck LK).swr off ob):=by unfold lcch lwld Cch.wld;rw[<-hot',<-hLK,HOF.out]
   rw[hl',hc']
   have hB8:=Blk.whole (cs:=lfc Lf.no) (vs:=lfc ⟨1,d,x,⟨ne,ns,nr⟩,(oa,oc)⟩) brA rfl
   have g8:w10.grownBy (w10.setCells w.heap.size 0 (lfc ⟨1,d,x,⟨ne,ns,nr⟩,(oa,oc)⟩)) (some w.heap.size):=r27.only_setCells _ 0 w10 (only_refl _ _)
   have hC10:=chA.keep g8.size (ρ':=ρ10) (fun b hb e=>⟨g8.block b hb (fun c=>by injection c with c;rw[c,zrA]at e;unfold rsC at e;omega),rfl⟩)
   have hst:Ste rtC ρ w ρ10 (w10.setCells w.heap.size 0 (lfc ⟨1,d,x,⟨ne,ns,nr⟩,(oa,oc)⟩)):=⟨stA.ch.then_only g8 (Nat.le_refl _),stA.old,fun i hi=>stA.fresh i (Nat.le_trans g8.size hi)⟩
   exact ret_tmp_cell_tmp 8 9 103 10 (by rfl) w.heap.size 0 (by rfl) (.int .i64 s) (by rfl) (.int .i64 0) (by rfl) (lfc ⟨1,d,x,⟨ne,ns,nr⟩,(oa,oc)⟩) _ hB8.drew.range Tryz.underlying103 rfl sz103 rfl ⟨rfl,ρ10,hC10.drew,hst.trans (Ste.of_below (Below.refl _ _).drew hst.fresh)⟩
  |false=>
   have hBr:=brA
   have ht:w10.there w.heap.size 0 (#[.int .i64 0,.bool false,.int .i64 0,.int .u32 0,.int .u32 0,.int .u64 0,.int .u64 0,.int .u64 0]:Array Value).size:=brA.there_ (cs:=lfc Lf.no) rfl
   have sz8:(Tryz.prog.info? 103).map (·.size)=some (#[.int .i64 0,.bool false,.int .i64 0,.int .u32 0,.int .u32 0,.int .u64 0,.int .u64 0,.int .u64 0]:Array Value).size:=sz103
   have hone:(#[.int .i64 0,.bool false,.int .i64 0,.int .u32 0,.int .u32 0,.int .u64 0,.int .u64 0,.int .u64 0]:Array Value).all (·.oneCell')=true:=lfc_one Lf.no
   have hB8:=Blk.whole (cs:=lfc Lf.no) (vs:=lfc Lf.no) brA rfl
   have g8:w10.grownBy (w10.setCells w.heap.size 0 (lfc Lf.no)) (some w.heap.size):=r27.only_setCells _ 0 w10 (only_refl _ _)
   obtain⟨W6',hW6⟩:∃W6',W6'=w10.setCells w.heap.size 0 (lfc Lf.no):=⟨_,rfl⟩
   have hW6':w10.setCells w.heap.size 0 (#[.int .i64 0,.bool false,.int .i64 0,.int .u32 0,.int .u32 0,.int .u64 0,.int .u64 0,.int .u64 0]:Array Value).toList=W6':=hW6.symm
   rw[<-hW6]at hB8 g8
   have HW6:=Lib.hid hW6'
   have HG8:=Lib.hid (And.intro hB8 g8)
   clear brA bnA bxA hBr hB8 g8 hW6 hW6'
   go_wp2_with ((with_reducible refine wpList_store_mid rfl 103 _ _ rfl w.heap.size 0 #[.int .i64 0,.bool false,.int .i64 0,.int .u32 0,.int .u32 0,.int .u64 0,.int .u64 0,.int .u64 0] rfl rfl ht sz8 hone ?_);rw[HW6.out])
   obtain⟨chA,stA,brA,zrA⟩:=HA.out
   obtain⟨_,hot',hLK,hN,_,_,_,_,_,_,_⟩:=HN.out
   obtain⟨hB8,g8⟩:=HG8.out
   have hR:=HR.out
   rw[if_pos trivial]at hR
   rw[hR]
   have hc':lcch C s x data=(Cch.mk (C.W.lck LK) C.M.up C.now C.was C.age C.T C.pois).wld ((C.W.lck LK).swr off ob):=by unfold lcch lwld Cch.wld;rw[<-hot',<-hLK,HOF.out]
   rw[hc']
   have hC10:=chA.keep g8.size (ρ':=ρ10) (fun b hb e=>⟨g8.block b hb (fun c=>by injection c with c;rw[c,zrA]at e;unfold rsC at e;omega),rfl⟩)
   have hst:Ste rtC ρ w ρ10 W6':=⟨stA.ch.then_only g8 (Nat.le_refl _),stA.old,fun i hi=>stA.fresh i (Nat.le_trans g8.size hi)⟩
   exact ret_tmp_cell_tmp 8 9 103 10 (by rfl) w.heap.size 0 (by rfl) (.int .i64 (-1)) (by rfl) (.int .i64 7) (by rfl) (lfc Lf.no) _ hB8.range Tryz.underlying103 rfl sz103 rfl ⟨rfl,ρ10,hC10,hst⟩
theorem lay_ok (HT:ShutOk) (ρ:Rl) (a:Ads) (cc m ag:Nat) (C:Cch) (k t s x:Nat) (vd:Value) (data:By) (d:Bool) (w:World) (hf:Fresh ρ w) (h:CchR ρ w a cc m ag C) (hC:Cok C k t) (hk6:k<=600000) (hs:free C=(s:Int)) (hsl:s<C.now.length) (hx:x<32) (hv:HasP (fun b=>¬rtC (ρ b)) w vd data) (hd:data.length=32):
 Calls Tryz.prog 118 #[.pointer (some ⟨cc,0,none⟩),.int .i64 x,vd,.bool d] w (LayP ρ a cc m ag s (clay C s x data d) w):=by
 by_cases e:C.M.n=100
 ·exact lay_full ρ a cc m ag C k t s x vd data d w hf h hC hk6 hs hsl e hv
 ·exact lay_go HT ρ a cc m ag C k t s x vd data d w hf h hC hk6 hs hsl hx e hv hd
end Go.Proofs.YtggmdjdflaglpaaGreat
