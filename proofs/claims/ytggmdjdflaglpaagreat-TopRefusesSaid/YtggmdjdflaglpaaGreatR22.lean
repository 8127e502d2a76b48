/- root.Put, root.PutRec. log.Put: a root is sealed and written. area.Write: the walk. Sizes: what each step does to them (no walk). commit.Do as a plain function; sizes behind area.Write and log.Put (no walk). -/
import Derived.Test.YtggmdjdflaglpaaGreatR19
import Derived.Test.YtggmdjdflaglpaaGreatR20
import Derived.Test.YtggmdjdflaglpaaGreatR21
import Derived.Test.YtggmdjdflaglpaaGreatR04
namespace Go.Proofs.YtggmdjdflaglpaaGreat
open Go.RowKit Go.Proofs.YtggmdjdflaglpaaGreat.geo
set_option linter.unusedVariables false
theorem slots_ok (n:Int) (w:World) (h:V n):Calls Tryz.prog 167 #[.int .i64 n] w fun e w'=>e=.returned (.bool true)/\w=w':=by
 rcases h with rfl|rfl|rfl<;>
 ·go_enter Tryz.func167,Tryz.ntmps167
  go_wp2_with fail
  go_ret
  exact⟨rfl,rfl⟩
def rootB (c e n:Int) (t:Two):By:=putB c 8++(putB e 4++(putB n 4++pairB t.1 t.2))
theorem rootB_len (c e n:Int) (t:Two):(rootB c e n t).length=32:=by simp[rootB,putB_len,pairB_len]
set_option maxHeartbeats 4000000 in
set_option maxRecDepth 100000 in
theorem rput_ok (c ep n:Int) (t:Two) (w:World) (hc:U64 c) (he:0<=ep/\ep<4294967296) (hn:V n) (ht:U2 t):
 Calls Tryz.prog 182 #[.agg #[.int .u64 c,.int .u32 ep,.int .i64 n,.int .u64 t.1,.int .u64 t.2]] w fun e w'=>∃v,e=.returned (.tuple #[v,.bool true])/\OwnB w.heap.size w' v (rootB c ep n t)/\Below w.heap.size w w':=by
 have hfin:rootB c ep n t=([putB c 8,putB ep 4,putB n 4,pairB t.1 t.2]:List By).flatten:=by simp[rootB]
 obtain⟨R,hR⟩:∃R,R=rootB c ep n t:=⟨_,rfl⟩
 rw[<-hR]at hfin ⊢
 have his:=fun W=>slots_ok n W hn
 have hnb:4<=n/\n<=16:=by unfold V at hn;omega
 clear hR hn
 obtain⟨ta,tb⟩:=t
 simp only at hfin ⊢
 obtain⟨c0,c1⟩:=hc
 obtain⟨e0,e1⟩:=he
 obtain⟨n0,n1⟩:=hnb
 obtain⟨⟨a0,a1⟩,b0,b1⟩:=ht
 simp only at a0 a1 b0 b1
 have HF:=Lib.hid hfin
 clear hfin
 have wn:=IntWalk.u64_in n ⟨by omega,by omega⟩
 have we:=IntWalk.u64_in ep ⟨by omega,by omega⟩
 obtain⟨W,hW⟩:∃W,W=w.alloc (.cells #[.int .u64 c,.int .u32 ep,.int .i64 n,.int .u64 ta,.int .u64 tb] 139):=⟨_,rfl⟩
 have hB:Blk W w.heap.size 139 #[.int .u64 c,.int .u32 ep,.int .i64 n,.int .u64 ta,.int .u64 tb]:=by rw[hW];exact Blk.new w 139 _
 have hbw:Below w.heap.size w W:=by rw[hW];exact(Below.refl _ _).alloc (Nat.le_refl _) _
 go_enter Tryz.func182,Tryz.ntmps182
 go_wp2_with fail
 rw[<-hW]
 clear hW
 refine(his _).mono ?_
 rintro e w1 ⟨rfl,rfl⟩
 clear his
 have lB:=hB.lt
 have hA:=Acc.nil W
 go_wp2_with fail
 replace hB:=hB.drew
 replace hbw:=hbw.drew
 replace hA:Acc W.drew []:=hA
 go_region_held3 (fun w'=>w'.cell? ⟨w.heap.size,0,none⟩=some (.int .u64 c)/\w'.cell? ⟨w.heap.size,1,none⟩=some (.int .u32 ep)/\w'.cell? ⟨w.heap.size,2,none⟩=some (.int .i64 n)/\w'.cell? ⟨w.heap.size,3,none⟩=some (.int .u64 ta)/\w'.cell? ⟨w.heap.size,4,none⟩=some (.int .u64 tb))
  (first|exact⟨hB.cell_ 0 rfl,hB.cell_ 1 rfl,hB.cell_ 2 rfl,hB.cell_ 3 rfl,hB.cell_ 4 rfl⟩|exact⟨(hB.alloc _).cell_ 0 rfl,(hB.alloc _).cell_ 1 rfl,(hB.alloc _).cell_ 2 rfl,(hB.alloc _).cell_ 3 rfl,(hB.alloc _).cell_ 4 rfl⟩)
  (first
    |(go_at_call 87;first
       |((with_reducible refine(put4_ok _ _ (by omega) (by omega)).mono ?_);rintro e w2 ⟨v2,rfl,o2,q2⟩;obtain⟨A2,z2,rfl⟩:=o2.has.slice;replace hB:=hB.below_ q2;replace hA:=(hA.below_ q2).add o2.has.any;replace hbw:=hbw.trans (q2.mono hbw.size);clear o2 q2)
       |((with_reducible refine(put8_ok _ _ (by omega) (by omega)).mono ?_);rintro e w2 ⟨v2,rfl,o2,q2⟩;obtain⟨A2,z2,rfl⟩:=o2.has.slice;replace hB:=hB.below_ q2;replace hA:=(hA.below_ q2).add o2.has.any;replace hbw:=hbw.trans (q2.mono hbw.size);clear o2 q2))
    |(go_at_call 124;(refine(bytes_ok _ _ _ (by omega) (by omega) (by omega) (by omega)).mono ?_);rintro e w2 ⟨v2,rfl,o2,q2⟩;obtain⟨A2,z2,rfl⟩:=o2.has.slice;replace hB:=hB.below_ q2;replace hA:=(hA.below_ q2).add o2.has.any;replace hbw:=hbw.trans (q2.mono hbw.size);clear o2 q2)
    |(go_at_call 86;(refine(concat_ok _ _ _ (Acc.rows (hA.alloc _) (Blk.new w2 32 _) rfl (by simp[putB_ne,pairB_ne]) (by simp)) (by simp[total,putB_len,pairB_len])).mono ?_);rintro e w3 ⟨v3,rfl,o3,q3⟩;replace o3:=o3.weak (B':=w.heap.size) (by have:=hbw.size;simp;omega);replace hB:=(hB.alloc _).below_ q3;replace hbw:=(hbw.alloc hbw.size _).trans (q3.mono (by have:=hbw.size;simp;omega))))
 have hr:OwnB w.heap.size w3 v3 R:=by rw[HF.out];exact o3
 clear o3 q3 hA hB HF
 go_wp2_with fail
 go_ret2
 exact⟨_,rfl,hr,hbw⟩
def recB (ep ver:Int) (b:By) (t:Two):By:=putB ep 4++(putB ver 8++(b++pairB t.1 t.2))
theorem recB_len (ep ver:Int) (b:By) (t:Two) (hb:b.length=32):(recB ep ver b t).length=60:=by simp[recB,putB_len,pairB_len,hb]
set_option maxHeartbeats 4000000 in
set_option maxRecDepth 100000 in
theorem rrec_ok (p:Nat->Prop) (ep ver:Int) (vb:Value) (b:By) (t:Two) (w:World) (he:0<=ep/\ep<4294967296) (hv:U64 ver) (hb:HasP p w vb b) (hl:b.length=32) (ht:U2 t):
 Calls Tryz.prog 183 #[nv ⟨ep,65535,ver⟩,.agg #[vb,.int .u64 t.1,.int .u64 t.2]] w fun e w'=>∃v,e=.returned (.tuple #[v,.bool true])/\OwnB w.heap.size w' v (recB ep ver b t)/\Below w.heap.size w w':=by
 have hfin:recB ep ver b t=([putB ep 4,putB ver 8,b,pairB t.1 t.2]:List By).flatten:=by simp[recB]
 obtain⟨R,hR⟩:∃R,R=recB ep ver b t:=⟨_,rfl⟩
 rw[<-hR]at hfin ⊢
 clear hR
 obtain⟨ta,tb⟩:=t
 unfold nv
 simp only at hfin ⊢
 obtain⟨e0,e1⟩:=he
 obtain⟨v0,v1⟩:=hv
 obtain⟨⟨a0,a1⟩,b0,b1⟩:=ht
 simp only at a0 a1 b0 b1
 obtain⟨A,cap,rfl⟩:=hb.slice
 have hbl:b≠[]:=by intro e;rw[e]at hl;simp at hl
 have hbl2:total [b]=32:=by simp[total,hl]
 rw[hl]at hb ⊢
 have HF:=Lib.hid (And.intro hfin hl)
 clear hfin hl
 have we:=IntWalk.u64_in ep ⟨by omega,by omega⟩
 obtain⟨W,hW⟩:∃W,W=(w.alloc (.cells #[.int .u32 ep,.int .u32 65535,.int .u64 ver] 99)).alloc (.cells #[.slice A 32 cap,.int .u64 ta,.int .u64 tb] 157):=⟨_,rfl⟩
 have hB:Blk W w.heap.size 99 #[.int .u32 ep,.int .u32 65535,.int .u64 ver]:=by rw[hW];exact(Blk.new w 99 _).alloc _
 have hC:Blk W (w.heap.size+1) 157 #[.slice A 32 cap,.int .u64 ta,.int .u64 tb]:=by
  rw[hW]
  have:=Blk.new (w.alloc (.cells #[.int .u32 ep,.int .u32 65535,.int .u64 ver] 99)) 157 #[.slice A 32 cap,.int .u64 ta,.int .u64 tb]
  rw[World.size_alloc]at this
  exact this
 have hbw:Below w.heap.size w W:=by rw[hW];exact((Below.refl _ _).alloc (Nat.le_refl _) _).alloc (by simp) _
 replace hb:=hb.any.below_ hbw
 go_enter Tryz.func183,Tryz.ntmps183
 go_wp2_with fail
 rw[<-hW]
 clear hW
 have lB:=hB.lt
 have hA:=Acc.nil W
 replace hB:=hB.drew
 replace hC:=hC.drew
 replace hb:=hb.drew
 replace hbw:=hbw.drew
 replace hA:Acc W.drew []:=hA
 go_region_held3 (fun w'=>w'.cell? ⟨w.heap.size,0,none⟩=some (.int .u32 ep)/\w'.cell? ⟨w.heap.size,2,none⟩=some (.int .u64 ver)/\w'.cell? ⟨w.heap.size+1,0,none⟩=some (.slice A 32 cap)/\w'.cell? ⟨w.heap.size+1,1,none⟩=some (.int .u64 ta)/\w'.cell? ⟨w.heap.size+1,2,none⟩=some (.int .u64 tb))
  (first|exact⟨hB.cell_ 0 rfl,hB.cell_ 2 rfl,hC.cell_ 0 rfl,hC.cell_ 1 rfl,hC.cell_ 2 rfl⟩|exact⟨(hB.alloc _).cell_ 0 rfl,(hB.alloc _).cell_ 2 rfl,(hC.alloc _).cell_ 0 rfl,(hC.alloc _).cell_ 1 rfl,(hC.alloc _).cell_ 2 rfl⟩)
  (first
    |(go_at_call 87;first
       |((with_reducible refine(put4_ok _ _ (by omega) (by omega)).mono ?_);rintro e w2 ⟨v2,rfl,o2,q2⟩;obtain⟨A2,z2,rfl⟩:=o2.has.slice;replace hB:=hB.below_ q2;replace hC:=hC.below_ q2;replace hb:=hb.below_ q2;replace hA:=(hA.below_ q2).add o2.has.any;replace hbw:=hbw.trans (q2.mono hbw.size);clear o2 q2)
       |((with_reducible refine(put8_ok _ _ (by omega) (by omega)).mono ?_);rintro e w2 ⟨v2,rfl,o2,q2⟩;obtain⟨A2,z2,rfl⟩:=o2.has.slice;replace hB:=hB.below_ q2;replace hC:=hC.below_ q2;replace hb:=hb.below_ q2;replace hA:=((hA.below_ q2).add o2.has.any).add hb;replace hbw:=hbw.trans (q2.mono hbw.size);clear o2 q2))
    |(go_at_call 124;(refine(bytes_ok _ _ _ (by omega) (by omega) (by omega) (by omega)).mono ?_);rintro e w2 ⟨v2,rfl,o2,q2⟩;obtain⟨A2,z2,rfl⟩:=o2.has.slice;replace hB:=hB.below_ q2;replace hC:=hC.below_ q2;replace hb:=hb.below_ q2;replace hA:=(hA.below_ q2).add o2.has.any;replace hbw:=hbw.trans (q2.mono hbw.size);clear o2 q2)
    |(go_at_call 86;(refine(concat_ok _ _ _ (Acc.rows (hA.alloc _) (Blk.new w2 32 _) rfl (by simp[putB_ne,pairB_ne,hbl]) (by simp)) (by simp[total,putB_len,pairB_len,HF.out.2])).mono ?_);rintro e w3 ⟨v3,rfl,o3,q3⟩;replace o3:=o3.weak (B':=w.heap.size) (by have:=hbw.size;simp;omega);replace hB:=(hB.alloc _).below_ q3;replace hC:=(hC.alloc _).below_ q3;replace hbw:=(hbw.alloc hbw.size _).trans (q3.mono (by have:=hbw.size;simp;omega))))
 have hr:OwnB w.heap.size w3 v3 R:=by rw[HF.out.1];exact o3
 clear o3 q3 hA hB hC hb
 go_wp2_with fail
 go_ret2
 exact⟨_,rfl,hr,hbw⟩
end Go.Proofs.YtggmdjdflaglpaaGreat
namespace Go.Proofs.YtggmdjdflaglpaaGreat
open Go.RowKit Go.Proofs.YtggmdjdflaglpaaGreat.geo
set_option linter.unusedVariables false
theorem Blk.ste {T:Nat->Prop}{ρ ρ':Rl}{w w':World}{g:Nat}{t:TypeId}{cs:Array Value}(h:Blk w g t cs) (hs:Ste T ρ w ρ' w') (hT:¬T (ρ g)):Blk w' g t cs:=(hs.ch.keep g h.lt hT).trans h
theorem HasP.ste {r:Nat}{T:Nat->Prop}{ρ ρ':Rl}{w w':World}{v:Value}{l:By}(h:HasP (ρ · =r) w v l) (hs:Ste T ρ w ρ' w') (hT:¬T r):HasP (ρ' · =r) w' v l:=
 ((h.weakB (q:=fun b=>ρ b=r/\ρ' b=r) (fun b hb e=>⟨e,(hs.old b hb).trans e⟩)).keep hs.size (fun b hb e=>hs.ch.keep b hb (by rw[e.1];exact hT))).weak (fun b e=>e.2)
theorem OwnB.zero {ρ:Rl}{w w':World}{v:Value}{l:By}(h:OwnB w.heap.size w' v l) (hf:Fresh ρ w):HasP (ρ · =0) w' v l:=h.has.weak (fun b e=>hf b e)
theorem s6of {w:World}{wl l g1 g2:Nat}{x0 x1 x2 x3 x4 x5:Value}{ka kb ne ns nr:Int}(b0:Blk w wl 70 #[x0,x1,x2,x3,x4,x5,.pointer (some ⟨l,0,none⟩)]) (b1:Blk w g1 101 #[.int .u64 ka,.int .u64 kb]) (b2:Blk w g2 99 #[.int .u32 ne,.int .u32 ns,.int .u64 nr]):
 w.cell? ⟨wl,6,none⟩=some (.pointer (some ⟨l,0,none⟩))/\w.cell? ⟨g1,0,none⟩=some (.int .u64 ka)/\w.cell? ⟨g1,1,none⟩=some (.int .u64 kb)/\w.cell? ⟨g2,0,none⟩=some (.int .u32 ne)/\w.cell? ⟨g2,1,none⟩=some (.int .u32 ns)/\w.cell? ⟨g2,2,none⟩=some (.int .u64 nr):=
 ⟨b0.cell_ 6 rfl,b1.cell_ 0 rfl,b1.cell_ 1 rfl,b2.cell_ 0 rfl,b2.cell_ 1 rfl,b2.cell_ 2 rfl⟩
theorem Blk.far3 {w:World}{g t:Nat}{cs:Array Value}(h:Blk w g t cs) {x:Nat}(hx:g≠x) (u v y:Value):Blk (((w.setCell ⟨x,0,none⟩ u).setCell ⟨x,1,none⟩ v).setCell ⟨x,2,none⟩ y) g t cs:=
 ((h.far (p:=⟨x,0,none⟩) hx u).far (p:=⟨x,1,none⟩) hx v).far (p:=⟨x,2,none⟩) hx y
theorem only_set3 (w:World) (g:Nat) (u v y:Value):w.grownBy (((w.setCell ⟨g,0,none⟩ u).setCell ⟨g,1,none⟩ v).setCell ⟨g,2,none⟩ y) (some g):=only_setCell (only_set2 w g 0 1 u v) (p:=⟨g,2,none⟩) (.inl rfl) y
theorem in_of {r:By}{n c L s:Nat}(hr:r.length=60) (hL:L=s*160+120) (hn:n=s) (hm:c<=1):(⟨((n*160+c*60:Nat):Int),r⟩:Opn).in_ L:=by
 refine⟨by show(0:Int)<=((n*160+c*60:Nat):Int);omega,?_,fun e=>?_⟩
 ·show((n*160+c*60:Nat):Int)+(r.length:Int)<=(L:Int)
  rw[hr]
  omega
 ·have e':r=[]:=e
  rw[e']at hr
  simp at hr
theorem rtW0:¬rtW 0:=by unfold rtW;decide
theorem rtW17:¬rtW 17:=by unfold rtW;decide
theorem rtWm:¬rtW rMkr:=by unfold rtW;decide
def rdat (W:Wld) (c:Nat) (t:Two):By:=rootB c W.kys.cur W.slots t
def rrec (W:Wld) (M:Mk) (c:Nat) (t:Two):By:=recB W.kys.cur (M.nonce W.kys.cur 65535).ver (W.lk.shut W.curKey (M.nonce W.kys.cur 65535) [] (rdat W c t)).1 (W.lk.shut W.curKey (M.nonce W.kys.cur 65535) [] (rdat W c t)).2
def rlck (W:Wld) (M:Mk) (c:Nat) (t:Two):Wld:=W.lck (W.lk.shutd W.curKey (M.nonce W.kys.cur 65535) [] (rdat W c t))
def roff (W:Wld) (c:Nat):Nat:=W.slots*160+c%2*60
def lgput (W:Wld) (M:Mk) (c:Nat) (t:Two):Int×Wld×Mk:=
 if M.n=100 then(6,W,M)else((if(spend W.pow).2 then 0 else 7),(rlck W M c t).swr (roff W c) (rrec W M c t),M.up)
def rtLog (r:Nat):Prop:=rtW r\/r=rMkr
structure Wld.fit (W:Wld) (k:Nat):Prop where
 geo:V W.slots
 size:W.ssd.lasts.length=W.slots*160+120
 ssd:W.ssd.cnt<=k
 dsk:W.dsk.cnt<=k
 lk:W.lk.lim k
 cnt:W.cnt.value<=k/\W.cnt.boots<=k
 kys:W.kys.a<=k
 wts:∀o∈W.ssd.waits,o.in_ W.ssd.lasts.length
theorem Wld.curKey_u (W:Wld) (h:W.kys.a<=1000000):U2 W.curKey:=keyOf_u _ _ ⟨by omega,by have:=W.kys.cur_le h;omega⟩
structure Lq (ρ:Rl) (w:World) (a:Ads) (m:Nat) (g2 x:Nat) (W:Wld) (M:Mk) (cs:Array Value) (ne ns nr:Int) (v:Value) (ob:By) (oa oc:Int) (ρ':Rl) (w':World):Prop where
 bx:Blk w' x 157 #[v,.int .u64 oa,.int .u64 oc]
 wd:WldR ρ' w' a W
 mm:MkR ρ' w' m M
 bh:Blk w' w.heap.size 139 cs
 bn:Blk w' g2 99 #[.int .u32 ne,.int .u32 ns,.int .u64 nr]
 ov:HasP (ρ' · =0) w' v ob
 st:Ste rtLog ρ w ρ' w'
 zh:ρ' w.heap.size=0
theorem Lq.of_alloc {ρ:Rl}{w:World}{a:Ads}{m g2:Nat}{W:Wld}{M:Mk}{cs:Array Value}{ne ns nr:Int}{v:Value}{ob:By}{oa oc:Int}{ρ':Rl}{w':World}
 (wd:WldR ρ' w' a W) (mk:MkR ρ' w' m M) (bh:Blk w' w.heap.size 139 cs) (bn:Blk w' g2 99 #[.int .u32 ne,.int .u32 ns,.int .u64 nr]) (ov:HasP (ρ' · =0) w' v ob) (st:Ste rtLog ρ w ρ' w') (zh:ρ' w.heap.size=0):
 Lq ρ w a m g2 w'.heap.size W M cs ne ns nr v ob oa oc ρ' (w'.alloc (.cells #[v,.int .u64 oa,.int .u64 oc] 157)):=
 ⟨Blk.new w' 157 _,wd.alloc _,mk.below_ ((Below.refl _ _).alloc (Nat.le_refl _) _),bh.alloc _,bn.alloc _,ov.alloc _,st.trans (Ste.of_below ((Below.refl _ _).alloc (Nat.le_refl _) _) st.fresh),zh⟩
theorem Lq.of_set {ρ:Rl}{w:World}{a:Ads}{m g2 x:Nat}{W:Wld}{M:Mk}{cs:Array Value}{ne ns nr:Int}{v:Value}{ob:By}{oa oc:Int}{ρ':Rl}{w':World}{z0 z1 z2:Value}
 (bx:Blk w' x 157 #[z0,z1,z2]) (hz:ρ' x=0) (hx:w.heap.size<x) (hg:g2≠x) (wd:WldR ρ' w' a W) (mk:MkR ρ' w' m M) (bh:Blk w' w.heap.size 139 cs) (bn:Blk w' g2 99 #[.int .u32 ne,.int .u32 ns,.int .u64 nr]) (ov:HasP (fun b=>ρ' b=0/\b≠x) w' v ob) (st:Ste rtLog ρ w ρ' w') (zh:ρ' w.heap.size=0):
 Lq ρ w a m g2 x W M cs ne ns nr v ob oa oc ρ' (((w'.setCell ⟨x,0,none⟩ v).setCell ⟨x,1,none⟩ (.int .u64 oa)).setCell ⟨x,2,none⟩ (.int .u64 oc)):=by
 have g:=only_set3 w' x v (.int .u64 oa) (.int .u64 oc)
 have hk:∀b,b<w'.heap.size->b≠x->_:=fun b hb e=>g.block b hb (fun c=>e (by injection c))
 refine⟨((bx.set_to 0 v (cs':=#[v,z1,z2]) rfl).set_to 1 _ (cs':=#[v,.int .u64 oa,z2]) rfl).set_to 2 _ rfl,wd.keep g.size (fun b hb e=>⟨hk b hb (fun c=>by rw[c,hz]at e;unfold rsW at e;omega),rfl⟩),mk.keep ⟨hk m mk.1.lt (fun c=>by have:=mk.2.1;rw[c,hz]at this;exact absurd this (by decide)),rfl⟩,
  bh.far3 (by omega) _ _ _,bn.far3 hg _ _ _,(ov.keep g.size (fun b hb e=>hk b hb e.2)).weak (fun b e=>e.1),?_,zh⟩
 have hch:Ch (fun i=>rtLog (ρ i)) w _:=st.ch.then_only g (by omega)
 exact⟨hch,st.old,fun i hi=>st.fresh i (Nat.le_trans g.size hi)⟩
set_option maxHeartbeats 8000000 in
set_option maxRecDepth 100000 in
theorem lgput_full (ρ:Rl) (a:Ads) (W:Wld) (m:Nat) (M:Mk) (c:Nat) (t:Two) (w:World) (hf:Fresh ρ w) (h:WldR ρ w a W) (hm:MkR ρ w m M) (hn:M.n=100) (hfit:W.fit 800000) (hc:c<4294967296) (ht:U2 t):
 Calls Tryz.prog 172 #[.pointer (some ⟨a.wl,0,none⟩),.pointer (some ⟨m,0,none⟩),.agg #[.int .u64 c,.int .u32 W.kys.cur,.int .i64 W.slots,.int .u64 t.1,.int .u64 t.2]] w fun e w'=>e=.returned (.int .i64 6)/\Below w.heap.size w w':=by
 have hV:=hfit.geo
 have hcl:=W.kys.cur_le (Nat.le_trans hfit.kys (by omega))
 have hrp:=fun W1=>rput_ok (c:Int) (W.kys.cur:Int) (W.slots:Int) t W1 ⟨by omega,by omega⟩ ⟨by omega,by omega⟩ hV ht
 obtain⟨W1,hW1⟩:∃W1,W1=w.alloc (.cells #[.int .u64 c,.int .u32 W.kys.cur,.int .i64 W.slots,.int .u64 t.1,.int .u64 t.2] 139):=⟨_,rfl⟩
 have hB:Blk W1 w.heap.size 139 #[.int .u64 c,.int .u32 W.kys.cur,.int .i64 W.slots,.int .u64 t.1,.int .u64 t.2]:=by rw[hW1];exact Blk.new w 139 _
 have hbw:Below w.heap.size w W1:=by rw[hW1];exact(Below.refl _ _).alloc (Nat.le_refl _) _
 have h1:=h.below_ hbw
 have hm1:=hm.below_ hbw
 have hky:=fun W' hh=>wkey_ok ρ a W W' hh
 have hnx:=fun W' hh=>mnext_no ρ m M W.kys.cur 65535 W' hh hn (by omega)
 have HW:=Lib.hid (And.intro h1 hm1)
 obtain⟨n,hn'⟩:∃n,n=W.slots:=⟨_,rfl⟩
 obtain⟨cu,hcu⟩:∃cu,cu=W.kys.cur:=⟨_,rfl⟩
 obtain⟨ta,tb⟩:=t
 unfold pv at hky
 obtain⟨kk,hkk⟩:∃kk,kk=W.curKey:=⟨_,rfl⟩
 rw[<-hkk]at hky
 obtain⟨ka,kb⟩:=kk
 simp only at hrp hB hW1 hky ⊢
 rw[<-hn',<-hcu]at hrp hB hW1 ⊢
 rw[<-hcu]at hky hnx
 have HN:=Lib.hid (And.intro hn' (And.intro hcu hkk))
 clear h hm hn' hcu hkk hV h1 hm1 hfit
 go_enter Tryz.func172,Tryz.ntmps172
 go_wp2_with fail
 rw[<-hW1]
 clear hW1
 refine(hrp _).mono ?_
 rintro e w1 ⟨v1,rfl,o1,q1⟩
 replace hB:=hB.below_ q1
 replace hbw:=hbw.trans (q1.mono hbw.size)
 have hw1:=HW.out.1.below_ q1
 have hm1:=HW.out.2.below_ q1
 have c0:w1.cell? ⟨a.wl,0,none⟩=some (.int .i64 n):=by rw[HN.out.1];exact hw1.1.cell_ 0 rfl
 have c2:=hB.cell_ 2 rfl
 have l0:=hw1.1.lt
 have l2:=hB.lt
 have HW1:=Lib.hid (And.intro hw1 hm1)
 clear hrp hw1 hm1 o1 q1
 go_wp2_with fail
 go_quiet (fail)
 go_wp2_with fail
 refine(hky _ (HW1.out.1.below_ (below_drewN (Below.refl _ _) _))).mono ?_
 rintro e w2 ⟨rfl,q2⟩
 have hbw2:=(below_drewN hbw _).trans (q2.mono hbw.size)
 have hm2:=(HW1.out.2.below_ (below_drewN (Below.refl _ _) _)).below_ q2
 clear hky q2 hbw c0 c2 l0 l2
 go_wp2_with fail
 refine(hnx _ (hm2.below_ ((Below.refl _ _).alloc (Nat.le_refl _) _))).mono ?_
 rintro e w3 ⟨rfl,q3⟩
 clear hnx
 have hbw3:=(hbw2.alloc hbw2.size _).trans (q3.mono (by have:=hbw2.size;simp;omega))
 clear q3 hbw2 hm2
 go_wp2_with fail
 go_ret
 exact⟨rfl,hbw3.alloc hbw3.size _⟩
set_option maxHeartbeats 8000000 in
set_option maxRecDepth 100000 in
theorem lgput_ok (HS:ShutOk) (ρ:Rl) (a:Ads) (W:Wld) (m:Nat) (M:Mk) (c:Nat) (t:Two) (w:World) (hf:Fresh ρ w) (h:WldR ρ w a W) (hm:MkR ρ w m M) (hn:M.n<100) (hfit:W.fit 800000) (hc:c<4294967296) (ht:U2 t):
 Calls Tryz.prog 172 #[.pointer (some ⟨a.wl,0,none⟩),.pointer (some ⟨m,0,none⟩),.agg #[.int .u64 c,.int .u32 W.kys.cur,.int .i64 W.slots,.int .u64 t.1,.int .u64 t.2]] w fun e w'=>
  e=.returned (.int .i64 (if(spend W.pow).2 then 0 else 7))/\∃ρ',WldR ρ' w' a ((rlck W M c t).swr (roff W c) (rrec W M c t))/\MkR ρ' w' m M.up/\Ste rtLog ρ w ρ' w':=by
 have hV:=hfit.geo
 have hcl:=W.kys.cur_le (Nat.le_trans hfit.kys (by omega))
 have hrp:=fun W1=>rput_ok (c:Int) (W.kys.cur:Int) (W.slots:Int) t W1 ⟨by omega,by omega⟩ ⟨by omega,by omega⟩ hV ht
 obtain⟨W1,hW1⟩:∃W1,W1=w.alloc (.cells #[.int .u64 c,.int .u32 W.kys.cur,.int .i64 W.slots,.int .u64 t.1,.int .u64 t.2] 139):=⟨_,rfl⟩
 have hB:Blk W1 w.heap.size 139 #[.int .u64 c,.int .u32 W.kys.cur,.int .i64 W.slots,.int .u64 t.1,.int .u64 t.2]:=by rw[hW1];exact Blk.new w 139 _
 have hbw:Below w.heap.size w W1:=by rw[hW1];exact(Below.refl _ _).alloc (Nat.le_refl _) _
 have h1:=h.below_ hbw
 have hm1:=hm.below_ hbw
 have hky:=fun W' hh=>wkey_ok ρ a W W' hh
 have hno:=M.nonce_ok W.kys.cur 65535 (by omega) (by omega) hm.2.2.1 hm.2.2.2
 have hnx:∀W',Fresh ρ W'->MkR ρ W' m M->Calls Tryz.prog 155 #[.pointer (some ⟨m,0,none⟩),.int .u32 W.kys.cur,.int .i64 65535] W' fun e w'=>e=.returned (.tuple #[nv (M.nonce W.kys.cur 65535),.int .i64 0])/\MkR ρ w' m M.up/\Ste (· =rMkr) ρ W' ρ w':=fun W' h1 hh=>mnext_ok ρ m M W.kys.cur 65535 W' h1 hh hn (by omega) (by omega)
 have hfr:∀b,w.heap.size<=b->ρ b=0:=hf
 have hR:rdat W c t=rootB c W.kys.cur W.slots t:=rfl
 have hsh:=fun W' vd h1 h2 hd=>wshut_ok ρ a W W' HS (fun _=>True) (ρ · =0) W.curKey (M.nonce W.kys.cur 65535) (.slice none 0 0) [] vd (rdat W c t) h1 h2 (W.curKey_u (Nat.le_trans hfit.kys (by omega))) hno (.inl ⟨rfl,rfl⟩) hd (by simp) (by rw[hR,rootB_len]) (Lk.lim_mono hfit.lk (by omega))
 have HW:=Lib.hid (And.intro h1 (And.intro hm1 hfit))
 obtain⟨n,hn'⟩:∃n,n=W.slots:=⟨_,rfl⟩
 obtain⟨cu,hcu⟩:∃cu,cu=W.kys.cur:=⟨_,rfl⟩
 obtain⟨D,hD⟩:∃D,D=rdat W c t:=⟨_,rfl⟩
 rw[<-hD]at hR hsh
 rw[<-hR]at hrp
 obtain⟨No,hNo⟩:∃No,No=M.nonce W.kys.cur 65535:=⟨_,rfl⟩
 obtain⟨kk,hkk⟩:∃kk,kk=W.curKey:=⟨_,rfl⟩
 obtain⟨ot,hot⟩:∃ot,ot=W.lk.shut W.curKey (M.nonce W.kys.cur 65535) [] D:=⟨_,rfl⟩
 rw[<-hNo]at hsh hnx hot hno
 rw[<-hkk]at hky hsh hot
 rw[<-hot]at hsh
 unfold pv at hky hsh
 unfold nv at hnx hsh
 obtain⟨ka,kb⟩:=kk
 obtain⟨ne,ns,nr⟩:=No
 obtain rfl:ns=65535:=congrArg Nce.slot hNo
 obtain⟨ob,oa,oc⟩:=ot
 obtain⟨ta,tb⟩:=t
 simp only at hrp hB hW1 hky hnx hsh ⊢
 rw[<-hn',<-hcu]at hrp hB hW1 ⊢
 rw[<-hcu]at hky hnx
 have HN:=Lib.hid (And.intro hn' (And.intro hcu (And.intro hD (And.intro hNo (And.intro hkk (And.intro hot (And.intro hR hno)))))))
 clear h hm hn' hcu hkk hV h1 hm1 hfit hD hNo hot hR hno
 cases hsp:(spend W.pow).2
 all_goals
  have HSP:=Lib.hid hsp
  clear hsp
  go_enter Tryz.func172,Tryz.ntmps172
  go_wp2_with fail
  rw[<-hW1]
  refine(hrp _).mono ?_
  rintro e w1 ⟨v1,rfl,o1,q1⟩
  have hf1:Fresh ρ W1:=fun i hi=>hfr i (Nat.le_trans hbw.size hi)
  have hd1:=o1.zero hf1
  replace hB:=hB.below_ q1
  replace hbw:=hbw.trans (q1.mono hbw.size)
  have hw1:=HW.out.1.below_ q1
  have hm1:=HW.out.2.1.below_ q1
  have c0:w1.cell? ⟨a.wl,0,none⟩=some (.int .i64 n):=by rw[HN.out.1];exact hw1.1.cell_ 0 rfl
  have c2:=hB.cell_ 2 rfl
  have l0:=hw1.1.lt
  have l2:=hB.lt
  have HW1:=Lib.hid (And.intro hw1 hm1)
  clear hrp hw1 hm1 o1 q1 hW1
  go_wp2_with fail
  go_quiet (fail)
  go_wp2_with fail
  refine(hky _ (HW1.out.1.below_ (below_drewN (Below.refl _ _) _))).mono ?_
  rintro e w2 ⟨rfl,q2⟩
  have hbw2:=(below_drewN hbw _).trans (q2.mono hbw.size)
  have hw2:=(HW1.out.1.below_ (below_drewN (Below.refl _ _) _)).below_ q2
  have hm2:=(HW1.out.2.below_ (below_drewN (Below.refl _ _) _)).below_ q2
  have hB2:=Blk.below_ (Blk.drewN hB _) q2
  have hgw:=hB2.lt
  have hd2:=HasP.below_ (HasP.drewN hd1 _) q2
  clear hky q2 hbw c0 c2 l0 l2 HW1 hB hd1
  go_wp2_with fail
  obtain⟨W2,hW2⟩:∃W2,W2=w2.alloc (.cells #[.int .u64 ka,.int .u64 kb] 101):=⟨_,rfl⟩
  obtain⟨g1,hg1⟩:∃g1,g1=w2.heap.size:=⟨_,rfl⟩
  have hK:Blk W2 g1 101 #[.int .u64 ka,.int .u64 kb]:=by rw[hW2,hg1];exact Blk.new w2 101 _
  have hz1:ρ g1=0:=hfr _ (by rw[hg1];exact hbw2.size)
  replace hbw2:=hbw2.alloc hbw2.size (.cells #[.int .u64 ka,.int .u64 kb] 101)
  replace hw2:=hw2.alloc (.cells #[.int .u64 ka,.int .u64 kb] 101)
  replace hm2:=hm2.below_ ((Below.refl _ _).alloc (Nat.le_refl _) (.cells #[.int .u64 ka,.int .u64 kb] 101))
  replace hB2:=hB2.alloc (.cells #[.int .u64 ka,.int .u64 kb] 101)
  replace hd2:=hd2.alloc (.cells #[.int .u64 ka,.int .u64 kb] 101)
  rw[<-hW2]at hbw2 hw2 hm2 hB2 hd2
  rw[<-hW2,<-hg1]
  have hf2:Fresh ρ W2:=fun i hi=>hfr i (Nat.le_trans hbw2.size hi)
  have hst2:Ste rtLog ρ w ρ W2:=Ste.of_below hbw2 hf
  have hng:w.heap.size≠g1:=fun e=>by have:=hbw2.size;have h2:=hB2.lt;rw[hg1]at e;have h3:=hgw;omega
  clear hW2 hg1 hbw2
  refine(hnx _ hf2 hm2).mono ?_
  rintro e w3 ⟨rfl,hm3,s3⟩
  clear hnx
  have hw3:=hw2.ste s3 (fun r e c=>by rw[e]at c;unfold rsW at c;revert c;decide)
  have hB3:=hB2.ste s3 (by rw[hfr _ (Nat.le_refl _)];decide)
  have hK3:=hK.ste s3 (by rw[hz1];decide)
  have hd3:=hd2.ste s3 (by decide)
  have hst3:Ste rtLog ρ w ρ w3:=hst2.trans (s3.mono (fun r e=>.inr e))
  clear hw2 hB2 hK hd2 hst2 hm2 s3 hf2
  go_wp2_with fail
  obtain⟨W4,hW4⟩:∃W4,W4=w3.alloc (.cells #[.int .u32 ne,.int .u32 65535,.int .u64 nr] 99):=⟨_,rfl⟩
  obtain⟨g2,hg2⟩:∃g2,g2=w3.heap.size:=⟨_,rfl⟩
  have hN:Blk W4 g2 99 #[.int .u32 ne,.int .u32 65535,.int .u64 nr]:=by rw[hW4,hg2];exact Blk.new w3 99 _
  have hz2:ρ g2=0:=hfr _ (by rw[hg2];exact hst3.size)
  have q4:Below w3.heap.size w3 W4:=by rw[hW4];exact(Below.refl _ _).alloc (Nat.le_refl _) _
  have hw4:=hw3.below_ q4
  have hm4:=hm3.below_ q4
  have hB4:=hB3.below_ q4
  have hK4:=hK3.below_ q4
  have hd4:=hd3.below_ q4
  have hst4:=hst3.trans (Ste.of_below (T:=rtLog) q4 hst3.fresh)
  have hf4:=hst4.fresh
  rw[<-hW4,<-hg2]
  have hwl:a.wl≠g1:=fun e=>by have h17:=hw4.2.1;rw[e,hz1]at h17;exact absurd h17 (by decide)
  have hwl2:a.wl≠g2:=fun e=>by have h17:=hw4.2.1;rw[e,hz2]at h17;exact absurd h17 (by decide)
  have h12:g1≠g2:=fun e=>by have:=hK3.lt;rw[e,hg2]at this;exact absurd this (Nat.lt_irrefl _)
  have hws:w.heap.size<W4.heap.size:=hB4.lt
  clear hW4 hg2 hw3 hm3 hB3 hK3 hd3 hst3 q4
  have hb0:=hw4.1
  have HX:=Lib.hid (And.intro hw4 (And.intro hm4 (And.intro hB4 (And.intro hd4 hst4))))
  have hcA:=hsh W4.drew v1 hf4 hw4.drew hd4.drew
  have hcB:=hsh (W4.alloc (.cells #[.slice none 0 0,.int .u64 0,.int .u64 0] 157)).drew v1 (fun i hi=>hf4 i (by simp at hi;omega)) (hw4.alloc _).drew (hd4.alloc _).drew
  clear hsh
  have p6:=s6of hb0 hK4 hN
  go_region_held3 (fun w'=>w'.cell? ⟨a.wl,6,none⟩=some (.pointer (some ⟨a.l,0,none⟩))/\w'.cell? ⟨g1,0,none⟩=some (.int .u64 ka)/\w'.cell? ⟨g1,1,none⟩=some (.int .u64 kb)/\w'.cell? ⟨g2,0,none⟩=some (.int .u32 ne)/\w'.cell? ⟨g2,1,none⟩=some (.int .u32 65535)/\w'.cell? ⟨g2,2,none⟩=some (.int .u64 nr))
   (first|(with_reducible exact s6of hb0 hK4 hN)|(with_reducible exact s6of hb0.drew hK4.drew hN.drew)|(with_reducible exact s6of (hb0.alloc _) (hK4.alloc _) (hN.alloc _))|(with_reducible exact s6of (hb0.alloc _).drew (hK4.alloc _).drew (hN.alloc _).drew)|(with_reducible exact s6of (hb0.far3 hx0 _ _ _) (hK4.far3 hx1 _ _ _) (hN.far3 hx2 _ _ _)))
   (first
     |(go_at_call 156;(with_reducible refine hcA.mono ?_);rintro e w5 ⟨v5,rfl,ρ5,o5,hw5,s5⟩;obtain⟨A5,z5,rfl⟩:=o5.slice;have t5:Ste rtW ρ W4 ρ5 w5:=(Ste.of_below (Below.refl _ _).drew hf4).trans s5;replace hb0:=hw5.1;replace hK4:=hK4.ste t5 (by rw[hz1];exact rtW0);replace hN:=hN.ste t5 (by rw[hz2];exact rtW0))
     |(go_at_call 156;(with_reducible refine hcB.mono ?_);rintro e w5 ⟨v5,rfl,ρ5,o5,hw5,s5⟩;obtain⟨A5,z5,rfl⟩:=o5.slice;have t5:Ste rtW ρ W4 ρ5 w5:=(Ste.of_below ((Below.refl _ _).alloc (Nat.le_refl _) _).drew hf4).trans s5;have hx0:a.wl≠W4.heap.size:=Nat.ne_of_lt hb0.lt;have hx1:g1≠W4.heap.size:=Nat.ne_of_lt hK4.lt;have hx2:g2≠W4.heap.size:=Nat.ne_of_lt hN.lt;replace hb0:=hw5.1;replace hK4:=hK4.ste t5 (by rw[hz1];exact rtW0);replace hN:=hN.ste t5 (by rw[hz2];exact rtW0);have hzx:ρ W4.heap.size=0:=hf4 _ (Nat.le_refl _);have bX:=(Blk.new W4 157 #[.slice none 0 0,.int .u64 0,.int .u64 0]).drew.ste s5 (by rw[hzx];exact rtW0);have x0:=bX.cell_ 0 rfl;have x1:=bX.cell_ 1 rfl;have x2:=bX.cell_ 2 rfl;have y0:=bX.frozen 0;have y1:=bX.frozen 1;have y2:=bX.frozen 2;have yl:=bX.lt))
  all_goals
   have hm5:=HX.out.2.1.ste t5 rtWm
   have bh5:=HX.out.2.2.1.ste t5 (by rw[hfr _ (Nat.le_refl _)];exact rtW0)
   have st5:=HX.out.2.2.2.2.trans (t5.mono (T':=rtLog) (fun r e=>.inl e))
   have hws5:=t5.size
   have hz5:=(t5.old _ hws).trans (hfr _ (Nat.le_refl _))
  refine gen_world (F:=fun W6=>Lq ρ w a m g2 w5.heap.size (W.lck (W.lk.shutd (ka,kb) ⟨ne,65535,nr⟩ [] D)) M.up #[.int .u64 c,.int .u32 cu,.int .i64 n,.int .u64 ta,.int .u64 tb] ne 65535 nr (.slice A5 ob.length z5) ob oa oc ρ5 W6) (Lq.of_alloc hw5 hm5 bh5 hN (o5.weak (fun b e=>e.2)) st5 hz5) ?_
  obtain⟨x,hx⟩:∃x,x=w5.heap.size:=⟨_,rfl⟩
  rw[<-hx]
  clear hx
  rotate_left 1
  refine gen_world (F:=fun W6=>Lq ρ w a m g2 W4.heap.size (W.lck (W.lk.shutd (ka,kb) ⟨ne,65535,nr⟩ [] D)) M.up #[.int .u64 c,.int .u32 cu,.int .i64 n,.int .u64 ta,.int .u64 tb] ne 65535 nr (.slice A5 ob.length z5) ob oa oc ρ5 W6) (Lq.of_set bX ((s5.old _ (by simp)).trans hzx) hws hx2 hw5 hm5 bh5 hN (o5.weak (fun b e=>⟨e.2,fun c=>by have:=e.1;rw[c]at this;simp at this;omega⟩)) st5 hz5) ?_
  obtain⟨x,hx⟩:∃x,x=W4.heap.size:=⟨_,rfl⟩
  rw[<-hx]
  clear hx
  rotate_left 1
  all_goals
   intro W6 hL
   have HL:=Lib.hid hL
   obtain⟨bx,wd,mm,bh,bn,ov,st⟩:=hL
   have hno:=HN.out.2.2.2.2.2.2.2
   have hfit:=HW.out.2.2
   have hot:=HN.out.2.2.2.2.2.1
   have hDl:D.length=32:=by rw[HN.out.2.2.2.2.2.2.1];exact rootB_len _ _ _ _
   have hob:ob.length=32:=by have:=Lk.shut_len W.lk W.curKey (M.nonce W.kys.cur 65535) [] D hDl;rw[<-HN.out.2.2.2.1,<-HN.out.2.2.2.2.1,<-hot]at this;exact this
   have hou:U2 (oa,oc):=by have:=Lk.shut_u hfit.lk (by omega) W.curKey (M.nonce W.kys.cur 65535) [] D;rw[<-HN.out.2.2.2.1,<-HN.out.2.2.2.2.1,<-hot]at this;exact this
   have hrc:=rrec_ok (ρ5 · =0) ne nr (.slice A5 ob.length z5) ob (oa,oc) W6 hno.1 hno.2.2 ov hob hou
   unfold nv at hrc
   simp only at hrc
   have hst6:=st.fresh
   have n0:=bn.cell_ 0 rfl
   have n1:=bn.cell_ 1 rfl
   have n2:=bn.cell_ 2 rfl
   have x0':=bx.cell_ 0 rfl
   have x1':=bx.cell_ 1 rfl
   have x2':=bx.cell_ 2 rfl
   have nl:=bn.lt
   have xl:=bx.lt
   have HOB:=Lib.hid hob
   clear bx bn ov hno hfit hot hou wd mm bh st hob hDl
   go_wp2_with fail
   refine hrc.mono ?_
   rintro e w7 ⟨v7,rfl,o7,q7⟩
   have hw7:=HL.out.wd.below_ q7
   have bh7:=HL.out.bh.below_ q7
   have hv7:=(o7.zero hst6).weak (q:=fun i=>¬rtW (ρ5 i)) (fun b e=>by rw[e];exact rtW0)
   have hf7:Fresh ρ5 w7:=fun i hi=>hst6 i (Nat.le_trans q7.size hi)
   have HQ:=Lib.hid q7
   have hzh:¬rtW (ρ5 w.heap.size):=by rw[HL.out.zh];exact rtW0
   have hb7:=hw7.1
   clear hrc n0 n1 n2 x0' x1' x2' nl xl o7 q7
   have hpl:=fun w' hh=>place_ok ρ5 a (W.lck (W.lk.shutd (ka,kb) ⟨ne,65535,nr⟩ [] D)) c w' hh HW.out.2.2.geo hc
   have hrl:=recB_len ne nr ob (oa,oc) HOB.out
   have hmod:c%2<=1:=by omega
   have hwr:=fun w' h1 h2 h3=>wswr_ok ρ5 a (W.lck (W.lk.shutd (ka,kb) ⟨ne,65535,nr⟩ [] D)) w' ((n*160+c%2*60:Nat):Int) v7 (recB ne nr ob (oa,oc)) h1 h2 h3 (in_of hrl HW.out.2.2.size HN.out.1 hmod) (Nat.le_trans HW.out.2.2.ssd (by omega))
   rw[show(W.lck (W.lk.shutd (ka,kb) ⟨ne,65535,nr⟩ [] D)).slots=n from HN.out.1.symm]at hpl
   rw[show(spend (W.lck (W.lk.shutd (ka,kb) ⟨ne,65535,nr⟩ [] D)).pow).2=_ from HSP.out]at hwr
   obtain⟨off,hoff⟩:∃off:Int,off=((n*160+c%2*60:Nat):Int):=⟨_,rfl⟩
   rw[<-hoff]at hpl hwr
   have HOF:=Lib.hid hoff
   clear hmod hrl hoff
   go_wp2_with fail
   have e0:=hb7.cell_ 2 rfl
   have e1:=bh7.cell_ 0 rfl
   have l0:=hb7.lt
   have l1:=bh7.lt
   have bh8:=bh7
   go_region_held3 (fun w'=>w'.cell? ⟨a.wl,2,none⟩=some (.pointer (some ⟨a.s,0,none⟩))/\w'.cell? ⟨w.heap.size,0,none⟩=some (.int .u64 c))
    (first|exact⟨hb7.cell_ 2 rfl,bh8.cell_ 0 rfl⟩)
    (first
      |(go_at_call 97;(with_reducible refine(hpl _ hw7.drew).mono ?_);rintro e w8 ⟨rfl,q8⟩;replace hb7:=hb7.drew.below_ q8;replace bh8:=bh8.drew.below_ q8;have hw8:=hw7.drew.below_ q8;have hv8:=hv7.drew.below_ q8;have hst8:Ste rtW ρ5 w7 ρ5 w8:=Ste.of_below ((Below.refl _ _).drew.trans q8) hf7;have hf8:Fresh ρ5 w8:=hst8.fresh)
      |(go_at_call 157;(with_reducible refine(hwr _ hf8 hw8 hv8).mono ?_);rintro e w9 ⟨rfl,ρ9,hw9,s9⟩;replace hb7:=hw9.1;replace bh8:=bh8.ste s9 hzh))
   have hfin:=Lib.hid (And.intro hw9 (And.intro hst8 s9))
   clear hw9 hst8 s9 hw8 hv8 hb7 bh8 bh7 e0 e1 hw7 hv7
   go_wp2_with fail
   go_ret
   obtain⟨hw9,hst8,s9⟩:=hfin.out
   refine⟨rfl,ρ9,?_,?_,?_⟩
   ·have e1:rlck W M c (ta,tb)=W.lck (W.lk.shutd (ka,kb) ⟨ne,65535,nr⟩ [] D):=by unfold rlck;rw[HN.out.2.2.1,HN.out.2.2.2.1,HN.out.2.2.2.2.1]
    have e2:rrec W M c (ta,tb)=recB ne nr ob (oa,oc):=by
     unfold rrec
     have q1:=HN.out.2.2.2.1
     have q2:=HN.out.2.2.2.2.1
     have q3:=HN.out.2.2.2.2.2.1
     rw[<-HN.out.2.2.1,<-q1,<-q2,<-q3]
     have q4:(W.kys.cur:Int)=ne:=(congrArg Nce.ep q1).symm
     rw[q4]
    have e3:((roff W c:Nat):Int)=off:=by rw[HOF.out];unfold roff;rw[HN.out.1]
    rw[e1,e2,e3]
    exact hw9
   ·exact((HL.out.mm.below_ HQ.out).ste hst8 rtWm).ste s9 rtWm
   ·exact((HL.out.st.trans (Ste.of_below HQ.out HL.out.st.fresh)).trans (hst8.mono (fun r e=>.inl e))).trans (s9.mono (fun r e=>.inl e))
theorem lg_ok (HS:ShutOk) (ρ:Rl) (a:Ads) (W:Wld) (m:Nat) (M:Mk) (c:Nat) (t:Two) (w:World) (hf:Fresh ρ w) (h:WldR ρ w a W) (hm:MkR ρ w m M) (hfit:W.fit 800000) (hc:c<4294967296) (ht:U2 t):
 Calls Tryz.prog 172 #[.pointer (some ⟨a.wl,0,none⟩),.pointer (some ⟨m,0,none⟩),.agg #[.int .u64 c,.int .u32 W.kys.cur,.int .i64 W.slots,.int .u64 t.1,.int .u64 t.2]] w fun e w'=>
  e=.returned (.int .i64 (lgput W M c t).1)/\∃ρ',WldR ρ' w' a (lgput W M c t).2.1/\MkR ρ' w' m (lgput W M c t).2.2/\Ste rtLog ρ w ρ' w':=by
 by_cases hn:M.n=100
 ·refine(lgput_full ρ a W m M c t w hf h hm hn hfit hc ht).mono ?_
  rintro e w1 ⟨rfl,q⟩
  have e1:lgput W M c t=(6,W,M):=by unfold lgput;rw[if_pos hn]
  rw[e1]
  exact⟨rfl,ρ,h.below_ q,hm.below_ q,Ste.of_below q hf⟩
 ·have hn':M.n<100:=by have:=hm.2.2.1;omega
  refine(lgput_ok HS ρ a W m M c t w hf h hm hn' hfit hc ht).mono ?_
  rintro e w1 ⟨rfl,ρ1,h1,h2,h3⟩
  have e1:lgput W M c t=((if(spend W.pow).2 then 0 else 7),(rlck W M c t).swr (roff W c) (rrec W M c t),M.up):=by unfold lgput;rw[if_neg hn]
  rw[e1]
  exact⟨rfl,ρ1,h1,h2,h3⟩
end Go.Proofs.YtggmdjdflaglpaaGreat
namespace Go.Proofs.YtggmdjdflaglpaaGreat
open Go.RowKit Go.Proofs.YtggmdjdflaglpaaGreat.geo
set_option linter.unusedVariables false
def sumB (f:Nat->Two) (i:Nat):By:=(List.range i).flatMap (fun k=>pairB (f k).1 (f k).2)
theorem sumB_succ (f:Nat->Two) (i:Nat):sumB f (i+1)=sumB f i++pairB (f i).1 (f i).2:=by
 unfold sumB
 rw[List.range_succ,List.flatMap_append]
 simp
theorem sumB_len (f:Nat->Two) (i:Nat):(sumB f i).length=16*i:=by
 induction i with
 |zero=>rfl
 |succ i ih=>rw[sumB_succ,List.length_append,ih,pairB_len];omega
def aoff (n k:Nat):Nat:=n*32+k*(n*64)
def noff (n k:Nat):Nat:=n*32+k*(n*64)+n*32
def aw1 (W:Wld) (ls:List Lf):Wld:=W.lck (bldL W.lk (ls.map leafB))
def aw2 (W:Wld) (k:Nat) (ls:List Lf):Wld:=(aw1 W ls).swr (aoff ls.length k) (allB ls ls.length)
def aw3 (W:Wld) (k:Nat) (ls:List Lf):Wld:=(aw2 W k ls).swr (noff ls.length k) (sumB (bldN W.lk (ls.map leafB)) (2*ls.length))
def awr (W:Wld) (k:Nat) (ls:List Lf):Two×Int×Wld:=
 if(spend W.pow).2 then(if(spend (aw2 W k ls).pow).2 then(bldN W.lk (ls.map leafB) 1,0,aw3 W k ls)else((0,0),7,aw3 W k ls))else((0,0),7,aw2 W k ls)
theorem in_gen {r:By}{o L:Nat}(hr:0<r.length) (h:o+r.length<=L):(⟨(o:Int),r⟩:Opn).in_ L:=
 ⟨by show(0:Int)<=(o:Int);omega,by show(o:Int)+(r.length:Int)<=(L:Int);omega,fun e=>by have e':r=[]:=e;rw[e']at hr;simp at hr⟩
theorem kn_le {k n:Nat}(hk:k<2):k*(n*64)<=n*64:=by
 have:k=0\/k=1:=by omega
 rcases this with rfl|rfl<;>omega
theorem s2of {w:World}{wl sa n m:Nat}{x1 x3 x4 x5 x6:Value}(hn:n=m) (b:Blk w wl 70 #[.int .i64 m,x1,.pointer (some ⟨sa,0,none⟩),x3,x4,x5,x6]):
 w.cell? ⟨wl,0,none⟩=some (.int .i64 n)/\w.cell? ⟨wl,2,none⟩=some (.pointer (some ⟨sa,0,none⟩)):=⟨by rw[hn];exact b.cell_ 0 rfl,b.cell_ 2 rfl⟩
theorem nrt0 {ρ:Rl}{b:Nat}(h:ρ b=0):¬rtOrc (ρ b):=by rw[h];unfold rtOrc;decide
theorem nrw0 {ρ:Rl}{b:Nat}(h:ρ b=0):¬rtW (ρ b):=by rw[h];exact rtW0
theorem World.ownsRow.lo {w:World}{B:Nat}{e:TypeId}{z n:Nat}{v:Value}{xs:List Value}(h:w.ownsRow B e z v n xs) {b:Nat}(hb:v.ownBlock=some b):B<=b:=by
 rcases h.2 with⟨rfl,_⟩|⟨r,c,cur,rfl,a2,_⟩
 ·simp[Value.ownBlock]at hb
 ·simp[Value.ownBlock]at hb
  subst hb
  exact a2
theorem Awi.below_ {h:Nat}{ls:List Lf}{i:Nat}{v8 v9:Value}{w w':World}(H:Awi h ls i v8 v9 w) (hb:Below w.heap.size w w'):Awi h ls i v8 v9 w':=by
 obtain⟨⟨xs,h1,h2,h3⟩,h4,h5⟩:=H
 exact⟨⟨xs,row_keep h1 (fun b hx _=>hb.block b hx),h2,fun j x l hj hl=>(h3 j x l hj hl).below_ hb⟩,h4.below_ hb,h5⟩
section
variable {P:Program}{ops:Array Oper}{Q:Exit->Act->World->Prop}{md:Region.Mode}{S:World->Prop}
theorem takeN {i:Nat}{oi:Oper}{v:Value}(N:Option Tmp) {fuel:Nat}{listed:Array Bool}{a:Act}{w:World}(hi:ops.toList[i]? =some oi) (hN:oi.dst=N)
 (hs:Region.noSelect ops=true) (hf:Region.free md ops listed i=true) (hr:(Region.ready md ops listed).contains i=true)
 (hQ:∀c a w,Q (.panic c) (a.put N v) w->Q (.panic c) a w) (hy:YieldsIf P ops S oi v a) (hS:S w)
 (h:wpAnyH P md ops Q S fuel (listed.setIfInBounds i true) (a.put N v) w):wpAnyH P md ops Q S (fuel+1) listed a w:=by
 subst hN
 exact wpAnyH_take (by rw[<-Array.getElem?_toList];exact hi) hs hf hr hQ hy hS h
theorem consN {fuel:Nat}{listed:Array Bool}{a:Act}{w:World}{i:Nat}{o:Oper}{rs:List Nat}(ho:ops.toList[i]? =some o)
 (h:∀K':Act->World->Prop,Shut (∀a w,S w->(S w->wpAnyH P md ops Q S fuel (listed.setIfInBounds i true) a w)->K' a w)->if Region.wanted o (yielded ops a.tmps)=true then Oper.wp P o a w K' Q else K' (a.put o.dst undef) w)
 (hs:AllReadyH P md ops Q S fuel listed a w rs):AllReadyH P md ops Q S fuel listed a w (i::rs):=
 AllReadyH.cons (by rw[<-Array.getElem?_toList];exact ho) h hs
end
set_option maxHeartbeats 8000000 in
set_option maxRecDepth 100000 in
theorem awr_ok (HS:SumOk) (ρ:Rl) (a:Ads) (W:Wld) (k:Nat) (v:Value) (ls:List Lf) (w:World) (hf:Fresh ρ w) (h:WldR ρ w a W) (hfit:W.fit 700000) (hk:k<2) (hv:LvsP (fun b=>¬rtW (ρ b)) w v ls) (hn:ls.length=W.slots) (hok:∀(i:Nat) (l:Lf),ls[i]? =some l->l.ok i):
 Calls Tryz.prog 170 #[.pointer (some ⟨a.wl,0,none⟩),.int .i64 k,v] w fun e w'=>
  e=.returned (.tuple #[pv (awr W k ls).1,.int .i64 (awr W k ls).2.1])/\∃ρ',WldR ρ' w' a (awr W k ls).2.2/\Ste rtW ρ w ρ' w':=by
 obtain⟨g,cap,rr,rfl,hg1,hg2⟩:=hv
 obtain⟨n,hn'⟩:∃n,n=ls.length:=⟨_,rfl⟩
 have hV:=hfit.geo
 rw[<-hn,<-hn']at hV
 have hn16:4<=n/\n<=16:=by unfold V at hV;omega
 rw[<-hn']
 have hfr:∀b,w.heap.size<=b->ρ b=0:=hf
 have c0:w.cell? ⟨a.wl,0,none⟩=some (.int .i64 n):=by rw[hn',hn];exact h.1.cell_ 0 rfl
 have l0:=h.1.lt
 have hbw:Below w.heap.size w (w.alloc (.cells #[.int .u64 0,.int .u64 0] 101)):=(Below.refl _ _).alloc (Nat.le_refl _) _
 have hB:Blk (w.alloc (.cells #[.int .u64 0,.int .u64 0] 101)) w.heap.size 101 #[.int .u64 0,.int .u64 0]:=Blk.new w 101 _
 have HW:=Lib.hid (And.intro h (And.intro hfit (And.intro hn (And.intro hn' hV))))
 have HG:=Lib.hid (And.intro hg1 (And.intro hg2 hok))
 clear h hfit hn hn' hV hok
 go_enter Tryz.func170,Tryz.ntmps170
 go_wp2_with fail
 refine(aris_ok a.wl k hk _).mono ?_
 rintro e w1 ⟨rfl,rfl⟩
 go_wp2_with fail
 have hst:Awi (w.heap.size+1) ls 0 (.slice none 0 0) (.slice none 0 0) (w.alloc (.cells #[.int .u64 0,.int .u64 0] 101)):=
  ⟨⟨[],World.ownsRow_nil _ _ _ _,rfl,fun j x l hj _=>by simp at hj⟩,OwnB.nil _ _,fun b hb=>by simp[Value.ownBlock]at hb⟩
 obtain⟨i0,hi0,hz0,hz1,hz2⟩:=info_parts info32
 obtain⟨i5,hi5,hy0,hy1,hy2⟩:=info_parts info5
 generalize w.alloc (.cells #[.int .u64 0,.int .u64 0] 101)=w1 at hst hB hbw ⊢
 go_loopw [8,9,36] (fun t8 t9 t36 wr=>∃i:Nat,t36=.int .i64 i/\i<=n/\Awi (w.heap.size+1) ls i t8 t9 wr/\Below w.heap.size w wr/\Blk wr w.heap.size 101 #[.int .u64 0,.int .u64 0]) (fun _ _ t _=>n-(intOf t).toNat)
 case atStart=>exact⟨0,rfl,by omega,hst,hbw,hB⟩
 case round=>
  obtain⟨i,rfl,hi,hI,hb,hBr⟩:=hrel
  clear hst hbw hB
  by_cases hlt:i<n
  ·obtain⟨l,hl⟩:∃l,ls[i]? =some l:=⟨_,List.getElem?_eq_getElem (by have:=HW.out.2.2.2.1;omega)⟩
   have hgr:=(HG.out.2.1.below_ hb).leaf hl
   have hlp:=fun W'=>lput_ok l i (by omega) (HG.out.2.2 i l hl) W'
   obtain⟨LB,hLB⟩:∃LB,LB=leafB l:=⟨_,rfl⟩
   rw[<-hLB]at hlp
   have HL:=Lib.hid (And.intro hl hLB)
   unfold lfv lfc at hlp
   unfold lfc at hgr
   obtain⟨kind,dirty,lba,⟨ep,sl,ver⟩,ta,tb⟩:=l
   simp only at hlp hgr
   have m0:(0:Int)<=(i:Int):=by omega
   have m1:(i:Int)<(n:Int):=by omega
   have HI:=Lib.hid (And.intro hI (And.intro hb hBr))
   have hrsz:=hb.size
   have sz8:(Tryz.prog.info? 103).map (·.size)=some ([.int .i64 kind,.bool dirty,.int .i64 lba,.int .u32 ep,.int .u32 sl,.int .u64 ver,.int .u64 ta,.int .u64 tb]:List Value).length:=sz103
   have hown8:∀b,u8.ownBlock=some b->b<wr.heap.size:=fun b c=>by obtain⟨xs,r1,_⟩:=hI.rows;exact row_lt r1 c
   have hown9:∀b,u9.ownBlock=some b->b<wr.heap.size:=fun b c=>(hI.all.ge c).2
   have HO:=Lib.hid (And.intro hown8 hown9)
   clear hI hb hBr hl hLB hown8 hown9
   go_wp2_with (with_reducible refine wpList_load_mid rfl 103 _ rfl g (i*8) rfl _ _ hgr Tryz.underlying103 rfl sz8 ?_)
   refine(hlp _).mono ?_
   rintro e w2 ⟨v13,rfl,o13,q2⟩
   obtain⟨hI,hb,hBr⟩:=HI.out
   have ha:Below wr.heap.size wr (wr.alloc (.cells #[.int .i64 kind,.bool dirty,.int .i64 lba,.int .u32 ep,.int .u32 sl,.int .u64 ver,.int .u64 ta,.int .u64 tb] 103)):=(Below.refl _ _).alloc (Nat.le_refl _) _
   have hI2:=(hI.below_ ha).below_ q2
   have hb2:=(hb.trans (ha.mono hb.size)).trans (q2.mono (by have:=hb.size;simp;omega))
   have hBr2:=(hBr.below_ ha).below_ q2
   have hwrl:=hBr.lt
   have hlen:LB.length=32:=by rw[HL.out.2];exact leafB_len _
   obtain⟨b13,p13,c13,rfl,hb13,hl13,hc13,hm13,hd13⟩:=o13.has.eight hlen (by omega)
   have hv13:HasP (fun b=>wr.heap.size<b) w2 (.slice (some ⟨b13,p13,none⟩) 32 c13) LB:=o13.has.weak (fun b e=>by simp at e;omega)
   clear hlp ha hI hb hBr hgr o13 q2
   obtain⟨⟨xs,r1,r2,r3⟩,r4,r5⟩:=hI2
   obtain⟨hown8,hown9⟩:=HO.out
   have hxv:HasP (fun b=>w.heap.size+1<=b/\u8.ownBlock≠some b/\u9.ownBlock≠some b) w2 (.slice (some ⟨b13,p13,none⟩) 32 c13) LB:=hv13.weak (fun b e=>⟨by omega,fun c=>by have:=hown8 b c;omega,fun c=>by have:=hown9 b c;omega⟩)
   have hnl:(bvals LB).length=32*1:=by rw[bvals_len,hlen]
   have hnb:=fun(W':World) (hh:∀(j:Nat) (u:UInt8),LB[j]? =some u->W'.cell? ⟨b13,p13+j,none⟩=some (.int .u8 (u.toNat:Int)))=>ex_slice (fun _=>True) W' b13 p13 c13 LB hh
   have hal:(allB ls i).length=32*i:=allB_len ls i (by have:=HW.out.2.2.2.1;omega)
   have r4':w2.ownsRow (w.heap.size+1) 5 1 u9 (32*i) (bvals (allB ls i)):=by rw[<-hal];exact r4
   have HX:=Lib.hid (And.intro r2 (And.intro r3 (And.intro r4 (And.intro r5 (And.intro hxv (And.intro hb2 (And.intro hBr2 (And.intro hlen hal))))))))
   have hB2l:=hBr2.lt
   clear r2 r3 r4 r5 hxv hb2 hBr2 hlen hal hv13 hown8 hown9
   go_wp2_with (first
    |(at_builtin;refine wpList_append_own_at _ rfl (.tmp 50) (.tmp 52) 57 rfl (w.heap.size+1) 32 i0 (.slice none 0 0) 1 24 Tryz.underlying57 hi0 hz0 hz1 hz2 rfl (by decide) u8 i xs rfl (World.ownsRow.alloc r1 _) ⟨w2.heap.size,0,none⟩ 1 1 [.slice (some ⟨b13,p13,none⟩) 32 c13] rfl rfl (cell_one_new w2 _ 32) (fun v hv=>by simp at hv;rw[hv];rfl) (by unfold maxLen;omega) (by omega) (by simp;omega) ?_;intro v8' w3 hr2 hg2' _ ho2;have hkp:∀b,b<(w2.alloc (.cells #[.slice (some ⟨b13,p13,none⟩) 32 c13] 32)).heap.size->u9.ownBlock=some b->w3.heap[b]? =(w2.alloc (.cells #[.slice (some ⟨b13,p13,none⟩) 32 c13] 32)).heap[b]? :=fun b hb e=>hg2'.block b hb (fun c=>HX.out.2.2.2.1 b c.symm e);have hcp:∀(j:Nat) (u:UInt8),LB[j]? =some u->w3.cell? ⟨b13,p13+j,none⟩=some (.int .u8 (u.toNat:Int)):=(fun j u hj=>by have e1:=hg2'.block b13 (Nat.lt_trans hl13 (by simp)) (fun c=>by have:=HO.out.1 b13 c.symm;simp at hb13;omega);have e2:=Below.heap_alloc w2 (.cells #[.slice (some ⟨b13,p13,none⟩) 32 c13] 32) b13 hl13;rw[<-hd13 j u hj];simp only[World.cell?,e1,e2]);have hsz3:w.heap.size<w3.heap.size:=(by have h1:=hg2'.size;simp at h1;omega))
    |(at_builtin;refine wpList_append_own_at _ rfl (.tmp 54) (.tmp 55) 32 rfl (w.heap.size+1) 5 i5 (.int .u8 0) 1 1 Tryz.underlying32 hi5 hy0 hy1 hy2 rfl (by decide) u9 (32*i) (bvals (allB ls i)) rfl (row_keep (World.ownsRow.alloc r4' _) hkp) ⟨b13,p13,none⟩ 32 c13 (bvals LB) rfl hnl (hnb _ hcp) (bvals_one _) (by unfold maxLen;omega) (by omega) (by omega) ?_;intro v9' w4 hr3 hg3 _ ho3))
   obtain⟨r2,r3,r4,r5,hxv,hb2,hBr2,hlen,hal⟩:=HX.out
   obtain⟨hl,hLB⟩:=HL.out
   have hpush:Awi (w.heap.size+1) ls (i+1) v8' v9' w4:=by
    rw[hLB]at hxv hr3
    refine Awi.push hl (World.ownsRow.alloc r1 _) r2 (fun j x l h1 h2=>(r3 j x l h1 h2).alloc _) (r4.alloc _) r5 (hxv.alloc _) hr2 hg2' ho2 ?_ hg3 ho3
    refine OwnB.of hr3 ?_ (bvals_app _ _).symm
    rw[List.length_append,hal,leafB_len]
   have hbA:=hb2.alloc hb2.size (.cells #[.slice (some ⟨b13,p13,none⟩) 32 c13] 32)
   have hz3:=hg2'.size
   have hbB:Below w.heap.size w w3:=hbA.grown hg2' hbA.size (fun b e=>by have:=(World.ownsRow.lo r1 e);omega)
   have hbC:Below w.heap.size w w4:=hbB.grown hg3 hbB.size (fun b e=>by have:=(r4.ge e).1;omega)
   have hBrC:Blk w4 w.heap.size 101 #[.int .u64 0,.int .u64 0]:=((hBr2.alloc _).grown hg2' (fun e=>by have:=(World.ownsRow.lo r1 e.symm);omega)).grown hg3 (fun e=>by have:=(r4.ge e.symm).1;omega)
   have HP:=Lib.hid (And.intro hpush (And.intro hbC hBrC))
   clear hpush hbA hbB hbC hBrC hr2 hr3 hg2' hg3 ho2 ho3 r1 r2 r3 r4 r5 hxv hb2 hBr2 hkp hcp hlen hal
   go_roundw
   case rel=>exact⟨i+1,by go_num,by omega,HP.out.1,HP.out.2.1,HP.out.2.2⟩
   case measure=>simp[intOf];omega
  ·obtain rfl:n=i:=by omega
   have hd:decide ((n:Int)<(n:Int))=false:=by simp
   obtain⟨h,hfit,hn,hn',hV⟩:=HW.out
   have hrows:RowsP (fun b=>¬rtOrc (ρ b)) wr u8 (ls.map leafB):=by
    obtain⟨xs,r1,r2,r3⟩:=hI.rows
    obtain⟨gb,cb,rfl⟩:=ownsRow_form2 r1 (by omega)
    have hc:=r1.cells (g:=gb) rfl
    refine⟨gb,0,cb,by rw[List.length_map,<-hn'],nrt0 (hfr gb (by have:=World.ownsRow.lo r1 (b:=gb) rfl;omega)),row_lt r1 (b:=gb) rfl,fun j m hj=>?_⟩
    rw[List.getElem?_map]at hj
    obtain⟨l,hl,rfl⟩:=Option.map_eq_some_iff.1 hj
    have hjl:=(List.getElem?_eq_some_iff.1 hl).1
    have hx:xs[j]? =some xs[j]:=List.getElem?_eq_getElem (by omega)
    refine⟨xs[j],?_,(r3 j _ l hx hl).weak (fun b e=>nrt0 (hfr b (by have:=e.1;omega)))⟩
    have:=hc j _ hx
    simpa[add_plain]using this
   have hwr:=h.below_ hb
   have hbd:=build_ok HS ρ a.l W.lk u8 (ls.map leafB) wr (fun i hi=>hfr i (Nat.le_trans hb.size hi)) hwr.2.2.2.2.2.2.2.2.2 (by rw[List.length_map,<-hn'];exact hV) hrows (fun x hx=>by obtain⟨l,_,rfl⟩:=List.mem_map.1 hx;exact leafB_len l) (Lk.lim_mono hfit.lk (by omega))
   rw[List.length_map,<-hn']at hbd
   have c6:wr.cell? ⟨a.wl,6,none⟩=some (.pointer (some ⟨a.l,0,none⟩)):=hwr.1.cell_ 6 rfl
   have lw:=hwr.1.lt
   have HA:=Lib.hid (And.intro hI (And.intro hb (And.intro hBr hwr)))
   clear hI hb hBr hrows hwr h hfit hn hn' hV
   go_wp2_with fail
   refine hbd.mono ?_
   rintro e w5 ⟨gn,rfl,hbn,hgn,hlk5,s5⟩
   clear hbd c6 lw
   go_wp2_with fail
   obtain⟨f,hf'⟩:∃f,f=bldN W.lk (ls.map leafB):=⟨_,rfl⟩
   rw[<-hf']at hbn
   have hfu:∀k,U2 (f k):=fun k=>by
    obtain⟨h,hfit,hn,hn',hV⟩:=HW.out
    rw[hf']
    unfold bldN
    exact nd2_u hfit.lk (by rw[List.length_map,<-hn'];omega) (by omega) _ _ (by rw[List.length_map,<-hn'];omega)
   have hfu':=hfu
   have hgl:=hbn.lt
   have HK:=Lib.hid (And.intro hbn (And.intro hgn (And.intro hlk5 (And.intro s5 (And.intro hf' hfu)))))
   clear hgn hlk5 s5 hf'
   have hstart:OwnB w5.heap.size w5 (.slice none 0 0) (sumB f 0):=OwnB.nil _ _
   have hbs:Below w5.heap.size w5 w5:=Below.refl _ _
   obtain⟨wo,hwo⟩:∃wo:World,wo=wr:=⟨_,rfl⟩
   rw[<-hwo]at HA HK
   clear hwo
   go_loopw [10,69] (fun t10 t69 wr=>∃j:Nat,t69=.int .i64 j/\j<=2*n/\OwnB w5.heap.size wr t10 (sumB f j)/\Below w5.heap.size w5 wr) (fun _ t _=>2*n-(intOf t).toNat)
   case atStart=>exact⟨0,rfl,by omega,hstart,hbs⟩
   case round=>
    obtain⟨j,rfl,hj,hO,hb⟩:=hrel
    clear hstart hbs
    by_cases hlt:j<2*n
    ·have hp:=pcells_at f hlt
     have hbn':=hbn.below_ hb
     have hjj:=(hfu' j)
     have p0:wr.cell? ⟨gn,j*2,none⟩=some (.int .u64 (f j).1):=hbn'.cell_ (j*2) (by rw[List.getElem?_toArray,Nat.mul_comm j 2];exact hp.1)
     have p1:wr.cell? ⟨gn,j*2+1,none⟩=some (.int .u64 (f j).2):=hbn'.cell_ (j*2+1) (by rw[List.getElem?_toArray,Nat.mul_comm j 2];exact hp.2)
     have pl:=hbn'.lt
     have m0:(0:Int)<=(j:Int):=by omega
     have m1:(j:Int)<2*(n:Int):=by omega
     have hby:=fun W'=>bytes_at (f j).1 (f j).2 W' hjj.1.1 hjj.1.2 hjj.2.1 hjj.2.2
     have hO':wr.ownsRow w5.heap.size 5 1 u10 (16*j) (bvals (sumB f j)):=by rw[<-sumB_len f j];exact hO
     have HJ:=Lib.hid (And.intro hO hb)
     have hws:=hb.size
     clear hO hb hp hbn' hjj
     go_wp2_with fail
     refine(hby _).mono ?_
     rintro e w6 ⟨A6,z6,rfl,o6,q6⟩
     obtain⟨b6,p6,c6,e6,_,hb6,_,_,hd6⟩:=o6.eight (pairB_len _ _) (by omega)
     injection e6 with e6a _ e6b
     subst e6a e6b
     have ha:Below wr.heap.size wr (wr.alloc (.cells #[.int .u64 (f j).1,.int .u64 (f j).2] 101)):=(Below.refl _ _).alloc (Nat.le_refl _) _
     have q7:=ha.trans (q6.mono ha.size)
     have hO6:w6.ownsRow w5.heap.size 5 1 u10 (16*j) (bvals (sumB f j)):=row_keep hO' (fun b hb _=>q7.block b hb)
     have hnl:(bvals (pairB (f j).1 (f j).2)).length=16*1:=by rw[bvals_len,pairB_len]
     have hnb:=ex_slice (fun _=>True) w6 b6 p6 z6 _ hd6
     have hsz6:=q7.size
     have HQ:=Lib.hid q7
     clear hby ha q6 o6 hd6 p0 p1 pl hO' q7
     go_wp2_with (at_builtin;refine wpList_append_own_at _ rfl (.tmp 73) (.tmp 75) 32 rfl w5.heap.size 5 i5 (.int .u8 0) 1 1 Tryz.underlying32 hi5 hy0 hy1 hy2 rfl (by decide) u10 (16*j) (bvals (sumB f j)) rfl hO6 ⟨b6,p6,none⟩ 16 z6 (bvals (pairB (f j).1 (f j).2)) rfl hnl hnb (bvals_one _) (by unfold maxLen;omega) (by omega) (by omega) ?_;intro v10' w7 hr7 hg7 _ ho7)
     have hO7:OwnB w5.heap.size w7 v10' (sumB f (j+1)):=OwnB.of hr7 (by rw[sumB_len];omega) (by rw[sumB_succ,bvals_app])
     have hb7:Below w5.heap.size w5 w7:=(HJ.out.2.trans (HQ.out.mono HJ.out.2.size)).grown hg7 (by omega) (fun b e=>World.ownsRow.lo hO6 e)
     have HP:=Lib.hid (And.intro hO7 hb7)
     clear hO7 hb7 hr7 hg7 ho7 hO6 hnb hnl
     go_roundw
     case rel=>exact⟨j+1,by go_num,by omega,HP.out.1,HP.out.2⟩
     case measure=>simp[intOf];omega
    ·obtain rfl:j=2*n:=by omega
     have hd2:decide (((2*n:Nat):Int)<2*(n:Int))=false:=by simp
     have HO2:=Lib.hid (And.intro hO hb)
     clear hO hb
     go_wp2_with fail
     obtain⟨h,hfit,hn,hn',hV⟩:=HW.out
     obtain⟨hI,hbo,hBr,hwo⟩:=HA.out
     obtain⟨hbn5,hgn,hlk5,s5,hfd,hfu2⟩:=HK.out
     obtain⟨hO,hb⟩:=HO2.out
     have hfo:Fresh ρ wo:=fun i hi=>hfr i (Nat.le_trans hbo.size hi)
     have hw1:WldR ρ wr a (aw1 W ls):=(hwo.put_lk hlk5 s5).below_ hb
     have hf1:Fresh ρ wr:=fun i hi=>s5.fresh i (Nat.le_trans hb.size hi)
     have hv9:HasP (ρ · =0) wr u9 (allB ls n):=((hI.all.has.weak (q:=(ρ · =0)) (fun b e=>hfr b (by omega))).ste s5 (by unfold rtOrc;decide)).below_ hb
     have hv10:HasP (ρ · =0) wr u10 (sumB f (2*n)):=hO.has.weak (fun b e=>s5.fresh b e)
     have hR0:Blk wr w.heap.size 101 #[.int .u64 0,.int .u64 0]:=(hBr.ste s5 (nrt0 (hfr _ (Nat.le_refl _)))).below_ hb
     have hN0:=hbn5.below_ hb
     have hstA:Ste rtW ρ w ρ wr:=((Ste.of_below (T:=rtW) hbo hf).trans (s5.mono (fun r e=>e.w))).trans (Ste.of_below hb s5.fresh)
     obtain⟨o1,ho1⟩:∃o1:Int,o1=((aoff n k:Nat):Int):=⟨_,rfl⟩
     obtain⟨o2,ho2⟩:∃o2:Int,o2=((noff n k:Nat):Int):=⟨_,rfl⟩
     have hlf:∀W',Calls Tryz.prog 100 #[.agg #[.int .i64 n],.int .i64 k,.int .i64 0] W' fun e w'=>e=.returned (.int .i64 o1)/\Below W'.heap.size W' w':=fun W'=>by
      have:=leaf_ok (n:Int) k 0 W' hV (by omega) (by omega) (by omega) (by omega)
      rw[show(n:Int)*32+(k:Int)*((n:Int)*64)+0*32=o1 by rw[ho1];unfold aoff;simp]at this
      exact this
     have hnf:∀W',Calls Tryz.prog 181 #[.agg #[.int .i64 n],.int .i64 k,.int .i64 0] W' fun e w'=>e=.returned (.int .i64 o2)/\Below W'.heap.size W' w':=fun W'=>by
      have:=node_ok (n:Int) k 0 W' hV (by omega) (by omega) (by omega) (by omega)
      rw[show(n:Int)*32+(k:Int)*((n:Int)*64)+(n:Int)*32+0*16=o2 by rw[ho2];unfold noff;simp]at this
      exact this
     have hkn:=kn_le (n:=n) hk
     have hL:=hfit.size
     have hin1:(⟨o1,allB ls n⟩:Opn).in_ (aw1 W ls).ssd.lasts.length:=by
      rw[ho1]
      refine in_gen (by rw[allB_len ls n (by omega)];omega) ?_
      show aoff n k+_<=W.ssd.lasts.length
      rw[hL,allB_len ls n (by omega),<-hn,<-hn']
      unfold aoff
      omega
     have hW1:=fun ρ' w' h1 h2 h3=>wswr_ok ρ' a (aw1 W ls) w' o1 u9 (allB ls n) h1 h2 h3 hin1 (Nat.le_trans hfit.ssd (by omega))
     have e2:aw2 W k ls=(aw1 W ls).swr o1 (allB ls n):=by unfold aw2;rw[<-hn',ho1]
     rw[<-e2]at hW1
     have hin2:(⟨o2,sumB f (2*n)⟩:Opn).in_ (aw2 W k ls).ssd.lasts.length:=by
      have hl2:(aw2 W k ls).ssd.lasts.length=W.ssd.lasts.length:=by
       rw[e2]
       unfold Wld.swr push
       simp only
       split<;>rfl
      rw[ho2,hl2]
      refine in_gen (by rw[sumB_len];omega) ?_
      rw[hL,sumB_len,<-hn,<-hn']
      unfold noff
      omega
     have hc2:(aw2 W k ls).ssd.cnt<=1000000:=by
      have h0:=hfit.ssd
      rw[e2]
      unfold Wld.swr push
      simp only
      split
      ·show W.ssd.cnt+2<=_;omega
      ·show W.ssd.cnt<=_;omega
     have hW2:=fun ρ' w' h1 h2 h3=>wswr_ok ρ' a (aw2 W k ls) w' o2 u10 (sumB f (2*n)) h1 h2 h3 hin2 hc2
     have e3:aw3 W k ls=(aw2 W k ls).swr o2 (sumB f (2*n)):=by unfold aw3;rw[<-hn',ho2,hfd]
     rw[<-e3]at hW2
     have c0':wr.cell? ⟨a.wl,0,none⟩=some (.int .i64 n):=by rw[hn',hn];exact hw1.1.cell_ 0 rfl
     have hb0:=hw1.1
     have hsn:n=W.slots:=by rw[hn',hn]
     have hz0:ρ w.heap.size=0:=hfr _ (Nat.le_refl _)
     have hzg:ρ gn=0:=hfr _ (Nat.le_trans hbo.size hgn)
     have hTop:bldN W.lk (ls.map leafB) 1=f 1:=by rw[hfd]
     obtain⟨b1,hb1⟩:∃b1,b1=(spend W.pow).2:=⟨_,rfl⟩
     obtain⟨b2,hb2⟩:∃b2,b2=(spend (aw2 W k ls).pow).2:=⟨_,rfl⟩
     rw[show(spend (aw1 W ls).pow).2=b1 from hb1.symm]at hW1
     rw[<-hb2]at hW2
     have HF:=Lib.hid (And.intro hb1 (And.intro hb2 (And.intro hTop hstA)))
     have HR:=Lib.hid (And.intro hR0 hN0)
     have HSN:=Lib.hid hsn
     clear h hfit hn hn' hV hI hbo hBr hwo hbn5 hgn hlk5 s5 hfd hfu2 hO hb hfo ho1 ho2 hkn hL hin1 e2 hin2 hc2 e3 hb1 hb2 hTop hstA c0' hR0 hN0 hsn
     have hw1d:=hw1.drew
     have hf1d:Fresh ρ wr.drew:=hf1
     cases b1
     ·refine wp_region_noPanic ?_
      refine wp_region_held_drew (S:=fun w'=>w'.cell? ⟨a.wl,0,none⟩=some (.int .i64 n)/\w'.cell? ⟨a.wl,2,none⟩=some (.pointer (some ⟨a.s,0,none⟩))) (by kernel_rfl) ?_ (fun hHeld=>?_)
      ·exact s2of (by exact HSN.out) hb0.drew
      refine takeN (i:=0) (some 78) (v:=?_) rfl rfl (by kernel_rfl) (by kernel_rfl) (by kernel_rfl) (fun _ _ _ h=>h) (Or.inl ⟨by rfl,?_⟩) (by assumption) ?_
      rotate_left 1
      ·intro w hSw
       try dsimp only at hSw
       go_simp
       try rfl
      simp only[Act.put,List.setIfInBounds_toArray,List.set_cons_zero,List.set_cons_succ]
      refine takeN (i:=1) (some 79) (v:=?_) rfl rfl (by kernel_rfl) (by kernel_rfl) (by kernel_rfl) (fun _ _ _ h=>h) (Or.inl ⟨by rfl,?_⟩) (by assumption) ?_
      rotate_left 1
      ·intro w hSw
       try dsimp only at hSw
       go_simp
       try rfl
      simp only[Act.put,List.setIfInBounds_toArray,List.set_cons_zero,List.set_cons_succ]
      refine takeN (i:=2) (some 80) (v:=?_) rfl rfl (by kernel_rfl) (by kernel_rfl) (by kernel_rfl) (fun _ _ _ h=>h) (Or.inl ⟨by rfl,?_⟩) (by assumption) ?_
      rotate_left 1
      ·intro w hSw
       try dsimp only at hSw
       go_simp
       try rfl
      simp only[Act.put,List.setIfInBounds_toArray,List.set_cons_zero,List.set_cons_succ]
      refine takeN (i:=3) (some 81) (v:=?_) rfl rfl (by kernel_rfl) (by kernel_rfl) (by kernel_rfl) (fun _ _ _ h=>h) (Or.inl ⟨by rfl,?_⟩) (by assumption) ?_
      rotate_left 1
      ·intro w hSw
       try dsimp only at hSw
       go_simp
       try rfl
      simp only[Act.put,List.setIfInBounds_toArray,List.set_cons_zero,List.set_cons_succ]
      refine takeN (i:=4) (some 82) (v:=?_) rfl rfl (by kernel_rfl) (by kernel_rfl) (by kernel_rfl) (fun _ _ _ h=>h) (Or.inl ⟨by rfl,?_⟩) (by assumption) ?_
      rotate_left 1
      ·intro w hSw
       try dsimp only at hSw
       go_simp
       try rfl
      simp only[Act.put,List.setIfInBounds_toArray,List.set_cons_zero,List.set_cons_succ]
      refine takeN (i:=5) (some 83) (v:=?_) rfl rfl (by kernel_rfl) (by kernel_rfl) (by kernel_rfl) (fun _ _ _ h=>h) (Or.inl ⟨by rfl,?_⟩) (by assumption) ?_
      rotate_left 1
      ·intro w hSw
       try dsimp only at hSw
       go_simp
       try rfl
      simp only[Act.put,List.setIfInBounds_toArray,List.set_cons_zero,List.set_cons_succ]
      refine takeN (i:=6) (some 84) (v:=?_) rfl rfl (by kernel_rfl) (by kernel_rfl) (by kernel_rfl) (fun _ _ _ h=>h) (Or.inl ⟨by rfl,?_⟩) (by assumption) ?_
      rotate_left 1
      ·intro w hSw
       try dsimp only at hSw
       go_simp
       try rfl
      simp only[Act.put,List.setIfInBounds_toArray,List.set_cons_zero,List.set_cons_succ]
      refine takeN (i:=7) (some 85) (v:=?_) rfl rfl (by kernel_rfl) (by kernel_rfl) (by kernel_rfl) (fun _ _ _ h=>h) (Or.inl ⟨by rfl,?_⟩) (by assumption) ?_
      rotate_left 1
      ·intro w hSw
       try dsimp only at hSw
       go_simp
       try rfl
      simp only[Act.put,List.setIfInBounds_toArray,List.set_cons_zero,List.set_cons_succ]
      refine takeN (i:=8) (some 86) (v:=?_) rfl rfl (by kernel_rfl) (by kernel_rfl) (by kernel_rfl) (fun _ _ _ h=>h) (Or.inl ⟨by rfl,?_⟩) (by assumption) ?_
      rotate_left 1
      ·intro w hSw
       try dsimp only at hSw
       go_simp
       try rfl
      simp only[Act.put,List.setIfInBounds_toArray,List.set_cons_zero,List.set_cons_succ]
      refine takeN (i:=10) (some 88) (v:=?_) rfl rfl (by kernel_rfl) (by kernel_rfl) (by kernel_rfl) (fun _ _ _ h=>h) (Or.inl ⟨by rfl,?_⟩) (by assumption) ?_
      rotate_left 1
      ·intro w hSw
       try dsimp only at hSw
       go_simp
       try rfl
      simp only[Act.put,List.setIfInBounds_toArray,List.set_cons_zero,List.set_cons_succ]
      refine wpAnyH_ready (rs:=[9]) (by kernel_rfl) (by simp) ?_
      refine consN rfl (fun K hK=>?_) AllReadyH.nil
      go_simp
      go_at_call 100
      with_reducible refine(hlf wr.drew).mono ?_
      rintro e w8 ⟨rfl,q8⟩
      have hw8:=hw1d.below_ q8
      have hv98:=hv9.drew.below_ q8
      have hf8:Fresh ρ w8:=(fun i hi=>hf1d i (Nat.le_trans q8.size hi))
      replace hb0:=hb0.drew.below_ q8
      go_wp2_with fail
      refine hK.out _ _ ?_ (fun hHeld=>?_)
      ·exact s2of (by exact HSN.out) hb0
      clear hK K
      refine wpAnyH_ready (rs:=[11]) (by kernel_rfl) (by simp) ?_
      refine consN rfl (fun K hK=>?_) AllReadyH.nil
      go_simp
      go_at_call 157
      with_reducible refine(hW1 ρ w8 hf8 hw8 (hv98.weak (fun b e=>nrw0 e))).mono ?_
      rintro e w9 ⟨rfl,ρ9,hw9,s9⟩
      replace hb0:=hw9.1
      go_wp2_with fail
      refine hK.out _ _ ?_ (fun hHeld=>?_)
      ·exact s2of (by exact HSN.out) hb0
      clear hK K
      refine takeN (i:=12) (some 90) (v:=?_) rfl rfl (by kernel_rfl) (by kernel_rfl) (by kernel_rfl) (fun _ _ _ h=>h) (Or.inl ⟨by rfl,?_⟩) (by assumption) ?_
      rotate_left 1
      ·intro w hSw
       try dsimp only at hSw
       go_simp
       try rfl
      simp only[Act.put,List.setIfInBounds_toArray,List.set_cons_zero,List.set_cons_succ]
      refine takeN (i:=13) (some 91) (v:=?_) rfl rfl (by kernel_rfl) (by kernel_rfl) (by kernel_rfl) (fun _ _ _ h=>h) (Or.inl ⟨by rfl,?_⟩) (by assumption) ?_
      rotate_left 1
      ·intro w hSw
       try dsimp only at hSw
       go_simp
       try rfl
      simp only[Act.put,List.setIfInBounds_toArray,List.set_cons_zero,List.set_cons_succ]
      refine takeN (i:=14) (some 92) (v:=undef) rfl rfl (by kernel_rfl) (by kernel_rfl) (by kernel_rfl) (fun _ _ _ h=>h) (Or.inr ⟨by rfl,rfl⟩) (by assumption) ?_
      simp only[Act.put,List.setIfInBounds_toArray,List.set_cons_zero,List.set_cons_succ]
      refine takeN (i:=15) (some 93) (v:=undef) rfl rfl (by kernel_rfl) (by kernel_rfl) (by kernel_rfl) (fun _ _ _ h=>h) (Or.inr ⟨by rfl,rfl⟩) (by assumption) ?_
      simp only[Act.put,List.setIfInBounds_toArray,List.set_cons_zero,List.set_cons_succ]
      refine takeN (i:=16) (some 94) (v:=undef) rfl rfl (by kernel_rfl) (by kernel_rfl) (by kernel_rfl) (fun _ _ _ h=>h) (Or.inr ⟨by rfl,rfl⟩) (by assumption) ?_
      simp only[Act.put,List.setIfInBounds_toArray,List.set_cons_zero,List.set_cons_succ]
      refine takeN (i:=17) (some 95) (v:=undef) rfl rfl (by kernel_rfl) (by kernel_rfl) (by kernel_rfl) (fun _ _ _ h=>h) (Or.inr ⟨by rfl,rfl⟩) (by assumption) ?_
      simp only[Act.put,List.setIfInBounds_toArray,List.set_cons_zero,List.set_cons_succ]
      refine takeN (i:=18) (some 96) (v:=undef) rfl rfl (by kernel_rfl) (by kernel_rfl) (by kernel_rfl) (fun _ _ _ h=>h) (Or.inr ⟨by rfl,rfl⟩) (by assumption) ?_
      simp only[Act.put,List.setIfInBounds_toArray,List.set_cons_zero,List.set_cons_succ]
      refine takeN (i:=19) (some 97) (v:=undef) rfl rfl (by kernel_rfl) (by kernel_rfl) (by kernel_rfl) (fun _ _ _ h=>h) (Or.inr ⟨by rfl,rfl⟩) (by assumption) ?_
      simp only[Act.put,List.setIfInBounds_toArray,List.set_cons_zero,List.set_cons_succ]
      refine takeN (i:=20) (some 98) (v:=undef) rfl rfl (by kernel_rfl) (by kernel_rfl) (by kernel_rfl) (fun _ _ _ h=>h) (Or.inr ⟨by rfl,rfl⟩) (by assumption) ?_
      simp only[Act.put,List.setIfInBounds_toArray,List.set_cons_zero,List.set_cons_succ]
      refine takeN (i:=21) (some 99) (v:=undef) rfl rfl (by kernel_rfl) (by kernel_rfl) (by kernel_rfl) (fun _ _ _ h=>h) (Or.inr ⟨by rfl,rfl⟩) (by assumption) ?_
      simp only[Act.put,List.setIfInBounds_toArray,List.set_cons_zero,List.set_cons_succ]
      refine takeN (i:=22) (some 100) (v:=undef) rfl rfl (by kernel_rfl) (by kernel_rfl) (by kernel_rfl) (fun _ _ _ h=>h) (Or.inr ⟨by rfl,rfl⟩) (by assumption) ?_
      simp only[Act.put,List.setIfInBounds_toArray,List.set_cons_zero,List.set_cons_succ]
      refine takeN (i:=23) (some 101) (v:=undef) rfl rfl (by kernel_rfl) (by kernel_rfl) (by kernel_rfl) (fun _ _ _ h=>h) (Or.inr ⟨by rfl,rfl⟩) (by assumption) ?_
      simp only[Act.put,List.setIfInBounds_toArray,List.set_cons_zero,List.set_cons_succ]
      refine takeN (i:=24) (some 102) (v:=undef) rfl rfl (by kernel_rfl) (by kernel_rfl) (by kernel_rfl) (fun _ _ _ h=>h) (Or.inr ⟨by rfl,rfl⟩) (by assumption) ?_
      simp only[Act.put,List.setIfInBounds_toArray,List.set_cons_zero,List.set_cons_succ]
      refine takeN (i:=25) (some 103) (v:=undef) rfl rfl (by kernel_rfl) (by kernel_rfl) (by kernel_rfl) (fun _ _ _ h=>h) (Or.inr ⟨by rfl,rfl⟩) (by assumption) ?_
      simp only[Act.put,List.setIfInBounds_toArray,List.set_cons_zero,List.set_cons_succ]
      refine takeN (i:=26) (some 104) (v:=undef) rfl rfl (by kernel_rfl) (by kernel_rfl) (by kernel_rfl) (fun _ _ _ h=>h) (Or.inr ⟨by rfl,rfl⟩) (by assumption) ?_
      simp only[Act.put,List.setIfInBounds_toArray,List.set_cons_zero,List.set_cons_succ]
      refine takeN (i:=27) (some 105) (v:=?_) rfl rfl (by kernel_rfl) (by kernel_rfl) (by kernel_rfl) (fun _ _ _ h=>h) (Or.inl ⟨by rfl,?_⟩) (by assumption) ?_
      rotate_left 1
      ·intro w hSw
       try dsimp only at hSw
       go_simp
       try rfl
      simp only[Act.put,List.setIfInBounds_toArray,List.set_cons_zero,List.set_cons_succ]
      refine wpAnyH_done (by kernel_rfl) ?_ _
      refine NoPanic.normal ?_
      have hR9:=((HR.out.1).below_ (((Below.refl _ _).drew).trans q8)).ste s9 (nrw0 hz0)
      have hl8:w.heap.size<w8.heap.size:=((HR.out.1).below_ (((Below.refl _ _).drew).trans q8)).lt
      have hst:Ste rtW ρ w ρ9 w9:=((HF.out.2.2.2.trans (Ste.of_below (Below.refl _ _).drew hf1)).trans (Ste.of_below q8 hf1d)).trans s9
      have hzR:ρ9 w.heap.size=0:=(s9.old _ hl8).trans hz0
      have HE:=Lib.hid (And.intro hw9 (And.intro hst (And.intro hR9 hzR)))
      have r0:=hR9.cell_ 0 rfl
      have r1:=hR9.cell_ 1 rfl
      have y0:=hR9.frozen 0
      have y1:=hR9.frozen 1
      have yl:=hR9.lt
      clear hw9 hst hR9 s9 q8 hw8 hv98 hb0 hW1 hW2 hlf hnf hw1 hw1d hv9 hv10 hf8 hzR
      go_wp2_with fail
      obtain⟨hw9,hst,hR9,hzR⟩:=HE.out
      have hA:awr W k ls=((0,0),7,aw2 W k ls):=by unfold awr;rw[<-HF.out.1];rfl
      have g2:=only_set2 w9 w.heap.size 0 1 (.int .u64 0) (.int .u64 0)
      have bR:=(hR9.set_to 0 (.int .u64 0) (cs':=#[.int .u64 0,.int .u64 0]) rfl).set_to 1 (.int .u64 0) (cs':=[.int .u64 0,.int .u64 0].toArray) rfl
      rw[hA]
      refine ret_cell_tmp 6 101 7 (by rfl) w.heap.size 0 (by rfl) (.int .i64 7) (by rfl) [.int .u64 0,.int .u64 0] _ bR.range Tryz.underlying101 rfl sz101 rfl ⟨rfl,ρ9,?_,?_⟩
      ·exact hw9.keep g2.size (fun b hb e=>⟨g2.block b hb (fun c=>by injection c with c;rw[c,hzR]at e;unfold rsW at e;omega),rfl⟩)
      ·have hch:Ch (fun i=>rtW (ρ i)) w _:=hst.ch.then_only g2 (Nat.le_refl _)
       exact⟨hch,hst.old,fun i hi=>hst.fresh i (Nat.le_trans g2.size hi)⟩
     ·cases b2
      all_goals
       go_region_held3 (fun w'=>w'.cell? ⟨a.wl,0,none⟩=some (.int .i64 n)/\w'.cell? ⟨a.wl,2,none⟩=some (.pointer (some ⟨a.s,0,none⟩)))
        (first|exact s2of (by exact HSN.out) hb0|exact s2of (by exact HSN.out) hb0.drew)
        (first
          |(go_at_call 100;(with_reducible refine(hlf wr.drew).mono ?_);rintro e w8 ⟨rfl,q8⟩;have hw8:=hw1d.below_ q8;have hv98:=hv9.drew.below_ q8;have hv108:=hv10.drew.below_ q8;have hf8:Fresh ρ w8:=(fun i hi=>hf1d i (Nat.le_trans q8.size hi));replace hb0:=hb0.drew.below_ q8)
          |(go_at_call 157;(with_reducible refine(hW1 ρ w8 hf8 hw8 (hv98.weak (fun b e=>nrw0 e))).mono ?_);rintro e w9 ⟨rfl,ρ9,hw9,s9⟩;replace hb0:=hw9.1;have hf9:Fresh ρ9 w9:=s9.fresh;have hv109:=hv108.ste s9 rtW0)
          |(go_at_call 181;(with_reducible refine(hnf w9).mono ?_);rintro e w10 ⟨rfl,q10⟩;have hw10:=hw9.below_ q10;have hv1010:=hv109.below_ q10;have hf10:Fresh ρ9 w10:=(fun i hi=>hf9 i (Nat.le_trans q10.size hi));replace hb0:=hb0.below_ q10)
          |(go_at_call 157;(with_reducible refine(hW2 ρ9 w10 hf10 hw10 (hv1010.weak (fun b e=>nrw0 e))).mono ?_);rintro e w11 ⟨rfl,ρ11,hw11,s11⟩;replace hb0:=hw11.1))
       obtain⟨g2,gB⟩:=HR.out
       have hR9:=(g2.below_ (((Below.refl _ _).drew).trans q8)).ste s9 (nrw0 hz0)
       have hN9:=(gB.below_ (((Below.refl _ _).drew).trans q8)).ste s9 (nrw0 hzg)
       have hl8:w.heap.size<w8.heap.size:=(g2.below_ (((Below.refl _ _).drew).trans q8)).lt
       have hg8:gn<w8.heap.size:=(gB.below_ (((Below.refl _ _).drew).trans q8)).lt
       have hR11:=(hR9.below_ q10).ste s11 (nrw0 ((s9.old _ hl8).trans hz0))
       have hN11:=(hN9.below_ q10).ste s11 (nrw0 ((s9.old _ hg8).trans hzg))
       have hst:Ste rtW ρ w ρ11 w11:=(((HF.out.2.2.2.trans (Ste.of_below (Below.refl _ _).drew hf1)).trans (Ste.of_below q8 hf1d)).trans s9).trans ((Ste.of_below q10 hf9).trans s11)
       have hzR:ρ11 w.heap.size=0:=(s11.old _ (by have:=s9.size;have:=q10.size;omega)).trans ((s9.old _ hl8).trans hz0)
       have HE:=Lib.hid (And.intro hw11 (And.intro hst (And.intro hR11 (And.intro hN11 hzR))))
       have r0:=hR11.cell_ 0 rfl
       have r1:=hR11.cell_ 1 rfl
       have y0:=hR11.frozen 0
       have y1:=hR11.frozen 1
       have yl:=hR11.lt
       have hp:=pcells_at (n:=2*n) f (k:=1) (by omega)
       have p0:w11.cell? ⟨gn,2,none⟩=some (.int .u64 (f 1).1):=hN11.cell_ 2 (by rw[List.getElem?_toArray];exact hp.1)
       have p1:w11.cell? ⟨gn,3,none⟩=some (.int .u64 (f 1).2):=hN11.cell_ 3 (by rw[List.getElem?_toArray];exact hp.2)
       have pl:=hN11.lt
       have m1:(1:Int)<2*(n:Int):=by omega
       clear hw11 hst hR11 hN11 hR9 hN9 g2 gB s9 s11 q8 q10 hw8 hw9 hw10 hv98 hv108 hv109 hv1010 hb0 hW1 hW2 hlf hnf hw1 hw1d hv9 hv10 hp hf8 hf9 hf10 hzR
       go_wp2_with fail
      ·obtain⟨hw11,hst,hR11,hN11,hzR⟩:=HE.out
       have hA:awr W k ls=((0,0),7,aw3 W k ls):=by unfold awr;rw[<-HF.out.1,<-HF.out.2.1];rfl
       have g2:=only_set2 w11 w.heap.size 0 1 (.int .u64 0) (.int .u64 0)
       have bR:=(hR11.set_to 0 (.int .u64 0) (cs':=#[.int .u64 0,.int .u64 0]) rfl).set_to 1 (.int .u64 0) (cs':=[.int .u64 0,.int .u64 0].toArray) rfl
       rw[hA]
       refine ret_cell_tmp 6 101 7 (by rfl) w.heap.size 0 (by rfl) (.int .i64 7) (by rfl) [.int .u64 0,.int .u64 0] _ bR.range Tryz.underlying101 rfl sz101 rfl ⟨rfl,ρ11,?_,?_⟩
       ·exact hw11.keep g2.size (fun b hb e=>⟨g2.block b hb (fun c=>by injection c with c;rw[c,hzR]at e;unfold rsW at e;omega),rfl⟩)
       ·have hch:Ch (fun i=>rtW (ρ i)) w _:=hst.ch.then_only g2 (Nat.le_refl _)
        exact⟨hch,hst.old,fun i hi=>hst.fresh i (Nat.le_trans g2.size hi)⟩
      ·obtain⟨hw11,hst,hR11,hN11,hzR⟩:=HE.out
       have hA:awr W k ls=(f 1,0,aw3 W k ls):=by unfold awr;rw[<-HF.out.1,<-HF.out.2.1,HF.out.2.2.1];rfl
       have g2:=only_set2 w11 w.heap.size 0 1 (.int .u64 (f 1).1) (.int .u64 (f 1).2)
       have bR:=(hR11.set_to 0 (.int .u64 (f 1).1) (cs':=#[.int .u64 (f 1).1,.int .u64 0]) rfl).set_to 1 (.int .u64 (f 1).2) (cs':=[.int .u64 (f 1).1,.int .u64 (f 1).2].toArray) rfl
       rw[hA]
       refine ret_cell_tmp 6 101 7 (by rfl) w.heap.size 0 (by rfl) (.int .i64 0) (by rfl) [.int .u64 (f 1).1,.int .u64 (f 1).2] _ bR.range Tryz.underlying101 rfl sz101 rfl ⟨rfl,ρ11,?_,?_⟩
       ·exact hw11.keep g2.size (fun b hb e=>⟨g2.block b hb (fun c=>by injection c with c;rw[c,hzR]at e;unfold rsW at e;omega),rfl⟩)
       ·have hch:Ch (fun i=>rtW (ρ i)) w _:=hst.ch.then_only g2 (Nat.le_refl _)
        exact⟨hch,hst.old,fun i hi=>hst.fresh i (Nat.le_trans g2.size hi)⟩
end Go.Proofs.YtggmdjdflaglpaaGreat
namespace Go.Proofs.YtggmdjdflaglpaaGreat
open Go.RowKit Go.Proofs.YtggmdjdflaglpaaGreat.geo
set_option linter.unusedVariables false
theorem Wld.fit.mono {W:Wld}{k j:Nat}(h:W.fit k) (hj:k<=j):W.fit j:=
 ⟨h.geo,h.size,Nat.le_trans h.ssd hj,Nat.le_trans h.dsk hj,Lk.lim_mono h.lk hj,⟨Nat.le_trans h.cnt.1 hj,Nat.le_trans h.cnt.2 hj⟩,Nat.le_trans h.kys hj,h.wts⟩
theorem Wld.fit.lck {W:Wld}{k:Nat}(h:W.fit k) {L:Lk}(hL:L.lim k):(W.lck L).fit k:=⟨h.geo,h.size,h.ssd,h.dsk,hL,h.cnt,h.kys,h.wts⟩
theorem Wld.fit.swr {W:Wld}{k:Nat}(h:W.fit k) {off:Int}{b:By}(hin:(⟨off,b⟩:Opn).in_ W.ssd.lasts.length):(W.swr off b).fit (k+2):=by
 have h':=h.mono (j:=k+2) (by omega)
 cases hs:(spend W.pow).2 with
 |false=>
  have e:W.swr off b={W with pow:=(spend W.pow).1}:=by unfold Wld.swr;rw[hs];rfl
  rw[e]
  exact⟨h'.geo,h'.size,h'.ssd,h'.dsk,h'.lk,h'.cnt,h'.kys,h'.wts⟩
 |true=>
  have e:W.swr off b={W with pow:=(spend W.pow).1,ssd:=push W.ssd off b}:=by unfold Wld.swr;rw[hs];rfl
  rw[e]
  refine⟨h'.geo,h'.size,by have:=h.ssd;show W.ssd.cnt+2<=k+2;omega,h'.dsk,h'.lk,h'.cnt,h'.kys,fun o ho=>?_⟩
  rcases List.mem_append.1 ho with ho|ho
  ·exact h.wts o ho
  ·rw[List.mem_singleton.1 ho];exact hin
theorem snap_len (S:Ssd) (h:∀o∈S.waits,o.in_ S.lasts.length):(snap S).length=S.lasts.length:=by
 rw[<-snapTo_all]
 exact snapTo_len S h _
theorem Wld.fit.sbar {W:Wld}{k:Nat}(h:W.fit k):W.sbar.fit (k+1):=by
 have h':=h.mono (j:=k+1) (by omega)
 cases hs:(spend W.pow).2 with
 |false=>
  have e:W.sbar={W with pow:=(spend W.pow).1}:=by unfold Wld.sbar;rw[hs];rfl
  rw[e]
  exact⟨h'.geo,h'.size,h'.ssd,h'.dsk,h'.lk,h'.cnt,h'.kys,h'.wts⟩
 |true=>
  have e:W.sbar={W with pow:=(spend W.pow).1,ssd:=settled W.ssd}:=by unfold Wld.sbar;rw[hs];rfl
  rw[e]
  exact⟨h'.geo,(snap_len _ h.wts).trans h.size,by have:=h.ssd;show W.ssd.cnt+1<=k+1;omega,h'.dsk,h'.lk,h'.cnt,h'.kys,fun o ho=>by simp[settled]at ho⟩
theorem Wld.fit.bmp {W:Wld}{k:Nat}(h:W.fit k):W.bmp.fit (k+1):=by
 have h':=h.mono (j:=k+1) (by omega)
 refine⟨h'.geo,h'.size,h'.ssd,h'.dsk,h'.lk,?_,h'.kys,h'.wts⟩
 have:=h.cnt
 unfold Wld.bmp
 simp only
 split
 ·exact⟨by show W.cnt.value+1<=k+1;omega,by show W.cnt.boots<=k+1;omega⟩
 ·exact h'.cnt
theorem Wld.fit.dwr {W:Wld}{k:Nat}(h:W.fit k) (i:Int) (b:By):(W.dwr i b).fit (k+2):=by
 have h':=h.mono (j:=k+2) (by omega)
 unfold Wld.dwr
 split
 ·exact h'
 ·refine⟨h'.geo,h'.size,h'.ssd,?_,h'.lk,h'.cnt,h'.kys,h'.wts⟩
  have:=h.dsk
  simp only
  split
  ·show W.dsk.cnt+2<=k+2;omega
  ·exact h'.dsk
theorem Wld.fit.dbar {W:Wld}{k:Nat}(h:W.fit k):W.dbar.fit (k+1):=by
 have h':=h.mono (j:=k+1) (by omega)
 refine⟨h'.geo,h'.size,h'.ssd,?_,h'.lk,h'.cnt,h'.kys,h'.wts⟩
 have:=h.dsk
 unfold Wld.dbar
 simp only
 split
 ·show W.dsk.cnt+1<=k+1;omega
 ·exact h'.dsk
theorem Wld.fit.kadd {W:Wld}{k:Nat}(h:W.fit k):W.kadd.fit k:=by
 refine⟨h.geo,h.size,h.ssd,h.dsk,h.lk,h.cnt,?_,h.wts⟩
 have:=h.kys
 unfold Wld.kadd
 simp only
 split
 ·exact this
 ·exact this
theorem Wld.fit.kdel {W:Wld}{k:Nat}(h:W.fit k):W.kdel.fit (k+1):=by
 have h':=h.mono (j:=k+1) (by omega)
 refine⟨h'.geo,h'.size,h'.ssd,h'.dsk,h'.lk,h'.cnt,?_,h'.wts⟩
 have:=h.kys
 unfold Wld.kdel
 simp only
 split
 ·show W.kys.a+1<=k+1;omega
 ·exact h'.kys
end Go.Proofs.YtggmdjdflaglpaaGreat
namespace Go.Proofs.YtggmdjdflaglpaaGreat
open Go.RowKit Go.Proofs.YtggmdjdflaglpaaGreat.geo
set_option linter.unusedVariables false
theorem bldL_lim {L:Lk}{k:Nat}(h:L.lim k) (R:List By) (hR:R.length<=16):(bldL L R).lim (k+32):=Lk.lim_mono (nd2_lim h _) (by omega)
theorem awr_fit {W:Wld}{j k:Nat}{ls:List Lf}(h:W.fit j) (hk:k<2) (hn:ls.length=W.slots):(awr W k ls).2.2.fit (j+40):=by
 have hV:=h.geo
 have hn16:4<=ls.length/\ls.length<=16:=by unfold V at hV;omega
 have f1:(aw1 W ls).fit (j+32):=(h.mono (by omega)).lck (bldL_lim h.lk _ (by rw[List.length_map];omega))
 have hkn:=kn_le (n:=ls.length) hk
 have f2:(aw2 W k ls).fit (j+34):=by
  refine f1.swr (in_gen (by rw[allB_len ls _ (Nat.le_refl _)];omega) ?_)
  show aoff ls.length k+_<=W.ssd.lasts.length
  rw[h.size,allB_len ls _ (Nat.le_refl _),<-hn]
  unfold aoff
  omega
 have f3:(aw3 W k ls).fit (j+36):=by
  refine f2.swr (in_gen (by rw[sumB_len];omega) ?_)
  have hs:=f2.size
  have hsl:(aw2 W k ls).slots=W.slots:=rfl
  rw[hsl]at hs
  rw[hs,sumB_len,<-hn]
  unfold noff
  omega
 unfold awr
 split
 ·split
  ·exact f3.mono (by omega)
  ·exact f3.mono (by omega)
 ·exact f2.mono (by omega)
theorem awr_slots (W:Wld) (k:Nat) (ls:List Lf):(awr W k ls).2.2.slots=W.slots/\(awr W k ls).2.2.cnt=W.cnt/\(awr W k ls).2.2.kys=W.kys/\(awr W k ls).2.2.dsk=W.dsk:=by
 unfold awr
 split
 ·split<;>exact⟨rfl,rfl,rfl,rfl⟩
 ·exact⟨rfl,rfl,rfl,rfl⟩
theorem lgput_fit {W:Wld}{M:Mk}{c j:Nat}{t:Two}(h:W.fit j) (hj:j<=1000000):(lgput W M c t).2.1.fit (j+4):=by
 unfold lgput
 split
 ·exact h.mono (by omega)
 ·have f1:(rlck W M c t).fit (j+1):=(h.mono (by omega)).lck (Lk.lim_shutd h.lk _ _ _ _)
  have hl:(rrec W M c t).length=60:=recB_len _ _ _ _ (Lk.shut_len _ _ _ _ _ (rootB_len _ _ _ _))
  have hm:c%2<=1:=by omega
  have f2:=f1.swr (off:=((roff W c:Nat):Int)) (b:=rrec W M c t) (in_gen (by rw[hl];omega) (by
   show roff W c+_<=W.ssd.lasts.length
   rw[h.size,hl]
   unfold roff
   omega))
  exact f2.mono (by omega)
def cmt (W:Wld) (M:Mk) (ls:List Lf):Int×Wld×Mk:=
 if(awr W ((W.cnt.value+1)%2) ls).2.1≠0 then((awr W ((W.cnt.value+1)%2) ls).2.1,(awr W ((W.cnt.value+1)%2) ls).2.2,M)
 else if(spend (awr W ((W.cnt.value+1)%2) ls).2.2.pow).2=false then(7,(awr W ((W.cnt.value+1)%2) ls).2.2.sbar,M)
 else if(lgput (awr W ((W.cnt.value+1)%2) ls).2.2.sbar M (W.cnt.value+1) (awr W ((W.cnt.value+1)%2) ls).1).1≠0 then lgput (awr W ((W.cnt.value+1)%2) ls).2.2.sbar M (W.cnt.value+1) (awr W ((W.cnt.value+1)%2) ls).1
 else if(spend (lgput (awr W ((W.cnt.value+1)%2) ls).2.2.sbar M (W.cnt.value+1) (awr W ((W.cnt.value+1)%2) ls).1).2.1.pow).2=false then(7,(lgput (awr W ((W.cnt.value+1)%2) ls).2.2.sbar M (W.cnt.value+1) (awr W ((W.cnt.value+1)%2) ls).1).2.1.sbar,(lgput (awr W ((W.cnt.value+1)%2) ls).2.2.sbar M (W.cnt.value+1) (awr W ((W.cnt.value+1)%2) ls).1).2.2)
 else((if(spend (lgput (awr W ((W.cnt.value+1)%2) ls).2.2.sbar M (W.cnt.value+1) (awr W ((W.cnt.value+1)%2) ls).1).2.1.sbar.pow).2 then 0 else 7),(lgput (awr W ((W.cnt.value+1)%2) ls).2.2.sbar M (W.cnt.value+1) (awr W ((W.cnt.value+1)%2) ls).1).2.1.sbar.bmp,(lgput (awr W ((W.cnt.value+1)%2) ls).2.2.sbar M (W.cnt.value+1) (awr W ((W.cnt.value+1)%2) ls).1).2.2)
end Go.Proofs.YtggmdjdflaglpaaGreat
