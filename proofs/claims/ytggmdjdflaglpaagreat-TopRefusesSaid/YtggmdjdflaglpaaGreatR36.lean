/- The power's fuse, the power back; the world's Crash. The lock by the real sealer: Open, Seal. Either lock's Open and Seal, as they are asked above. The real lock's Sum, given digest.Sum. digest.Step. -/
import Derived.Test.YtggmdjdflaglpaaGreatR09
import Derived.Test.YtggmdjdflaglpaaGreatR22
import Derived.Test.YtggmdjdflaglpaaGreatR34
import Derived.Test.YtggmdjdflaglpaaGreatR19
import Derived.Test.YtggmdjdflaglpaaGreatR23
namespace Go.Proofs.YtggmdjdflaglpaaGreat
open Go.RowKit Go.Proofs.YtggmdjdflaglpaaGreat.geo
set_option linter.unusedVariables false
def Pow.back (P:Pow):Pow:=⟨false,false,P.left⟩
def Pow.fused (P:Pow) (n:Int):Pow:=⟨P.gone,decide (0<=n),n⟩
theorem back_ok (p:Nat) (P:Pow) (w:World) (h:PowR w p P):Calls Tryz.prog 79 #[.pointer (some ⟨p,0,none⟩)] w fun e w'=>e=.returned (.tuple #[])/\PowR w' p P.back/\w.grownBy w' (some p):=by
 obtain⟨st,hb,_⟩:=h
 have c0:=hb.cell_ 0 rfl
 have c1:=hb.cell_ 1 rfl
 have f0:=hb.frozen 0
 have f1:=hb.frozen 1
 have hl:=hb.lt
 have HB:=Lib.hid hb
 clear hb
 go_enter Tryz.func79,Tryz.ntmps79
 go_wp2_with fail
 go_end0
 refine⟨rfl,⟨st,(HB.out.set_to 0 (.bool false) (cs':=#[.bool false,.bool P.fuse,.int .i64 P.left,.int .i64 st]) rfl).set_to 1 (.bool false) rfl,fun h=>by cases h⟩,only_set2 _ _ _ _ _ _⟩
theorem fuse_ok (p:Nat) (P:Pow) (n:Int) (w:World) (h:PowR w p P) (hn:n<=9223372036854775807):Calls Tryz.prog 18 #[.pointer (some ⟨p,0,none⟩),.int .i64 n] w fun e w'=>e=.returned (.tuple #[])/\PowR w' p (P.fused n)/\w.grownBy w' (some p):=by
 obtain⟨st,hb,_⟩:=h
 have c1:=hb.cell_ 1 rfl
 have c2:=hb.cell_ 2 rfl
 have f1:=hb.frozen 1
 have f2:=hb.frozen 2
 have hl:=hb.lt
 have HB:=Lib.hid hb
 obtain⟨B,hB⟩:∃B,B=decide (0<=n):=⟨_,rfl⟩
 have HD:=Lib.hid hB
 clear hb
 go_enter Tryz.func18,Tryz.ntmps18
 go_wp2_with fail
 go_end0
 refine⟨rfl,⟨st,(HB.out.set_to 1 (.bool (decide (0<=n))) (cs':=#[.bool P.gone,.bool (decide (0<=n)),.int .i64 P.left,.int .i64 st]) rfl).set_to 2 (.int .i64 n) rfl,fun h=>⟨of_decide_eq_true h,hn⟩⟩,only_set2 _ _ _ _ _ _⟩
def Wld.fuse (W:Wld) (n:Int):Wld:={W with pow:=W.pow.fused n}
def Wld.crash (W:Wld) (ks:List Bool):Wld:={W with pow:=W.pow.back,ssd:=crashed W.ssd ks,dsk:=dcrashed W.dsk ks}
section
variable (ρ:Rl) (a:Ads) (W:Wld) (w:World)
theorem WldR.put_pow {ρ:Rl}{a:Ads}{W:Wld}{w w':World}(h:WldR ρ w a W) {P:Pow}(hp:PowR w' a.p P) (hg:w.grownBy w' (some a.p)) (hf:Fresh ρ w):WldR ρ w' a {W with pow:=P}/\Ste rtW ρ w ρ w':=by
 have h7:=h.2.2.2.2.2.2.1
 have hne:=h.ne
 refine h.put_cnt (C:=W.cnt) hp (CntR.keep h7 (hg.block a.c (Blk.lt h7) (fun e=>hne (Option.some.inj e).symm))) ((Ch.of_grown hg (S:=fun i=>i=a.p) rfl).mono (fun i e=>.inl e)) hf
theorem wfuse_ok (n:Int) (hf:Fresh ρ w) (h:WldR ρ w a W) (hn:n<=9223372036854775807):Calls Tryz.prog 18 #[.pointer (some ⟨a.p,0,none⟩),.int .i64 n] w fun e w'=>e=.returned (.tuple #[])/\WldR ρ w' a (W.fuse n)/\Ste rtW ρ w ρ w':=by
 refine(fuse_ok a.p W.pow n w h.2.2.1 hn).mono ?_
 rintro e w1 ⟨rfl,hp,hg⟩
 exact⟨rfl,h.put_pow hp hg hf⟩
set_option maxHeartbeats 2000000 in
set_option maxRecDepth 100000 in
theorem wcrash_ok (kv:Value) (ks:List Bool) (hf:Fresh ρ w) (h:WldR ρ w a W) (hfit:W.fit 900000) (hkv:HasK (fun b=>¬rtW (ρ b)) w kv ks) (hkl:ks.length<=1000):
 Calls Tryz.prog 45 #[.pointer (some ⟨a.wl,0,none⟩),kv] w fun e w'=>e=.returned (.tuple #[])/\WldR ρ w' a (W.crash ks)/\Ste rtW ρ w ρ w':=by
 have hne:W.ssd.lasts≠[]:=fun e=>by have:=hfit.size;rw[e]at this;simp at this
 have hs:=scrash_ok ρ a.p a.s W.ssd ks kv w hf h.2.2.2.2.1 (Nat.le_trans hfit.ssd (by omega)) hne (hkv.weakB (fun b hb e c=>e (by rcases c with c|c<;>rw[c]<;>unfold rtW<;>decide))) hkl
 obtain⟨A,cp,hkvs⟩:∃A c,kv=.slice A ks.length c:=by obtain⟨A,c,e,_⟩:=hkv;exact⟨A,c,e⟩
 obtain⟨nk,hnk⟩:∃nk,nk=ks.length:=⟨_,rfl⟩
 have hd:=fun W' (hh:DskR ρ W' a.p a.d W.dsk) (hf':Fresh ρ W') (hk:HasK (fun b=>¬rtW (ρ b)) W' kv ks)=>dcrash_ok ρ a.p a.d W.dsk ks kv W' hf' hh (Nat.le_trans hfit.dsk (by omega)) (hk.weakB (fun b hb e c=>e (by rw[c];unfold rtW;decide))) hkl
 have hb:=fun W' (hh:PowR W' a.p W.pow)=>back_ok a.p W.pow W' hh
 have hww:=h.1
 have c1:=hww.cell_ 1 rfl
 have c2:=hww.cell_ 2 rfl
 have c3:=hww.cell_ 3 rfl
 have lw:=hww.lt
 have H:=Lib.hid (And.intro h hkv)
 rw[hkvs]at hs hd
 rw[hkvs,<-hnk]
 rw[<-hnk]at hs hd
 have HK:=Lib.hid (And.intro hkvs hnk)
 clear h hfit hkv hww hkvs hnk hne
 go_enter Tryz.func45,Tryz.ntmps45
 go_wp2_with fail
 refine hs.mono ?_
 rintro e w1 ⟨rfl,hS,hch⟩
 clear hs
 obtain⟨h,hkv⟩:=H.out
 have st1:Ste rtSsd ρ w ρ w1:=Ste.of_ch (hch.mono (fun i e=>by rcases e with e|e<;>rw[e]<;>simp[rtSsd,rtDev])) hf
 have hp1:PowR w1 a.p W.pow:=h.2.2.1.keep (hch.keep a.p h.2.2.1.lt (by rw[h.2.2.2.1];decide))
 have h1:WldR ρ w1 a {W with pow:=W.pow,ssd:=crashed W.ssd ks}:=h.put_ssd hp1 hS st1
 have hkv1:=hkv.keep st1.size (fun b hb e=>st1.ch.keep b hb (fun c=>e c.w))
 have hd1:=hd w1 h1.2.2.2.2.2.1 st1.fresh (by have hh:=hkv1;rw[HK.out.1,<-HK.out.2]at hh;exact hh)
 have d3:=h1.1.cell_ 3 rfl
 have d1:=h1.1.cell_ 1 rfl
 have l1:=h1.1.lt
 have H1:=Lib.hid (And.intro h1 st1)
 clear hd hS hch h1 st1 hkv1 hp1 h hkv c1 c2 c3 lw
 go_wp2_with fail
 refine hd1.mono ?_
 rintro e w2 ⟨rfl,hD,st2⟩
 clear hd1
 obtain⟨h1,st1⟩:=H1.out
 have hp2:PowR w2 a.p W.pow:=h1.2.2.1.keep (st2.ch.keep a.p h1.2.2.1.lt (by rw[h1.2.2.2.1];decide))
 have h2:=h1.put_dsk hp2 hD (st2.mono (fun r e=>by rw[e];simp[rtDsk]))
 have hb2:=hb w2 hp2
 have e1:=h2.1.cell_ 1 rfl
 have l2:=h2.1.lt
 have H2:=Lib.hid (And.intro h2 (st1.mono (fun r e=>e.w) |>.trans (st2.mono (fun r e=>by rw[e];unfold rtW;decide))))
 clear hb hD st2 hp2 h2 h1 st1 d1 d3 l1
 go_wp2_with fail
 refine hb2.mono ?_
 rintro e w3 ⟨rfl,hp3,hg3⟩
 clear hb2
 obtain⟨h2,st⟩:=H2.out
 have h3:=h2.put_pow hp3 hg3 st.fresh
 have HF:=Lib.hid (And.intro h3.1 (st.trans h3.2))
 clear h2 st h3 hp3 hg3 e1 l2
 go_wp2_with fail
 go_end0
 exact⟨rfl,HF.out.1,HF.out.2⟩
end
end Go.Proofs.YtggmdjdflaglpaaGreat
namespace Go.Proofs.YtggmdjdflaglpaaGreat
open Go.RowKit
set_option linter.unusedVariables false
theorem rcells0:rcells[0]? =some (.func (.func 51) #[] #[]):=rfl
set_option maxHeartbeats 4000000 in
set_option maxRecDepth 100000 in
theorem ropen_ok (p q:Nat->Prop) (l:Nat) (key:Two) (n:Nce) (vh:Value) (head:By) (vb:Value) (b:By) (tag:Two) (w:World) (h:Blk w l 130 rcells) (hk:U2 key) (hn:n.ok) (hh:HasP p w vh head) (hb:HasP q w vb b) (h1:head.length<=4000) (h2:b.length<=4000):
 Calls Tryz.prog 137 #[.pointer (some ⟨l,0,none⟩),pv key,nv n,vh,.agg #[vb,.int .u64 tag.1,.int .u64 tag.2]] w fun e w'=>
  ∃v,e=.returned (.tuple #[v,.bool (gopen key n head b tag).isSome])/\OwnB w.heap.size w' v ((gopen key n head b tag).getD [])/\Below w.heap.size w w':=by
 obtain⟨A,cap,rfl⟩:=hb.slice
 have hcall:=fun W h3 h4=>gopen_ok p q key n vh (.slice A b.length cap) head b tag W hk hn h3 h4 h1 h2
 unfold pv nv at hcall ⊢
 obtain⟨ka,kb⟩:=key
 obtain⟨ne,ns,nr⟩:=n
 obtain⟨ta,tb⟩:=tag
 simp only at hcall ⊢
 obtain⟨m,hm⟩:∃m,m=b.length:=⟨_,rfl⟩
 rw[<-hm]at hcall hb ⊢
 obtain⟨W,hW⟩:∃W,W=((w.alloc (.cells #[.int .u64 ka,.int .u64 kb] 101)).alloc (.cells #[.int .u32 ne,.int .u32 ns,.int .u64 nr] 99)).alloc (.cells #[.slice A m cap,.int .u64 ta,.int .u64 tb] 157):=⟨_,rfl⟩
 have hbw:Below w.heap.size w W:=by rw[hW];exact(((Below.refl _ _).alloc (Nat.le_refl _) _).alloc (by simp) _).alloc (by simp;omega) _
 have hB0:Blk W w.heap.size 101 #[.int .u64 ka,.int .u64 kb]:=by rw[hW];exact((Blk.new w 101 _).alloc _).alloc _
 have hB1:Blk W (w.heap.size+1) 99 #[.int .u32 ne,.int .u32 ns,.int .u64 nr]:=by
  rw[hW]
  have:=Blk.new (w.alloc (.cells #[.int .u64 ka,.int .u64 kb] 101)) 99 #[.int .u32 ne,.int .u32 ns,.int .u64 nr]
  rw[World.size_alloc]at this
  exact this.alloc _
 have hB2:Blk W (w.heap.size+1+1) 157 #[.slice A m cap,.int .u64 ta,.int .u64 tb]:=by
  rw[hW]
  have:=Blk.new ((w.alloc (.cells #[.int .u64 ka,.int .u64 kb] 101)).alloc (.cells #[.int .u32 ne,.int .u32 ns,.int .u64 nr] 99)) 157 #[.slice A m cap,.int .u64 ta,.int .u64 tb]
  rw[World.size_alloc,World.size_alloc]at this
  exact this
 have hL:Blk W l 130 rcells:=h.below_ hbw
 have hc:=hcall W.drew (hh.below_ hbw.drew) (hb.below_ hbw.drew)
 have hLb:=hL.drew
 have hl:=hL.lt
 have hws:=hbw.size
 clear hcall h hh hb hL hm hk hn h1 h2
 go_enter Tryz.func137,Tryz.ntmps137
 go_wp2_with fail
 rw[<-hW]
 clear hW
 replace hB0:=hB0.drew
 replace hB1:=hB1.drew
 replace hB2:=hB2.drew
 replace hbw:=hbw.drew
 go_region_held3 (fun w'=>w'.cell? ⟨l,1,none⟩=some (.func (.func 52) #[] #[])/\w'.cell? ⟨w.heap.size,0,none⟩=some (.int .u64 ka)/\w'.cell? ⟨w.heap.size,1,none⟩=some (.int .u64 kb)/\
  w'.cell? ⟨w.heap.size+1,0,none⟩=some (.int .u32 ne)/\w'.cell? ⟨w.heap.size+1,1,none⟩=some (.int .u32 ns)/\w'.cell? ⟨w.heap.size+1,2,none⟩=some (.int .u64 nr)/\
  w'.cell? ⟨w.heap.size+1+1,0,none⟩=some (.slice A m cap)/\w'.cell? ⟨w.heap.size+1+1,1,none⟩=some (.int .u64 ta)/\w'.cell? ⟨w.heap.size+1+1,2,none⟩=some (.int .u64 tb))
  (exact⟨hLb.cell_ 1 rfl,hB0.cell_ 0 rfl,hB0.cell_ 1 rfl,hB1.cell_ 0 rfl,hB1.cell_ 1 rfl,hB1.cell_ 2 rfl,hB2.cell_ 0 rfl,hB2.cell_ 1 rfl,hB2.cell_ 2 rfl⟩)
  (first
   |(go_at_call 52;refine hc.mono ?_;rintro e w1 ⟨v1,rfl,o1,l1⟩;replace hLb:=hLb.below_ l1;replace hB0:=hB0.below_ l1;replace hB1:=hB1.below_ l1;replace hB2:=hB2.below_ l1))
 go_wp2_with fail
 go_ret2
 exact⟨_,rfl,o1.weak hws,hbw.trans (l1.mono hws)⟩
set_option maxHeartbeats 4000000 in
set_option maxRecDepth 100000 in
theorem rshut_ok (p q:Nat->Prop) (l:Nat) (key:Two) (n:Nce) (vh:Value) (head:By) (vd:Value) (data:By) (w:World) (h:Blk w l 130 rcells) (hk:U2 key) (hn:n.ok)
 (hh:HasP p w vh head) (hd:HasP q w vd data) (hl:head.length<=4000) (hl32:data.length=32):
 Calls Tryz.prog 156 #[.pointer (some ⟨l,0,none⟩),pv key,nv n,vh,vd] w fun e w'=>
  ∃v,e=.returned (.tuple #[.agg #[v,.int .u64 (gseal key n head data).2.1,.int .u64 (gseal key n head data).2.2],.bool true])/\
   OwnB w.heap.size w' v (gseal key n head data).1/\Below w.heap.size w w':=by
 have hcall:=fun W h3 h4=>gseal_ok p q key n vh vd head data W hk hn h3 h4 hl (by omega)
 have hgl:(gseal key n head data).1.length=32:=(Lk.shut_len .real key n head data hl32)
 obtain⟨⟨ct,t0,t1⟩,hct⟩:∃g,g=gseal key n head data:=⟨_,rfl⟩
 rw[<-hct]at hcall hgl ⊢
 simp only at hcall hgl ⊢
 clear hct
 obtain⟨Ah,ch,rfl⟩:=hh.slice
 obtain⟨Ad,cd,rfl⟩:=hd.slice
 rw[hl32]at hcall hd ⊢
 clear hl32
 unfold pv nv at hcall ⊢
 obtain⟨ka,kb⟩:=key
 obtain⟨ne,ns,nr⟩:=n
 simp only at hcall ⊢
 obtain⟨m,hm⟩:∃m,m=ct.length:=⟨_,rfl⟩
 obtain⟨W,hW⟩:∃W,W=((w.alloc (.cells #[.int .u64 ka,.int .u64 kb] 101)).alloc (.cells #[.int .u32 ne,.int .u32 ns,.int .u64 nr] 99)).alloc (.cells #[.slice none 0 0,.int .u64 0,.int .u64 0] 157):=⟨_,rfl⟩
 have hbw:Below w.heap.size w W:=by rw[hW];exact(((Below.refl _ _).alloc (Nat.le_refl _) _).alloc (by simp) _).alloc (by simp;omega) _
 have hB0:Blk W w.heap.size 101 #[.int .u64 ka,.int .u64 kb]:=by rw[hW];exact((Blk.new w 101 _).alloc _).alloc _
 have hB1:Blk W (w.heap.size+1) 99 #[.int .u32 ne,.int .u32 ns,.int .u64 nr]:=by
  rw[hW]
  have:=Blk.new (w.alloc (.cells #[.int .u64 ka,.int .u64 kb] 101)) 99 #[.int .u32 ne,.int .u32 ns,.int .u64 nr]
  rw[World.size_alloc]at this
  exact this.alloc _
 have hB2:Blk W (w.heap.size+1+1) 157 #[.slice none 0 0,.int .u64 0,.int .u64 0]:=by
  rw[hW]
  have:=Blk.new ((w.alloc (.cells #[.int .u64 ka,.int .u64 kb] 101)).alloc (.cells #[.int .u32 ne,.int .u32 ns,.int .u64 nr] 99)) 157 #[.slice none 0 0,.int .u64 0,.int .u64 0]
  rw[World.size_alloc,World.size_alloc]at this
  exact this
 have hL:Blk W l 130 rcells:=h.below_ hbw
 have hc1:=hcall W.drew (hh.below_ hbw.drew) (hd.below_ hbw.drew)
 have hLb:=hL.drew
 have hl:=hL.lt
 have hll:l<w.heap.size:=h.lt
 have hws:=hbw.size
 have HM:=Lib.hid (And.intro hm hgl)
 clear hcall h hh hd hL hm hgl hk hn
 go_enter Tryz.func156,Tryz.ntmps156
 go_wp2_with fail
 rw[<-hW]
 clear hW
 replace hB0:=hB0.drew
 replace hB1:=hB1.drew
 replace hB2:=hB2.drew
 replace hbw:=hbw.drew
 have hbw0:=hbw
 have hB2l:w.heap.size+1+1<W.heap.size:=hB2.lt
 go_region_held3 (fun w'=>w'.cell? ⟨l,0,none⟩=some (.func (.func 51) #[] #[])/\w'.cell? ⟨w.heap.size,0,none⟩=some (.int .u64 ka)/\w'.cell? ⟨w.heap.size,1,none⟩=some (.int .u64 kb)/\
  w'.cell? ⟨w.heap.size+1,0,none⟩=some (.int .u32 ne)/\w'.cell? ⟨w.heap.size+1,1,none⟩=some (.int .u32 ns)/\w'.cell? ⟨w.heap.size+1,2,none⟩=some (.int .u64 nr))
  (first|(with_reducible exact And.intro (hLb.cell_ 0 (rcells0)) (kof hB0 hB1))|(with_reducible exact And.intro ((((hLb.far (p:=⟨w.heap.size+1+1,0,none⟩) hlne _).far (p:=⟨w.heap.size+1+1,1,none⟩) hlne _).far (p:=⟨w.heap.size+1+1,2,none⟩) hlne _).cell_ 0 (rcells0)) (kset (Nat.lt_succ_self _) (kset (Nat.lt_succ_self _) (kset (Nat.lt_succ_self _) (kof hB0 hB1))))))
  (first
   |(go_at_call 51;refine hc1.mono ?_;rintro e w1 ⟨v1,rfl,o1,q1⟩;obtain⟨A1,z1,rfl⟩:=o1.has.slice;have hlne:l≠w.heap.size+1+1:=(by omega);replace hLb:=hLb.below_ q1;replace hB0:=hB0.below_ q1;replace hB1:=hB1.below_ q1;replace hB2:=hB2.below_ q1;have x0:=hB2.cell_ 0 rfl;have x1:=hB2.cell_ 1 rfl;have x2:=hB2.cell_ 2 rfl;have y0:=hB2.frozen 0;have y1:=hB2.frozen 1;have y2:=hB2.frozen 2;have yl:=hB2.lt))
 have HO:=Lib.hid (And.intro o1 (And.intro q1 (And.intro hB2 (And.intro hbw0 hB2l))))
 clear o1 q1 hbw hbw0
 go_wp2_with fail
 obtain⟨o1,q1,hB2,hbw0,hB2l⟩:=HO.out
 have bR:=((hB2.set_to 0 (.slice A1 ct.length z1) (cs':=#[.slice A1 ct.length z1,.int .u64 0,.int .u64 0]) rfl).set_to 1 (.int .u64 t0) (cs':=#[.slice A1 ct.length z1,.int .u64 t0,.int .u64 0]) rfl).set_to 2 (.int .u64 t1) (cs':=[.slice A1 ct.length z1,.int .u64 t0,.int .u64 t1].toArray) rfl
 have g3:=only_set3 w1 (w.heap.size+1+1) (.slice A1 ct.length z1) (.int .u64 t0) (.int .u64 t1)
 have hq:Below w.heap.size w w1:=hbw0.trans (q1.mono hbw0.size)
 refine ret_cell_tmp 10 157 11 (by rfl) (w.heap.size+1+1) 0 (by rfl) (.bool true) (by rfl) _ _ bR.range Tryz.underlying157 rfl sz157 rfl ⟨.slice A1 ct.length z1,rfl,?_,below_only hq g3 hq.size (by omega)⟩
 refine(o1.weak hbw0.size).keep (fun k hk hv=>g3.block k hk (fun e=>?_))
 injection e with e
 have h3:=(o1.ge hv).1
 have h4:W.drew.heap.size=W.heap.size:=rfl
 omega
end Go.Proofs.YtggmdjdflaglpaaGreat
namespace Go.Proofs.YtggmdjdflaglpaaGreat
open Go.RowKit
set_option linter.unusedVariables false
theorem open_all:OpenOk:=by
 intro ρ p q l L key n vh head vb b tag w h hk hn ht hh hb l1 l2
 cases L with
 |ideal O=>exact open_ideal O ρ p q l key n vh head vb b tag w h hh hb
 |real=>exact ropen_ok p q l key n vh head vb b tag w h.1 hk hn hh hb l1 l2
theorem shut_all:ShutOk:=by
 intro ρ p q l L key n vh head vd data w hf h hk hn hh hd l1 l2 hlim
 cases L with
 |ideal O=>exact shut_ideal O ρ p q l key n vh head vd data w hf h hk hn hh hd l1 l2 hlim
 |real=>
  refine(rshut_ok p q l key n vh head vd data w h.1 hk hn hh hd l1 l2).mono ?_
  rintro e w1 ⟨v,rfl,ho,q1⟩
  exact⟨v,rfl,ρ,ho.has.weak (fun b hb=>⟨hb,hf b hb⟩),LkR.below_ h q1,Ste.of_below q1 hf⟩
theorem sum_all (hr:SumOf .real):SumOk:=by
 intro ρ l L v Ls w hf h hR ht hlim
 cases L with
 |ideal O=>exact sum_ideal O ρ l v Ls w hf h hR ht hlim
 |real=>exact hr ρ l v Ls w hf h hR ht hlim
end Go.Proofs.YtggmdjdflaglpaaGreat
namespace Go.Proofs.YtggmdjdflaglpaaGreat
open Go.RowKit
set_option linter.unusedVariables false
def DigOk:Prop:=∀(v:Value) (Ls:List By) (w:World),Rows w v Ls->total Ls<=1000->Calls Tryz.prog 53 #[v] w fun e w'=>e=.returned (pv (dsum Ls.flatten))/\Below w.heap.size w w'
set_option maxHeartbeats 2000000 in
set_option maxRecDepth 100000 in
theorem rsum_ok (hd:DigOk) (l:Nat) (v:Value) (Ls:List By) (w:World) (h:Blk w l 130 rcells) (hR:Rows w v Ls) (ht:total Ls<=1000):
 Calls Tryz.prog 168 #[.pointer (some ⟨l,0,none⟩),v] w fun e w'=>e=.returned (pv (dsum Ls.flatten))/\Below w.heap.size w w':=by
 obtain⟨W,hW⟩:∃W,W=w.alloc (.cells #[.int .u64 0,.int .u64 0] 101):=⟨_,rfl⟩
 have hB:Blk W w.heap.size 101 #[.int .u64 0,.int .u64 0]:=by rw[hW];exact Blk.new w 101 _
 have hbw:Below w.heap.size w W:=by rw[hW];exact(Below.refl _ _).alloc (Nat.le_refl _) _
 have hL:Blk W l 130 rcells:=h.below_ hbw
 have hs:=hd v Ls W (hR.below_ hbw) ht
 obtain⟨⟨x,y⟩,hx⟩:∃x,x=dsum Ls.flatten:=⟨_,rfl⟩
 rw[<-hx]at hs ⊢
 unfold pv at hs ⊢
 simp only at hs ⊢
 have c2:W.cell? ⟨l,2,none⟩=some (.func (.func 53) #[] #[]):=hL.cell_ 2 rfl
 have hl:=hL.lt
 have HB:=Lib.hid (And.intro hB hbw)
 clear hx hL hR h hB hbw
 subst hW
 go_enter Tryz.func168,Tryz.ntmps168
 go_wp2_with fail
 refine hs.mono ?_
 rintro e w1 ⟨rfl,q1⟩
 obtain⟨hB,hbw⟩:=HB.out
 have hB1:=hB.below_ q1
 have f0:=hB1.frozen 0
 have f1:=hB1.frozen 1
 have b0:=hB1.cell_ 0 rfl
 have b1:=hB1.cell_ 1 rfl
 have lb:=hB1.lt
 have HQ:=Lib.hid (And.intro hB1 (hbw.trans (q1.mono hbw.size)))
 clear hB hbw hB1 q1 hs
 go_wp2_with fail
 obtain⟨hB1,q⟩:=HQ.out
 have hf:=(hB1.set_to 0 (.int .u64 x) (cs':=#[.int .u64 x,.int .u64 0]) rfl).set_to 1 (.int .u64 y) (cs':=[.int .u64 x,.int .u64 y].toArray) rfl
 exact ret_cell 4 101 (by rfl) w.heap.size 0 (by rfl) [.int .u64 x,.int .u64 y] _ hf.range Tryz.underlying101 rfl sz101 rfl ⟨rfl,below_only q (only_set2 _ _ _ _ _ _) q.size (by omega)⟩
theorem sum_of (hd:DigOk):SumOk:=sum_all (by
 intro ρ l v Ls w hf h hR ht hlim
 refine(rsum_ok hd l v Ls w h.1 hR ht).mono ?_
 rintro e w1 ⟨rfl,q1⟩
 exact⟨rfl,LkR.below_ h q1,Ste.of_below q1 hf⟩)
end Go.Proofs.YtggmdjdflaglpaaGreat
namespace Go.Proofs.YtggmdjdflaglpaaGreat
open Go.RowKit
set_option linter.unusedVariables false
set_option maxHeartbeats 2000000 in
set_option maxRecDepth 100000 in
theorem dstep_ok (st m:Two) (w:World) (hs:U2 st) (hm:U2 m):Calls Tryz.prog 90 #[pv st,pv m] w fun e w'=>e=.returned (pv (dstepS st m))/\Below w.heap.size w w':=by
 have he:=fun W=>enc_ok m st W hm hs
 have hD:dstepS st m=(bits .xor .u64 (enc m st).1 st.1,bits .xor .u64 (enc m st).2 st.2):=rfl
 obtain⟨s0,s1⟩:=st
 obtain⟨m0,m1⟩:=m
 obtain⟨⟨e0,e1⟩,hee⟩:∃e,e=enc (m0,m1) (s0,s1):=⟨_,rfl⟩
 rw[<-hee]at he hD
 rw[hD]
 obtain⟨x,hx⟩:∃x,x=bits .xor .u64 e0 s0:=⟨_,rfl⟩
 obtain⟨y,hy⟩:∃y,y=bits .xor .u64 e1 s1:=⟨_,rfl⟩
 unfold pv
 simp only at he ⊢
 rw[<-hx,<-hy]
 have HX:=Lib.hid (And.intro hx hy)
 obtain⟨W0,hW0⟩:∃W0,W0=((w.alloc (.cells #[.int .u64 s0,.int .u64 s1] 101)).alloc (.cells #[.int .u64 m0,.int .u64 m1] 101)).alloc (.cells #[.int .u64 0,.int .u64 0] 101):=⟨_,rfl⟩
 have q0:Below w.heap.size w W0:=by rw[hW0];exact(((Below.refl _ _).alloc (Nat.le_refl _) _).alloc (by simp) _).alloc (by simp;omega) _
 have b2:Blk W0 w.heap.size 101 #[.int .u64 s0,.int .u64 s1]:=by rw[hW0];exact((Blk.new w 101 _).alloc _).alloc _
 have b4:Blk W0 (w.heap.size+1+1) 101 #[.int .u64 0,.int .u64 0]:=by
  rw[hW0]
  have:=Blk.new ((w.alloc (.cells #[.int .u64 s0,.int .u64 s1] 101)).alloc (.cells #[.int .u64 m0,.int .u64 m1] 101)) 101 #[.int .u64 0,.int .u64 0]
  rw[World.size_alloc,World.size_alloc]at this
  exact this
 have HW:=Lib.hid hW0
 have H0:=Lib.hid (And.intro q0 (And.intro b2 b4))
 clear hx hy hD hee hs hm hW0 q0 b2 b4
 go_enter Tryz.func90,Tryz.ntmps90
 go_wp2_with fail
 rw[<-HW.out]
 refine(he _).mono ?_
 rintro e w1 ⟨rfl,q1⟩
 clear he
 obtain⟨q0,b2,b4⟩:=H0.out
 have q2:=q0.trans (q1.mono q0.size)
 have b21:=b2.below_ q1
 have b41:=b4.below_ q1
 have c0:=b21.cell_ 0 rfl
 have c1:=b21.cell_ 1 rfl
 have f0:=b41.frozen 0
 have f1:=b41.frozen 1
 have g0:=b41.cell_ 0 rfl
 have g1:=b41.cell_ 1 rfl
 have l2:=b21.lt
 have l4:=b41.lt
 have H1:=Lib.hid (And.intro q2 b41)
 clear q0 b2 b4 q1 q2 b21 b41
 go_wp2_with fail
 rw[<-HX.out.1,<-HX.out.2]
 obtain⟨q2,b41⟩:=H1.out
 have hf:=((b41.set_to 0 (.int .u64 x) (cs':=#[.int .u64 x,.int .u64 0]) rfl).set_to 1 (.int .u64 y) (cs':=[.int .u64 x,.int .u64 y].toArray) rfl).alloc (.cells #[.int .u64 e0,.int .u64 e1] 101)
 have hq:=below_only q2 (only_set2 w1 (w.heap.size+1+1) 0 1 (.int .u64 x) (.int .u64 y)) q2.size (by omega)
 exact ret_cell 4 101 (by rfl) (w.heap.size+1+1) 0 (by rfl) [.int .u64 x,.int .u64 y] _ hf.range Tryz.underlying101 rfl sz101 rfl ⟨rfl,hq.alloc hq.size _⟩
end Go.Proofs.YtggmdjdflaglpaaGreat
