/- The ideal sealer: Seal. -/
import Derived.Test.YtggmdjdflaglpaaGreatR17
namespace Go.Proofs.YtggmdjdflaglpaaGreat
open Go.RowKit
set_option linter.unusedVariables false
def oout (n:Nat):By:=(five (putB n 8)).take 32
def iseal (O:Orc) (key:Two) (n:Nce) (head data:By):Iss:=⟨key,n,head,data,oout (O.iss.length+1),O.iss.length+1⟩
def oseal (O:Orc) (key:Two) (n:Nce) (head data:By):Orc:={O with iss:=O.iss++[iseal O key n head data]}
theorem oout_len (n:Nat):(oout n).length=32:=by simp[oout,five,putB_len]
theorem gen_world {G:World->Prop}{W:World}(F:World->Prop) (hF:F W) (h:∀W',F W'->G W'):G W:=h W hF
theorem kof {w:World}{h:Nat}{ka kb ne ns nr:Int}(b0:Blk w h 101 #[.int .u64 ka,.int .u64 kb]) (b1:Blk w (h+1) 99 #[.int .u32 ne,.int .u32 ns,.int .u64 nr]):
 w.cell? ⟨h,0,none⟩=some (.int .u64 ka)/\w.cell? ⟨h,1,none⟩=some (.int .u64 kb)/\w.cell? ⟨h+1,0,none⟩=some (.int .u32 ne)/\w.cell? ⟨h+1,1,none⟩=some (.int .u32 ns)/\w.cell? ⟨h+1,2,none⟩=some (.int .u64 nr):=
 ⟨b0.cell_ 0 rfl,b0.cell_ 1 rfl,b1.cell_ 0 rfl,b1.cell_ 1 rfl,b1.cell_ 2 rfl⟩
theorem kset {w:World}{h x i:Nat}{v:Value}{ka kb ne ns nr:Int}(hx:h+1<x)
 (c:w.cell? ⟨h,0,none⟩=some (.int .u64 ka)/\w.cell? ⟨h,1,none⟩=some (.int .u64 kb)/\w.cell? ⟨h+1,0,none⟩=some (.int .u32 ne)/\w.cell? ⟨h+1,1,none⟩=some (.int .u32 ns)/\w.cell? ⟨h+1,2,none⟩=some (.int .u64 nr)):
 (w.setCell ⟨x,i,none⟩ v).cell? ⟨h,0,none⟩=some (.int .u64 ka)/\(w.setCell ⟨x,i,none⟩ v).cell? ⟨h,1,none⟩=some (.int .u64 kb)/\(w.setCell ⟨x,i,none⟩ v).cell? ⟨h+1,0,none⟩=some (.int .u32 ne)/\(w.setCell ⟨x,i,none⟩ v).cell? ⟨h+1,1,none⟩=some (.int .u32 ns)/\(w.setCell ⟨x,i,none⟩ v).cell? ⟨h+1,2,none⟩=some (.int .u64 nr):=by
 have e:∀(b j:Nat),b≠x->(w.setCell ⟨x,i,none⟩ v).cell? ⟨b,j,none⟩=w.cell? ⟨b,j,none⟩:=fun b j hb=>by
  have:=Below.heap_setCell w ⟨x,i,none⟩ v b hb
  simp only[World.cell?,this]
 rw[e h 0 (by omega),e h 1 (by omega),e (h+1) 0 (by omega),e (h+1) 1 (by omega),e (h+1) 2 (by omega)]
 exact c
def zissue:List Value:=[.int .u64 0,.int .u64 0,.int .u32 0,.int .u32 0,.int .u64 0,.slice none 0 0,.slice none 0 0,.slice none 0 0,.int .u64 0,.int .u64 0]
def Xf (w:World) (x:Nat):Prop:=w.frozen? ⟨x,0,none⟩=false/\w.frozen? ⟨x,1,none⟩=false/\w.frozen? ⟨x,2,none⟩=false/\w.frozen? ⟨x,3,none⟩=false/\w.frozen? ⟨x,4,none⟩=false/\w.frozen? ⟨x,5,none⟩=false/\w.frozen? ⟨x,6,none⟩=false/\w.frozen? ⟨x,7,none⟩=false/\w.frozen? ⟨x,8,none⟩=false/\w.frozen? ⟨x,9,none⟩=false
def Xc (w:World) (x:Nat):Prop:=w.cell? ⟨x,0,none⟩=some (.int .u64 0)/\w.cell? ⟨x,1,none⟩=some (.int .u64 0)/\w.cell? ⟨x,2,none⟩=some (.int .u32 0)/\w.cell? ⟨x,3,none⟩=some (.int .u32 0)/\w.cell? ⟨x,4,none⟩=some (.int .u64 0)/\w.cell? ⟨x,5,none⟩=some (.slice none 0 0)/\w.cell? ⟨x,6,none⟩=some (.slice none 0 0)/\w.cell? ⟨x,7,none⟩=some (.slice none 0 0)/\w.cell? ⟨x,8,none⟩=some (.int .u64 0)/\w.cell? ⟨x,9,none⟩=some (.int .u64 0)
theorem Xf.of {w:World}{x:Nat}(h:Blk w x 176 zissue.toArray):Xf w x:=⟨h.frozen 0,h.frozen 1,h.frozen 2,h.frozen 3,h.frozen 4,h.frozen 5,h.frozen 6,h.frozen 7,h.frozen 8,h.frozen 9⟩
theorem Xc.of {w:World}{x:Nat}(h:Blk w x 176 zissue.toArray):Xc w x:=⟨h.cell_ 0 rfl,h.cell_ 1 rfl,h.cell_ 2 rfl,h.cell_ 3 rfl,h.cell_ 4 rfl,h.cell_ 5 rfl,h.cell_ 6 rfl,h.cell_ 7 rfl,h.cell_ 8 rfl,h.cell_ 9 rfl⟩
theorem info176:(Tryz.prog.info? 176).map (fun i=>(i.zero,i.size,i.bytes))=some (some (.agg zissue.toArray),10,120):=by kernel_rfl
theorem cell_list_new (w:World) (L:List Value) (t:TypeId):∀(j:Nat) (u:Value),L[j]? =some u->(w.alloc (.cells L.toArray t)).cell? ((⟨w.heap.size,0,none⟩:Addr).add j)=some u:=fun j u h=>by
 rw[add_plain,World.cell?_alloc_new,Nat.zero_add]
 simpa using h
theorem HasP.front {p:Nat->Prop}{w:World}{g N c n:Nat}{l:By}(h:HasP p w (.slice (some ⟨g,0,none⟩) N c) l) (hn:0<n) (hl:n<=l.length):HasP p w (.slice (some ⟨g,0,none⟩) n c) (l.take n):=by
 obtain⟨b,o,cap,e,_,_,h3⟩:=h.cut (off:=0) hn (by omega)
 injection e with e1 e2 e3
 injection e1 with e1
 injection e1 with e1 e4 _
 subst e1 e4 e3
 simpa using h3
theorem field4 (a b c d e f g h i j:Value) (w:World):(Instr.field 176 (.agg #[a,b,c,d,e,f,g,h,i,j]) 4).run Tryz.prog w=.ok (.agg #[h,i,j]) w:=by kernel_rfl
theorem sets10 (w:World) (x:Nat) (a b c d e f g h i j:Value):w.setCells x 0 [a,b,c,d,e,f,g,h,i,j]=((((((((((w.setCell ⟨x,0,none⟩ a).setCell ⟨x,1,none⟩ b).setCell ⟨x,2,none⟩ c).setCell ⟨x,3,none⟩ d).setCell ⟨x,4,none⟩ e).setCell ⟨x,5,none⟩ f).setCell ⟨x,6,none⟩ g).setCell ⟨x,7,none⟩ h).setCell ⟨x,8,none⟩ i).setCell ⟨x,9,none⟩ j):=rfl
theorem sets10' (w:World) (x:Nat) (a b c d e f g h i j:Value):((((((((((w.setCell ⟨x,0,none⟩ a).setCell ⟨x,1,none⟩ b).setCell ⟨x,2,none⟩ c).setCell ⟨x,3,none⟩ d).setCell ⟨x,4,none⟩ e).setCell ⟨x,5,none⟩ f).setCell ⟨x,6,none⟩ g).setCell ⟨x,7,none⟩ h).setCell ⟨x,8,none⟩ i).setCell ⟨x,9,none⟩ j)=w.setCells x 0 [a,b,c,d,e,f,g,h,i,j]:=rfl
structure Pre (W:World) (w:World) (x:Nat) (I:Iss) (v3 v4 vo:Value):Prop where
 bx:Blk W x 176 (icells I v3 v4 vo).toArray
 be:Below w.heap.size w W
 br:Blk W (w.heap.size+1+1) 157 #[.slice none 0 0,.int .u64 0,.int .u64 0]
 o3:HasP (w.heap.size+2<·) W v3 I.head
 o4:HasP (w.heap.size+2<·) W v4 I.data
 oo:HasP (w.heap.size+2<·) W vo I.out
 lx:w.heap.size+2<x
theorem Pre.set {W w:World}{x:Nat}{I:Iss}{v3 v4 vo:Value}(hX:Blk W x 176 zissue.toArray) (be:Below w.heap.size w W) (br:Blk W (w.heap.size+1+1) 157 #[.slice none 0 0,.int .u64 0,.int .u64 0])
 (o3:HasP (fun b=>w.heap.size+2<b/\b≠x) W v3 I.head) (o4:HasP (fun b=>w.heap.size+2<b/\b≠x) W v4 I.data) (oo:HasP (fun b=>w.heap.size+2<b/\b≠x) W vo I.out) (lx:w.heap.size+2<x):Pre (W.setCells x 0 (icells I v3 v4 vo)) w x I v3 v4 vo:=by
 have hg:W.grownBy (W.setCells x 0 (icells I v3 v4 vo)) (some x):=r27.only_setCells _ 0 W (only_refl _ _)
 have hk:∀b,b<W.heap.size->w.heap.size+2<b/\b≠x->(W.setCells x 0 (icells I v3 v4 vo)).heap[b]? =W.heap[b]? :=fun b hb e=>hg.block b hb (fun c=>e.2 (by injection c))
 exact⟨Blk.whole hX rfl,below_only be hg be.size (by omega),br.grown hg (fun e=>by injection e with e;omega),(o3.keep hg.size hk).weak (fun b e=>e.1),(o4.keep hg.size hk).weak (fun b e=>e.1),(oo.keep hg.size hk).weak (fun b e=>e.1),lx⟩
set_option maxHeartbeats 60000000 in
set_option maxRecDepth 100000 in
theorem oseal_ok (ρ:Rl) (p q:Nat->Prop) (o:Nat) (O:Orc) (key:Two) (n:Nce) (vh:Value) (head:By) (vd:Value) (data:By) (w:World) (hf:Fresh ρ w) (h:OrcR ρ w o O) (hk:U2 key) (hn:n.ok)
 (hh:HasP p w vh head) (hd:HasP q w vd data) (hl:head.length<=4000) (hl32:data.length=32) (hc:O.iss.length<1000000):
 Calls Tryz.prog 57 #[.pointer (some ⟨o,0,none⟩),pv key,nv n,vh,vd] w fun e w'=>
  ∃v,e=.returned (.tuple #[.agg #[v,.int .u64 kSeal,.int .u64 ((O.iss.length:Int)+1)],.bool true])/\∃ρ',HasP (fun b=>w.heap.size<=b/\ρ' b=0) w' v (oout (O.iss.length+1))/\OrcR ρ' w' o (oseal O key n head data)/\Ste rtOrc ρ w ρ' w':=by
 unfold pv nv kSeal
 obtain⟨ka,kb⟩:=key
 obtain⟨ne,ns,nr⟩:=n
 simp only
 obtain⟨vI,bm,cs,mn,D,h1,h2,h3,h4,h5,h6,h7,h8,h9,h10,h11,h12⟩:=h
 obtain⟨AI,cI,rfl⟩:=row_form h3
 obtain⟨Ah,ch,rfl⟩:=hh.slice
 obtain⟨Ad,cd,rfl⟩:=hd.slice
 obtain⟨m,hm⟩:∃m,m=O.iss.length:=⟨_,rfl⟩
 obtain⟨lh,hlh⟩:∃lh,lh=head.length:=⟨_,rfl⟩
 rw[<-hm]at h1 h3 hc ⊢
 rw[hl32]at hd ⊢
 rw[<-hlh]at hh hl ⊢
 have HM:=Lib.hid (And.intro hm (And.intro hlh hl32))
 clear hm hlh hl32
 have m0:(0:Int)<=(m:Int):=by omega
 have t1:decide ((4000:Int)<(lh:Int))=false:=by simp;omega
 obtain⟨W,hW⟩:∃W,W=((w.alloc (.cells #[.int .u64 ka,.int .u64 kb] 101)).alloc (.cells #[.int .u32 ne,.int .u32 ns,.int .u64 nr] 99)).alloc (.cells #[.slice none 0 0,.int .u64 0,.int .u64 0] 157):=⟨_,rfl⟩
 have hbw:Below w.heap.size w W:=by rw[hW];exact(((Below.refl _ _).alloc (Nat.le_refl _) _).alloc (by simp) _).alloc (by simp;omega) _
 have hB0:Blk W w.heap.size 101 #[.int .u64 ka,.int .u64 kb]:=by rw[hW];exact((Blk.new w 101 _).alloc _).alloc _
 have hB1:Blk W (w.heap.size+1) 99 #[.int .u32 ne,.int .u32 ns,.int .u64 nr]:=by
  rw[hW]
  have:=Blk.new (w.alloc (.cells #[.int .u64 ka,.int .u64 kb] 101)) 99 #[.int .u32 ne,.int .u32 ns,.int .u64 nr]
  rw[World.size_alloc]at this
  exact this.alloc _
 have hB2:Blk W (w.heap.size+1+1) 157 #[.slice none 0 0,.int .u64 0,.int .u64 0]:=by
  rw[hW]
  have:=Blk.new ((w.alloc (.cells #[.int .u64 ka,.int .u64 kb] 101)).alloc (.cells #[.int .u32 ne,.int .u32 ns,.int .u64 nr] 99)) 157 #[.slice none 0 0,.int .u64 0,.int .u64 0]
  rw[World.size_alloc,World.size_alloc]at this
  exact this
 have hW1:=h1.below_ hbw
 have c0:=hW1.cell_ 0 rfl
 have l0:=hW1.lt
 have HH:=Lib.hid (And.intro h1 (And.intro h2 (And.intro h3 (And.intro h4 (And.intro h5 (And.intro h6 (And.intro h7 (And.intro h8 (And.intro h9 (And.intro h10 (And.intro h11 h12)))))))))))
 clear h1 h2 h3 h4 h5 h6 h7 h8 h9 h10 h11 h12
 subst hW
 go_enter Tryz.func57,Tryz.ntmps57
 go_wp2_with fail
 refine(put_lit ((m:Int)+1) 8 8 rfl _ (by omega) (by omega) (by omega)).mono ?_
 rintro e w1 ⟨v1,rfl,o1,q1⟩
 replace hbw:=hbw.trans (q1.mono hbw.size)
 replace hB0:=hB0.below_ q1
 replace hB1:=hB1.below_ q1
 replace hB2:=hB2.below_ q1
 go_wp2_with fail
 refine(repeat_ok _ v1 _ _ o1.has (putB_len _ _)).mono ?_
 rintro e w2 ⟨g,rfl,o2,q2⟩
 have s1:=hB2.lt
 have o2:HasP (fun b=>w.heap.size+2<b/\b<w2.heap.size) w2 (.slice (some ⟨g,0,none⟩) 32 40) (oout (m+1)):=(HasP.front (n:=32) o2 (by omega) (by simp[five,putB_len])).weakB (fun b hb e=>⟨by omega,hb⟩)
 replace hbw:=hbw.trans (q2.mono hbw.size)
 replace hB0:=hB0.below_ q2
 replace hB1:=hB1.below_ q2
 replace hB2:=hB2.below_ q2
 clear q1 o1 c0 l0
 go_wp2_with fail
 clear hW1
 have hh2:=hh.below_ hbw
 have hd2:=hd.below_ hbw
 clear q2
 have hsl:lh=head.length:=HM.out.2.1
 have HS:=Lib.hid hsl
 have hd32:=HM.out.2.2
 have HD:=Lib.hid hd32
 have hcl1:∀W,HasP p W (.slice Ah lh ch) head->Calls Tryz.prog 49 #[.slice Ah lh ch] W fun e w'=>∃v',e=.returned v'/\OwnB W.heap.size w' v' head/\Below W.heap.size W w':=fun W h=>clone_ok p _ head W h (by omega)
 have hcl2:∀W,HasP q W (.slice Ad 32 cd) data->Calls Tryz.prog 49 #[.slice Ad 32 cd] W fun e w'=>∃v',e=.returned v'/\OwnB W.heap.size w' v' data/\Below W.heap.size W w':=fun W h=>clone_ok q _ data W h (by omega)
 clear hsl hd32
 have hs2:=hB2.lt
 have oo2:=o2
 have s2:w.heap.size+1<w2.heap.size:=Nat.lt_of_succ_lt hB2.lt
 go_region_held3 (fun w'=>w'.cell? ⟨w.heap.size,0,none⟩=some (.int .u64 ka)/\w'.cell? ⟨w.heap.size,1,none⟩=some (.int .u64 kb)/\w'.cell? ⟨w.heap.size+1,0,none⟩=some (.int .u32 ne)/\w'.cell? ⟨w.heap.size+1,1,none⟩=some (.int .u32 ns)/\w'.cell? ⟨w.heap.size+1,2,none⟩=some (.int .u64 nr))
  (first|(with_reducible exact kof hB0 hB1)|(with_reducible exact kof hB0.drew hB1.drew)|(with_reducible exact kof (hB0.alloc _) (hB1.alloc _))|(with_reducible exact kof (hB0.alloc _).drew (hB1.alloc _).drew)|(iterate 10 (with_reducible refine kset ?_ ?_;first|omega|skip));(with_reducible exact kof hB0 hB1))
  (first
   |(go_at_call 49;(with_reducible refine(hcl1 _ hh2.drew).mono ?_);rintro e w3 ⟨v3,rfl,o3,q3⟩;have hs23:=q3.size;have hs3:w2.heap.size<=w3.heap.size:=(by simp at hs23;omega);obtain⟨A3,z3,rfl⟩:=o3.has.slice;replace o3:HasP (fun b=>_<=b/\b<w3.heap.size) w3 _ _:=o3.has.weakB (fun b hb e=>⟨e,hb⟩);replace hB0:=hB0.drew.below_ q3;replace hB1:=hB1.drew.below_ q3;replace hB2:=hB2.drew.below_ q3;replace oo2:=oo2.drew.below_ q3;replace hd2:=hd2.drew.below_ q3;have s3:w.heap.size+1<w3.heap.size:=Nat.lt_of_succ_lt hB2.lt;replace hbw:=hbw.drew.trans (q3.mono hbw.drew.size))
   |(go_at_call 49;(with_reducible refine(hcl1 _ (hh2.alloc _).drew).mono ?_);rintro e w3 ⟨v3,rfl,o3,q3⟩;have hs23:=q3.size;have hs3:w2.heap.size<=w3.heap.size:=(by simp at hs23;omega);obtain⟨A3,z3,rfl⟩:=o3.has.slice;replace o3:HasP (fun b=>_<=b/\b<w3.heap.size) w3 _ _:=o3.has.weakB (fun b hb e=>⟨e,hb⟩);replace hB0:=(hB0.alloc _).drew.below_ q3;replace hB1:=(hB1.alloc _).drew.below_ q3;replace hB2:=(hB2.alloc _).drew.below_ q3;replace oo2:=(oo2.alloc _).drew.below_ q3;replace hd2:=(hd2.alloc _).drew.below_ q3;have hX:Blk w3 w2.heap.size 176 zissue.toArray:=(Blk.new w2 176 _).drew.below_ q3;replace hbw:=(hbw.alloc hbw.size _).drew.trans (q3.mono (by have:=hbw.size;simp at this ⊢;omega)))
   |(go_at_call 49;(with_reducible refine(hcl2 _ (hd2.alloc _)).mono ?_);rintro e w4 ⟨v4,rfl,o4,q4⟩;have hs34:w.heap.size+2<w3.heap.size:=(by have:=hs3;omega);obtain⟨A4,z4,rfl⟩:=o4.has.slice;replace o4:HasP (fun b=>_<=b/\b<w4.heap.size) w4 _ _:=o4.has.weakB (fun b hb e=>⟨e,hb⟩);replace hB0:=(hB0.alloc _).below_ q4;replace hB1:=(hB1.alloc _).below_ q4;replace hB2:=(hB2.alloc _).below_ q4;replace oo2:=(oo2.alloc _).below_ q4;replace o3:=(o3.alloc _).below_ q4;have hX:Blk w4 w3.heap.size 176 zissue.toArray:=(Blk.new w3 176 _).below_ q4;replace hbw:=(hbw.alloc hbw.size _).trans (q4.mono (by have:=hbw.size;simp at this ⊢;omega));obtain⟨xf0,xf1,xf2,xf3,xf4,xf5,xf6,xf7,xf8,xf9⟩:=Xf.of hX;obtain⟨xc0,xc1,xc2,xc3,xc4,xc5,xc6,xc7,xc8,xc9⟩:=Xc.of hX;have xl:=hX.lt)
   |(go_at_call 49;(with_reducible refine(hcl2 _ hd2).mono ?_);rintro e w4 ⟨v4,rfl,o4,q4⟩;have hs34:w.heap.size+2<w3.heap.size:=(by have:=hs3;omega);obtain⟨A4,z4,rfl⟩:=o4.has.slice;replace o4:HasP (fun b=>_<=b/\b<w4.heap.size) w4 _ _:=o4.has.weakB (fun b hb e=>⟨e,hb⟩);replace hB0:=hB0.below_ q4;replace hB1:=hB1.below_ q4;replace hB2:=hB2.below_ q4;replace oo2:=oo2.below_ q4;replace o3:=o3.below_ q4;replace hbw:=hbw.trans (q4.mono hbw.size);try(replace hX:=hX.below_ q4;obtain⟨xf0,xf1,xf2,xf3,xf4,xf5,xf6,xf7,xf8,xf9⟩:=Xf.of hX;obtain⟨xc0,xc1,xc2,xc3,xc4,xc5,xc6,xc7,xc8,xc9⟩:=Xc.of hX;have xl:=hX.lt)))
 all_goals
  have sz4:w.heap.size+1+1<w4.heap.size:=hB2.lt
  have s2':w.heap.size+1+1<w2.heap.size:=hs2
  skip
 refine gen_world (F:=fun W=>Pre W w w4.heap.size ⟨(ka,kb),⟨ne,ns,nr⟩,head,data,oout (m+1),(m:Int)+1⟩ (.slice A3 head.length z3) (.slice A4 data.length z4) (.slice (some ⟨g,0,none⟩) 32 40)) (by exact⟨Blk.new w4 176 _,hbw.alloc hbw.size _,hB2.alloc _,(o3.alloc _).weakB (fun b hb e=>by have:=e.1;(try simp at*);omega),(o4.alloc _).weakB (fun b hb e=>by have:=e.1;have:=hs34;omega),(oo2.alloc _).weak (fun b e=>e.1),by omega⟩) ?_
 obtain⟨x,hx⟩:∃x,x=w4.heap.size:=⟨_,rfl⟩
 rw[<-hx]
 clear hx
 rotate_left 1
 have k1:=o3.weak (q:=fun b=>w.heap.size+2<b/\b≠w3.heap.size) (fun b e=>by have:=e.1;have:=e.2;(try simp at*);omega)
 have k2:=o4.weak (q:=fun b=>w.heap.size+2<b/\b≠w3.heap.size) (fun b e=>by have:=e.1;(try simp at*);omega)
 have k3:=oo2.weak (q:=fun b=>w.heap.size+2<b/\b≠w3.heap.size) (fun b e=>by have:=e.1;have:=e.2;omega)
 have k4:=Pre.set (I:=⟨(ka,kb),⟨ne,ns,nr⟩,head,data,oout (m+1),(m:Int)+1⟩) hX hbw hB2 k1 k2 k3 (by omega)
 refine gen_world (F:=fun W=>Pre W w w3.heap.size ⟨(ka,kb),⟨ne,ns,nr⟩,head,data,oout (m+1),(m:Int)+1⟩ (.slice A3 head.length z3) (.slice A4 data.length z4) (.slice (some ⟨g,0,none⟩) 32 40)) (by rw[sets10'];exact k4) ?_
 obtain⟨x,hx⟩:∃x,x=w3.heap.size:=⟨_,rfl⟩
 rw[<-hx]
 clear hx k1 k2 k3 k4
 rotate_left 1
 have k1:=o3.weak (q:=fun b=>w.heap.size+2<b/\b≠w2.heap.size) (fun b e=>by have:=e.1;have:=e.2;(try simp at*);omega)
 have k2:=o4.weak (q:=fun b=>w.heap.size+2<b/\b≠w2.heap.size) (fun b e=>by have:=e.1;(try simp at*);omega)
 have k3:=oo2.weak (q:=fun b=>w.heap.size+2<b/\b≠w2.heap.size) (fun b e=>by have:=e.1;have:=e.2;omega)
 have k4:=Pre.set (I:=⟨(ka,kb),⟨ne,ns,nr⟩,head,data,oout (m+1),(m:Int)+1⟩) hX hbw hB2 k1 k2 k3 (by omega)
 refine gen_world (F:=fun W=>Pre W w w2.heap.size ⟨(ka,kb),⟨ne,ns,nr⟩,head,data,oout (m+1),(m:Int)+1⟩ (.slice A3 head.length z3) (.slice A4 data.length z4) (.slice (some ⟨g,0,none⟩) 32 40)) (by rw[sets10'];exact k4) ?_
 obtain⟨x,hx⟩:∃x,x=w2.heap.size:=⟨_,rfl⟩
 rw[<-hx]
 clear hx k1 k2 k3 k4
 rotate_left 1
 all_goals
  clear hcl1 hcl2
  intro W5 hP
  have HP:=Lib.hid hP
  obtain⟨bx,be,br,q3,q4,qo,lx⟩:=hP
  obtain⟨h1,h2,h3,h4,h5,h6,h7,h8,h9,h10,h11,h12⟩:=HH.out
  have hS:=h1.below_ be
  have c0:W5.cell? ⟨o,0,none⟩=some (.slice AI m cI):=hS.cell_ 0 rfl
  have lo:=hS.lt
  have r3:W5.ownsRow 0 176 10 (.slice AI m cI) m cs:=row_keep h3 (fun b hb _=>be.block b hb)
  have xc0:W5.cell? ⟨x,0,none⟩=some (.int .u64 ka):=bx.cell_ 0 rfl
  have xc1:W5.cell? ⟨x,1,none⟩=some (.int .u64 kb):=bx.cell_ 1 rfl
  have xc2:W5.cell? ⟨x,2,none⟩=some (.int .u32 ne):=bx.cell_ 2 rfl
  have xc3:W5.cell? ⟨x,3,none⟩=some (.int .u32 ns):=bx.cell_ 3 rfl
  have xc4:W5.cell? ⟨x,4,none⟩=some (.int .u64 nr):=bx.cell_ 4 rfl
  have xc5:W5.cell? ⟨x,5,none⟩=some (.slice A3 head.length z3):=bx.cell_ 5 rfl
  have xc6:W5.cell? ⟨x,6,none⟩=some (.slice A4 data.length z4):=bx.cell_ 6 rfl
  have xc7:W5.cell? ⟨x,7,none⟩=some (.slice (some ⟨g,0,none⟩) 32 40):=bx.cell_ 7 rfl
  have xc8:W5.cell? ⟨x,8,none⟩=some (.int .u64 18446744073709551615):=bx.cell_ 8 rfl
  have xc9:W5.cell? ⟨x,9,none⟩=some (.int .u64 ((m:Int)+1)):=bx.cell_ 9 rfl
  have xl:=bx.lt
  have h2':ρ o=14:=h2
  have r4:∀b,(Value.slice AI m cI).ownBlock=some b->ρ b=rIss:=by rw[HM.out.1];exact h4
  obtain⟨i0,hi,hz0,hz1,hz2⟩:=info_parts info176
  have r3':(W5.alloc (.cells #[.int .u64 ka,.int .u64 kb,.int .u32 ne,.int .u32 ns,.int .u64 nr,.slice A3 head.length z3,.slice A4 data.length z4,.slice (some ⟨g,0,none⟩) 32 40,.int .u64 18446744073709551615,.int .u64 ((m:Int)+1)] 176)).drew.ownsRow 0 176 10 (.slice AI m cI) m cs:=World.ownsRow.alloc r3 _
  have hn':∀(j:Nat) (u:Value),([.int .u64 ka,.int .u64 kb,.int .u32 ne,.int .u32 ns,.int .u64 nr,.slice A3 head.length z3,.slice A4 data.length z4,.slice (some ⟨g,0,none⟩) 32 40,.int .u64 18446744073709551615,.int .u64 ((m:Int)+1)]:List Value)[j]? =some u->(W5.alloc (.cells #[.int .u64 ka,.int .u64 kb,.int .u32 ne,.int .u32 ns,.int .u64 nr,.slice A3 head.length z3,.slice A4 data.length z4,.slice (some ⟨g,0,none⟩) 32 40,.int .u64 18446744073709551615,.int .u64 ((m:Int)+1)] 176)).drew.cell? ((⟨W5.heap.size,0,none⟩:Addr).add j)=some u:=cell_list_new W5 _ 176
  have h1':∀v∈([.int .u64 ka,.int .u64 kb,.int .u32 ne,.int .u32 ns,.int .u64 nr,.slice A3 head.length z3,.slice A4 data.length z4,.slice (some ⟨g,0,none⟩) 32 40,.int .u64 18446744073709551615,.int .u64 ((m:Int)+1)]:List Value),v.oneCell'=true:=fun v hv=>by simp at hv;rcases hv with rfl|rfl|rfl|rfl|rfl|rfl|rfl|rfl|rfl|rfl<;>rfl
  clear q3 q4 qo h1 h3 h4 h5 h6 h7 h8 h9 h10 h11 h12 br bx
  go_wp2_with fail
  go_region_law
   (refine step_append_own (by rfl) _ _ _ (by rfl) 0 176 i0 _ 10 120 Tryz.underlying171 hi hz0 hz1 hz2 rfl (by omega) _ m cs (by rfl) r3' ⟨W5.heap.size,0,none⟩ 1 1 [.int .u64 ka,.int .u64 kb,.int .u32 ne,.int .u32 ns,.int .u64 nr,.slice A3 head.length z3,.slice A4 data.length z4,.slice (some ⟨g,0,none⟩) 32 40,.int .u64 18446744073709551615,.int .u64 ((m:Int)+1)] (by rfl) (by rfl) hn' h1' (by unfold maxLen;omega) (by omega) (by omega) ?_;intro v2 w6 hown2 hgrow2 hor2;obtain⟨A6,z6,rfl⟩:=row_form hown2;have hS2:=(hS.alloc (.cells #[.int .u64 ka,.int .u64 kb,.int .u32 ne,.int .u32 ns,.int .u64 nr,.slice A3 head.length z3,.slice A4 data.length z4,.slice (some ⟨g,0,none⟩) 32 40,.int .u64 18446744073709551615,.int .u64 ((m:Int)+1)] 176)).drew.grown hgrow2 (fun e=>by have:=r4 o e.symm;rw[h2']at this;exact absurd this (by decide));have d0:=hS2.cell_ 0 rfl;have f0:=hS2.frozen 0;have k2:=hS2.lt)
  all_goals
   obtain⟨bx,be,br,q3,q4,qo,lx⟩:=HP.out
   have bV:Below w.heap.size w (W5.alloc (.cells #[.int .u64 ka,.int .u64 kb,.int .u32 ne,.int .u32 ns,.int .u64 nr,.slice A3 head.length z3,.slice A4 data.length z4,.slice (some ⟨g,0,none⟩) 32 40,.int .u64 18446744073709551615,.int .u64 ((m:Int)+1)] 176)).drew:=(be.alloc be.size _).drew
   have hfr:∀b,w.heap.size<=b->ρ b=0:=hf
   obtain⟨V,hV⟩:∃V,V=(W5.alloc (.cells #[.int .u64 ka,.int .u64 kb,.int .u32 ne,.int .u32 ns,.int .u64 nr,.slice A3 head.length z3,.slice A4 data.length z4,.slice (some ⟨g,0,none⟩) 32 40,.int .u64 18446744073709551615,.int .u64 ((m:Int)+1)] 176)).drew:=⟨_,rfl⟩
   have hVs:W5.heap.size<V.heap.size:=by rw[hV];simp
   have bVx:=(bx.alloc (.cells #[.int .u64 ka,.int .u64 kb,.int .u32 ne,.int .u32 ns,.int .u64 nr,.slice A3 head.length z3,.slice A4 data.length z4,.slice (some ⟨g,0,none⟩) 32 40,.int .u64 18446744073709551615,.int .u64 ((m:Int)+1)] 176)).drew
   have bVr:=(br.alloc (.cells #[.int .u64 ka,.int .u64 kb,.int .u32 ne,.int .u32 ns,.int .u64 nr,.slice A3 head.length z3,.slice A4 data.length z4,.slice (some ⟨g,0,none⟩) 32 40,.int .u64 18446744073709551615,.int .u64 ((m:Int)+1)] 176)).drew
   have q3':=(q3.alloc (.cells #[.int .u64 ka,.int .u64 kb,.int .u32 ne,.int .u32 ns,.int .u64 nr,.slice A3 head.length z3,.slice A4 data.length z4,.slice (some ⟨g,0,none⟩) 32 40,.int .u64 18446744073709551615,.int .u64 ((m:Int)+1)] 176)).drew
   have q4':=(q4.alloc (.cells #[.int .u64 ka,.int .u64 kb,.int .u32 ne,.int .u32 ns,.int .u64 nr,.slice A3 head.length z3,.slice A4 data.length z4,.slice (some ⟨g,0,none⟩) 32 40,.int .u64 18446744073709551615,.int .u64 ((m:Int)+1)] 176)).drew
   have qo':=(qo.alloc (.cells #[.int .u64 ka,.int .u64 kb,.int .u32 ne,.int .u32 ns,.int .u64 nr,.slice A3 head.length z3,.slice A4 data.length z4,.slice (some ⟨g,0,none⟩) 32 40,.int .u64 18446744073709551615,.int .u64 ((m:Int)+1)] 176)).drew
   rw[<-hV]at bV hgrow2 hor2 bVx bVr q3' q4' qo'
   obtain⟨W6,hW6⟩:∃W6,W6=w6.setCell ⟨o,0,none⟩ (.slice A6 (m+1) z6):=⟨_,rfl⟩
   have hsV:=be.size
   have key:∃ρ6:Rl,More ρ ρ6/\(∀b,ρ6 b≠ρ b->w.heap.size+2<b)/\Fresh ρ6 W6/\OrcR ρ6 W6 o (oseal O (ka,kb) ⟨ne,ns,nr⟩ head data)/\Ch (fun i=>rtOrc (ρ i)) V W6:=by
    obtain⟨h1,h2,h3,h4,h5,h6,h7,h8,h9,h10,h11,h12⟩:=HH.out
    have hm:=HM.out.1
    have hd3:=HM.out.2.2
    have hh3:=HM.out.2.1
    obtain⟨ρ6,m6,d6,f6,O6,c6⟩:=OrcR.push (ρ:=ρ) (W:=V) (W':=w6) (O:=O) (vI:=.slice AI m cI) (v':=.slice A6 (m+1) z6) (bm:=bm) (n:=mn) (cs:=cs) (D:=D) (x:=⟨(ka,kb),⟨ne,ns,nr⟩,head,data,oout (m+1),(m:Int)+1⟩) (vh:=.slice A3 head.length z3) (vd:=.slice A4 data.length z4) (vo:=.slice (some ⟨g,0,none⟩) 32 40)
     (h1.below_ bV) h2 (by rw[<-hm];exact row_keep h3 (fun b hb _=>bV.block b hb)) r4 (h5.weak (fun c y _ hy=>hy.keep bV.size (fun b hb _=>bV.block b hb)))
     (by obtain⟨es,clock,hmm,hrr⟩:=h6;exact⟨es,clock,(bV.block bm (Array.getElem?_eq_some_iff.1 hmm).1).trans hmm,hrr⟩) h7 ⟨h8,h9⟩ (by rw[<-hm];exact hc) h11 h12
     ⟨hk,hn,by rw[<-hh3];exact hl,by simp only;omega,by simp only[oout_len];omega,⟨by simp only;omega,by simp only;omega⟩⟩
     (q3'.weak (fun b e=>.inl (hfr b (by omega)))) (q4'.weak (fun b e=>.inl (hfr b (by omega)))) (qo'.weak (fun b e=>.inl (hfr b (by omega))))
     (by rw[<-hm];exact hown2) hgrow2 hor2 (fun b hb=>hfr b (Nat.le_trans bV.size hb))
    rw[<-hW6]at f6 O6 c6
    refine⟨ρ6,m6,fun b hb=>?_,f6,?_,c6⟩
    ·have e3:∀{u:Value}{l:By},HasP (w.heap.size+2<·) V u l->u.ownBlock=some b->w.heap.size+2<b:=fun h e=>by
      rcases h with⟨rfl,_⟩|⟨b',o',c',rfl,h1,_⟩
      ·simp[Value.ownBlock]at e
      ·simp only[Value.ownBlock]at e
       injection e with e
       rw[<-e];exact h1
     rcases d6 b hb with e|e|e|e
     ·exact e3 q3' e
     ·exact e3 q4' e
     ·exact e3 qo' e
     ·have:=br.lt
      omega
    ·have:oseal O (ka,kb) ⟨ne,ns,nr⟩ head data={O with iss:=O.iss++[⟨(ka,kb),⟨ne,ns,nr⟩,head,data,oout (m+1),(m:Int)+1⟩]}:=by unfold oseal iseal;rw[hm]
     rw[this]
     exact O6
   obtain⟨ρ6,m6,d6,f6,O6,c6⟩:=key
   have hk6:∀b,b<V.heap.size->w.heap.size<=b->W6.heap[b]? =V.heap[b]? :=fun b hb e=>c6.keep b hb (by rw[hfr b e];unfold rtOrc;decide)
   have bx6:Blk W6 x 176 (icells ⟨(ka,kb),⟨ne,ns,nr⟩,head,data,oout (m+1),(m:Int)+1⟩ (.slice A3 head.length z3) (.slice A4 data.length z4) (.slice (some ⟨g,0,none⟩) 32 40)).toArray:=(hk6 x bVx.lt (by omega)).trans bVx
   have br6:Blk W6 (w.heap.size+1+1) 157 #[.slice none 0 0,.int .u64 0,.int .u64 0]:=(hk6 _ bVr.lt (by omega)).trans bVr
   have q36:=q3'.keep c6.size (fun b hb e=>hk6 b hb (by omega))
   have q46:=q4'.keep c6.size (fun b hb e=>hk6 b hb (by omega))
   have qo6:=qo'.keep c6.size (fun b hb e=>hk6 b hb (by omega))
   have hto:=told_ok _ ⟨(ka,kb),⟨ne,ns,nr⟩,head,data,oout (m+1),(m:Int)+1⟩ (.slice A3 head.length z3) (.slice A4 data.length z4) (.slice (some ⟨g,0,none⟩) 32 40) W6 q36 q46 qo6 (by rw[<-HM.out.2.1];exact hl) (by simp only[HM.out.2.2];omega) (by simp only[oout_len];omega)
   have hr:=bx6.range
   have hi':(Tryz.prog.info? 176).map (·.size)=some (icells ⟨(ka,kb),⟨ne,ns,nr⟩,head,data,oout (m+1),(m:Int)+1⟩ (.slice A3 head.length z3) (.slice A4 data.length z4) (.slice (some ⟨g,0,none⟩) 32 40)).length:=sz176
   have HF:=Lib.hid (And.intro m6 (And.intro d6 (And.intro f6 (And.intro O6 (And.intro c6 (And.intro br6 bV))))))
   have hs6:V.heap.size<=W6.heap.size:=c6.size
   have bVl:w.heap.size+1+1<V.heap.size:=bVr.lt
   obtain⟨Lc,hLc⟩:∃Lc,Lc=icells ⟨(ka,kb),⟨ne,ns,nr⟩,head,data,oout (m+1),(m:Int)+1⟩ (.slice A3 head.length z3) (.slice A4 data.length z4) (.slice (some ⟨g,0,none⟩) 32 40):=⟨_,rfl⟩
   rw[<-hLc]at hto hr hi'
   rw[<-hW6]
   have HLc:=Lib.hid hLc
   clear hLc q3 q4 qo q3' q4' qo' q36 q46 qo6 bx6 br6 bVx bVr bx be br m6 d6 f6 O6 c6 hown2 hgrow2 hor2 hS hS2 d0 f0 k2 xc0 xc1 xc2 xc3 xc4 xc5 xc6 xc7 xc8 xc9 c0 r3 r3' hn' h1' r4 hW6 hV
   go_wp2_with (with_reducible refine wpList_load_mid rfl 176 _ rfl x 0 rfl Lc _ hr Tryz.underlying176 rfl hi' ?_)
   refine hto.mono ?_
   rintro e w7 ⟨vh',vd',vo',rfl,o7,q7⟩
   obtain⟨A7,z7,rfl⟩:=o7.has.slice
   clear hto hr hi'
   rw[show(icells ⟨(ka,kb),⟨ne,ns,nr⟩,head,data,oout (m+1),(m:Int)+1⟩ vh' vd' (.slice A7 (oout (m+1)).length z7)).toArray=#[.int .u64 ka,.int .u64 kb,.int .u32 ne,.int .u32 ns,.int .u64 nr,vh',vd',.slice A7 (oout (m+1)).length z7,.int .u64 18446744073709551615,.int .u64 ((m:Int)+1)]from rfl]
   obtain⟨m6,d6,f6,O6,c6,br6,bV⟩:=HF.out
   have br7:=br6.below_ q7
   have ht:=Blk.there_ (cs:=[.slice none 0 0,.int .u64 0,.int .u64 0]) (n:=3) br7 rfl
   have hsz7:=q7.size
   have HE:=Lib.hid (And.intro m6 (And.intro d6 (And.intro f6 (And.intro O6 (And.intro c6 (And.intro br7 (And.intro bV (And.intro o7 q7))))))))
   obtain⟨L3,hL3⟩:∃L3:List Value,L3=[.slice A7 (oout (m+1)).length z7,.int .u64 18446744073709551615,.int .u64 ((m:Int)+1)]:=⟨_,rfl⟩
   have h13:L3.toArray.all (·.oneCell')=true:=by rw[hL3];simp[Value.oneCell']
   have hi3:(Tryz.prog.info? 157).map (·.size)=some L3.length:=by rw[hL3];exact sz157
   have hi3':(Tryz.prog.info? 157).map (·.size)=some L3.toArray.size:=by rw[List.size_toArray];exact hi3
   have ht':w7.there (w.heap.size+1+1) 0 L3.toArray.size:=by rw[hL3];exact ht
   have hfd:∀W,(Instr.field 176 (.agg #[.int .u64 ka,.int .u64 kb,.int .u32 ne,.int .u32 ns,.int .u64 nr,vh',vd',.slice A7 (oout (m+1)).length z7,.int .u64 18446744073709551615,.int .u64 ((m:Int)+1)]) 4).run Tryz.prog W=.ok (.agg L3.toArray) W:=fun W=>by rw[hL3];exact field4 _ _ _ _ _ _ _ _ _ _ W
   have HL3:=Lib.hid hL3
   clear hL3 m6 d6 f6 O6 c6 br6 br7 bV o7 q7 ht
   go_wp2_with (with_reducible refine wpList_store_mid rfl 157 _ _ rfl (w.heap.size+1+1) 0 L3.toArray rfl rfl ht' hi3' h13 ?_)
   obtain⟨m6,d6,f6,O6,c6,br7,bV,o7,q7⟩:=HE.out
   have bR:=Blk.whole (cs:=[.slice none 0 0,.int .u64 0,.int .u64 0]) (vs:=L3) br7 (by rw[HL3.out];rfl)
   have hg8:w7.grownBy (w7.setCells (w.heap.size+1+1) 0 L3) (some (w.heap.size+1+1)):=r27.only_setCells _ 0 w7 (only_refl _ _)
   have hz:ρ6 (w.heap.size+1+1)=0:=by
    by_cases e:ρ6 (w.heap.size+1+1)=ρ (w.heap.size+1+1)
    ·rw[e];exact hfr _ (by omega)
    ·have:=d6 _ e
     omega
   have hk8:∀b,b<w7.heap.size->b≠w.heap.size+1+1->(w7.setCells (w.heap.size+1+1) 0 L3).heap[b]? =w7.heap[b]? :=fun b hb e=>hg8.block b hb (fun c=>e (by injection c))
   have hVw:=bV.size
   have hsg:=hg8.size
   refine ret_cell_tmp 10 157 11 (by rfl) (w.heap.size+1+1) 0 (by rfl) (.bool true) (by rfl) L3 _ bR.range Tryz.underlying157 rfl hi3 rfl ⟨.slice A7 (oout (m+1)).length z7,by rw[HL3.out],ρ6,?_,?_,?_⟩
   ·refine((o7.has.weak (q:=fun b=>(w.heap.size<=b/\ρ6 b=0)/\b≠w.heap.size+1+1) (fun b e=>⟨⟨by omega,f6 b e⟩,fun c=>by have:=br7.lt;have:=bVl;omega⟩)).keep hg8.size (fun b hb e=>hk8 b hb e.2)).weak (fun b e=>e.1)
   ·refine O6.keep (Nat.le_trans hsz7 hsg) (fun b hb e=>⟨?_,rfl⟩)
    rw[hk8 b (Nat.lt_of_lt_of_le hb hsz7) (fun c=>by rw[c,hz]at e;unfold rsOrc at e;revert e;decide)]
    exact q7.block b hb
   ·have hch:Ch (fun i=>rtOrc (ρ i)) w _:=(((Ch.of_below bV).trans c6).trans (Ch.of_below q7 (S:=fun i=>rtOrc (ρ i)) |>.mono (fun _ h=>h))).then_only hg8 (by omega)
    refine⟨hch,fun i hi=>?_,fun i hi=>f6 i (by omega)⟩
    by_cases e:ρ6 i=ρ i
    ·exact e
    ·have:=d6 i e
     omega
end Go.Proofs.YtggmdjdflaglpaaGreat
