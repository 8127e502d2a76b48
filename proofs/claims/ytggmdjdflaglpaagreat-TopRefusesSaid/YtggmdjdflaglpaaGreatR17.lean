/- The ideal sealer: told, an issue in new memory. -/
import Derived.Test.YtggmdjdflaglpaaGreatR16
namespace Go.Proofs.YtggmdjdflaglpaaGreat
open Go.RowKit
set_option linter.unusedVariables false
set_option maxHeartbeats 8000000 in
set_option maxRecDepth 100000 in
theorem told_ok (p:Nat->Prop) (x:Iss) (vh vd vo:Value) (w:World) (h1:HasP p w vh x.head) (h2:HasP p w vd x.data) (h3:HasP p w vo x.out) (b1:x.head.length<=4000) (b2:x.data.length<=4000) (b3:x.out.length<=4000):
 Calls Tryz.prog 91 #[.agg (icells x vh vd vo).toArray] w fun e w'=>∃vh' vd' vo',e=.returned (.agg (icells x vh' vd' vo').toArray)/\OwnB w.heap.size w' vo' x.out/\Below w.heap.size w w':=by
 obtain⟨key,n,head,data,out,num⟩:=x
 obtain⟨ka,kb⟩:=key
 obtain⟨ne,ns,nr⟩:=n
 unfold icells kSeal
 simp only at*
 have hcl:=fun(v:Value) (l:By) (W:World) (h:HasP p W v l) (hl:l.length<=4000)=>clone_ok p v l W h (by omega)
 obtain⟨W,hW⟩:∃W,W=(w.alloc (.cells #[.int .u64 ka,.int .u64 kb,.int .u32 ne,.int .u32 ns,.int .u64 nr,vh,vd,vo,.int .u64 18446744073709551615,.int .u64 num] 176)).alloc (.cells #[.int .u64 0,.int .u64 0,.int .u32 0,.int .u32 0,.int .u64 0,.slice none 0 0,.slice none 0 0,.slice none 0 0,.int .u64 0,.int .u64 0] 176):=⟨_,rfl⟩
 have hbw:Below w.heap.size w W:=by rw[hW];exact((Below.refl _ _).alloc (Nat.le_refl _) _).alloc (by simp) _
 have hB:Blk W w.heap.size 176 #[.int .u64 ka,.int .u64 kb,.int .u32 ne,.int .u32 ns,.int .u64 nr,vh,vd,vo,.int .u64 18446744073709551615,.int .u64 num]:=by rw[hW];exact(Blk.new w 176 _).alloc _
 have hR:Blk W (w.heap.size+1) 176 #[.int .u64 0,.int .u64 0,.int .u32 0,.int .u32 0,.int .u64 0,.slice none 0 0,.slice none 0 0,.slice none 0 0,.int .u64 0,.int .u64 0]:=by
  rw[hW]
  have:=Blk.new (w.alloc (.cells #[.int .u64 ka,.int .u64 kb,.int .u32 ne,.int .u32 ns,.int .u64 nr,vh,vd,vo,.int .u64 18446744073709551615,.int .u64 num] 176)) 176 #[.int .u64 0,.int .u64 0,.int .u32 0,.int .u32 0,.int .u64 0,.slice none 0 0,.slice none 0 0,.slice none 0 0,.int .u64 0,.int .u64 0]
  rw[World.size_alloc]at this
  exact this
 replace h1:=h1.below_ hbw
 replace h2:=h2.below_ hbw
 replace h3:=h3.below_ hbw
 go_enter Tryz.func91,Tryz.ntmps91
 go_wp2_with fail
 rw[<-hW]
 clear hW
 replace hB:=hB.drew
 replace hR:=hR.drew
 replace hbw:=hbw.drew
 replace h1:=h1.drew
 replace h2:=h2.drew
 replace h3:=h3.drew
 have c5:=hB.cell_ 5 rfl
 have c6:=hB.cell_ 6 rfl
 have c7:=hB.cell_ 7 rfl
 have f5:=hB.frozen 5
 have f6:=hB.frozen 6
 have f7:=hB.frozen 7
 have lB:=hB.lt
 go_region_law
  (go_simp;go_at_call 49;first
   |((with_reducible refine(hcl _ _ _ h1 b1).mono ?_);rintro e w1 ⟨v1,rfl,oA,l1⟩;obtain⟨A1,q1,rfl⟩:=oA.has.slice;replace hB:=hB.below_ l1;replace hR:=hR.below_ l1;replace h1:=h1.below_ l1;replace h2:=h2.below_ l1;replace h3:=h3.below_ l1;replace hbw:=hbw.trans (l1.mono hbw.size);clear l1;replace c5:=hB.cell_ 5 rfl;replace c6:=hB.cell_ 6 rfl;replace c7:=hB.cell_ 7 rfl;replace f5:=hB.frozen 5;replace f6:=hB.frozen 6;replace f7:=hB.frozen 7;replace lB:=hB.lt)
   |((with_reducible refine(hcl _ _ _ h2 b2).mono ?_);rintro e w2 ⟨v2,rfl,oB,l1⟩;obtain⟨A2,q2,rfl⟩:=oB.has.slice;replace hB:=hB.below_ l1;replace hR:=hR.below_ l1;have s2:=hR.lt;replace h1:=h1.below_ l1;replace h2:=h2.below_ l1;replace h3:=h3.below_ l1;replace hbw:=hbw.trans (l1.mono hbw.size);clear l1;replace c5:=hB.cell_ 5 rfl;replace c6:=hB.cell_ 6 rfl;replace c7:=hB.cell_ 7 rfl;replace f5:=hB.frozen 5;replace f6:=hB.frozen 6;replace f7:=hB.frozen 7;replace lB:=hB.lt)
   |((with_reducible refine(hcl _ _ _ h3 b3).mono ?_);rintro e w3 ⟨v3,rfl,oC,l1⟩;obtain⟨A3,q3,rfl⟩:=oC.has.slice;replace hB:=hB.below_ l1;replace hR:=hR.below_ l1;replace h1:=h1.below_ l1;replace h2:=h2.below_ l1;replace h3:=h3.below_ l1;replace hbw:=hbw.trans (l1.mono hbw.size);clear l1;replace c5:=hB.cell_ 5 rfl;replace c6:=hB.cell_ 6 rfl;replace c7:=hB.cell_ 7 rfl;replace f5:=hB.frozen 5;replace f6:=hB.frozen 6;replace f7:=hB.frozen 7;replace lB:=hB.lt))
 all_goals
  have hB4:=((hB.set_to 5 (.slice A1 head.length q1) (cs':=#[.int .u64 ka,.int .u64 kb,.int .u32 ne,.int .u32 ns,.int .u64 nr,.slice A1 head.length q1,vd,vo,.int .u64 18446744073709551615,.int .u64 num]) rfl).set_to 6 (.slice A2 data.length q2) (cs':=#[.int .u64 ka,.int .u64 kb,.int .u32 ne,.int .u32 ns,.int .u64 nr,.slice A1 head.length q1,.slice A2 data.length q2,vo,.int .u64 18446744073709551615,.int .u64 num]) rfl).set_to 7 (.slice A3 out.length q3) (cs':=(icells ⟨(ka,kb),⟨ne,ns,nr⟩,head,data,out,num⟩ (.slice A1 head.length q1) (.slice A2 data.length q2) (.slice A3 out.length q3)).toArray) rfl
  have hR4:=((hR.far (p:=⟨w.heap.size,5,none⟩) (by simp) (.slice A1 head.length q1)).far (p:=⟨w.heap.size,6,none⟩) (by simp) (.slice A2 data.length q2)).far (p:=⟨w.heap.size,7,none⟩) (by simp) (.slice A3 out.length q3)
  have hg1:w3.grownBy (w3.setCell ⟨w.heap.size,5,none⟩ (.slice A1 head.length q1)) (some w.heap.size):=only_setCell (only_refl _ _) (.inl rfl) _
  have hg2:=only_setCell hg1 (p:=⟨w.heap.size,6,none⟩) (.inl rfl) (.slice A2 data.length q2)
  have hg4:=only_setCell hg2 (p:=⟨w.heap.size,7,none⟩) (.inl rfl) (.slice A3 out.length q3)
  have hfin:=Lib.hid (And.intro hB4 (And.intro hR4 (And.intro hg4 (And.intro oC hbw))))
  have hr:=hB4.range
  have ht:=hR4.there_ (n:=10) rfl
  clear hcl hB hR h1 h2 h3 c5 c6 c7 f5 f6 f7 lB oA oB oC hbw hB4 hR4 hg4 hg1 hg2
  obtain⟨L,hL⟩:∃L,L=icells ⟨(ka,kb),⟨ne,ns,nr⟩,head,data,out,num⟩ (.slice A1 head.length q1) (.slice A2 data.length q2) (.slice A3 out.length q3):=⟨_,rfl⟩
  have h1:L.toArray.all (·.oneCell')=true:=by rw[hL];simp[icells,Value.oneCell']
  have hi:(Tryz.prog.info? 176).map (·.size)=some L.length:=by rw[hL];exact sz176
  have hi':(Tryz.prog.info? 176).map (·.size)=some L.toArray.size:=by rw[List.size_toArray];exact hi
  rw[<-hL]at hr hfin
  generalize (((w3.setCell {block:=w.heap.size,off:=5} (Value.slice A1 (List.length head) q1)).setCell
   {block:=w.heap.size,off:=6} (Value.slice A2 (List.length data) q2)).setCell
   {block:=w.heap.size,off:=7} (Value.slice A3 (List.length out) q3))=W4 at*
  have ht':W4.there (w.heap.size+1) 0 L.toArray.size:=by rw[hL];exact ht
  have HL:=Lib.hid hL
  clear hL ht
  go_wp2_with (first|(with_reducible refine wpList_load_mid rfl 176 _ rfl w.heap.size 0 rfl L _ hr Tryz.underlying176 rfl hi ?_)|(with_reducible refine wpList_store_mid rfl 176 _ _ rfl (w.heap.size+1) 0 L.toArray rfl rfl ht' hi' h1 ?_))
  obtain⟨hB4,hR4,hg4,oC,hbw⟩:=hfin.out
  have hR5:=Blk.whole (cs:=[.int .u64 0,.int .u64 0,.int .u32 0,.int .u32 0,.int .u64 0,.slice none 0 0,.slice none 0 0,.slice none 0 0,.int .u64 0,.int .u64 0]) (vs:=L) hR4 (by rw[HL.out];simp[icells])
  have hg5:W4.grownBy (W4.setCells (w.heap.size+1) 0 L) (some (w.heap.size+1)):=r27.only_setCells L 0 W4 (only_refl _ _)
  have hw5:=below_only (below_only hbw hg4 hbw.size (Nat.le_refl _)) hg5 (Nat.le_trans hbw.size hg4.size) (by omega)
  have hwl:=hbw.size
  refine ret_cell 2 176 (by rfl) (w.heap.size+1) 0 (by rfl) L _ hR5.range Tryz.underlying176 rfl hi rfl ⟨.slice A1 head.length q1,.slice A2 data.length q2,.slice A3 out.length q3,by rw[HL.out];rfl,?_,hw5⟩
  refine(oC.keep (fun b hb e=>?_)).weak (by omega)
  have hb2:=(oC.ge e).1
  rw[hg5.block b (Nat.lt_of_lt_of_le hb hg4.size) (fun e=>by injection e with e;omega),hg4.block b hb (fun e=>by injection e with e;omega)]
end Go.Proofs.YtggmdjdflaglpaaGreat
