/- Keys: Erase, of two epochs. Keys: Erase. -/
import Derived.Test.YtggmdjdflaglpaaGreatR09
import Derived.Handy
namespace Go.Proofs.YtggmdjdflaglpaaGreat
open Go.RowKit
set_option linter.unusedVariables false
theorem eless_ok (e b n:Nat) (B1 B2:Nat) (w:World) (h1:w.cell? ⟨B1,0,none⟩=some (.int .u32 b)) (h2:w.cell? ⟨B2,0,none⟩=some (.int .u32 n)):
 Calls Tryz.prog 147 #[.int .u32 e,.pointer (some ⟨B1,0,none⟩),.pointer (some ⟨B2,0,none⟩)] w fun x w'=>x=.returned (.bool (decide (e<b)&&decide (e≠n)))/\w=w':=by
 by_cases hb:e<b
 ·have i1:(e:Int)<(b:Int):=by omega
  by_cases hn:e=n
  ·subst hn
   have i2:((e:Int) == (e:Int))=true:=by simp
   go_enter Tryz.func147,Tryz.ntmps147
   go_wp2_with fail
   go_ret
   exact⟨by simp,rfl⟩
  ·have i2:((e:Int) == (n:Int))=false:=by simp;omega
   go_enter Tryz.func147,Tryz.ntmps147
   go_wp2_with fail
   go_ret
   exact⟨by simp[bne,i2,hn,hb],rfl⟩
 ·have i1:¬(e:Int)<(b:Int):=by omega
  go_enter Tryz.func147,Tryz.ntmps147
  go_wp2_with fail
  go_ret
  exact⟨rfl,rfl⟩
theorem eidx_ok (g cap a b B1 B2:Nat) (w:World) (hab:a<b) (hg:w.cell? ⟨g,0,none⟩=some (.int .u32 a)) (h1:w.cell? ⟨B1,0,none⟩=some (.int .u32 b)) (h2:w.cell? ⟨B2,0,none⟩=some (.int .u32 b)):
 Calls Tryz.prog 174 #[.slice (some ⟨g,0,none⟩) 2 cap,.func (.func 147) #[] #[.pointer (some ⟨B1,0,none⟩),.pointer (some ⟨B2,0,none⟩)]] w fun x w'=>x=.returned (.int .i64 0)/\w=w':=by
 have hc:=eless_ok a b b B1 B2 w h1 h2
 rw[show(decide (a<b)&&decide (a≠b))=true by simp[hab];omega]at hc
 go_enter Tryz.func174,Tryz.ntmps174
 go_wp2_with fail
 refine wp_loop_rounds 1 ?_
 rw[rounds_succ]
 go_wp2_with (go_at_call 147;refine hc.mono ?_;rintro e w1 ⟨rfl,rfl⟩)
 go_ret
 exact⟨rfl,rfl⟩
theorem edel_ok (g cap a b B1 B2:Nat) (w:World) (hab:a<b) (cur:Array Value) (hg:Blk w g 97 cur) (c0:cur[0]? =some (.int .u32 a)) (c1:cur[1]? =some (.int .u32 b)) (hcap:2<=cap) (h1:w.cell? ⟨B1,0,none⟩=some (.int .u32 b)) (h2:w.cell? ⟨B2,0,none⟩=some (.int .u32 b)) (n1:B1≠g) (n2:B2≠g):
 Calls Tryz.prog 146 #[.slice (some ⟨g,0,none⟩) 2 cap,.func (.func 147) #[] #[.pointer (some ⟨B1,0,none⟩),.pointer (some ⟨B2,0,none⟩)]] w fun x w'=>x=.returned (.slice (some ⟨g,0,none⟩) 1 cap)/\w'=(w.setCell ⟨g,0,none⟩ (.int .u32 b)).setCell ⟨g,1,none⟩ (.int .u32 0):=by
 have hi:=eidx_ok g cap a b B1 B2 w hab (hg.cell_ 0 c0) h1 h2
 have hc:=eless_ok b b b B1 B2 w h1 h2
 rw[show(decide (b<b)&&decide (b≠b))=false by simp]at hc
 have d1:=hg.cell_ 1 c1
 have d0:=hg.cell_ 0 c0
 have e0:=hg.frozen 0
 have hl:=hg.lt
 have hx:=hg.set_ 0 (.int .u32 b)
 have f1:=hx.frozen 1
 have g1:(w.setCell ⟨g,0,none⟩ (.int .u32 b)).cell? ⟨g,1,none⟩=some (.int .u32 b):=hx.cell_ 1 (by rw[Array.getElem?_setIfInBounds];simp[c1])
 go_enter Tryz.func146,Tryz.ntmps146
 go_wp2_with fail
 refine hi.mono ?_
 rintro x w1 ⟨rfl,rfl⟩
 clear hi
 go_wp2_with fail
 obtain⟨W1,hW1⟩:∃W1,W1=w.setCell ⟨g,0,none⟩ (.int .u32 b):=⟨_,rfl⟩
 rw[<-hW1]at hx f1 g1
 have q1:∀j,j<1->(W1.cell? ⟨g,1+j,none⟩).isSome=true:=fun j hj=>by
  obtain rfl:j=0:=by omega
  rw[g1];rfl
 have q2:∀j,j<1->W1.frozen? ⟨g,1+j,none⟩=false:=fun j hj=>by
  obtain rfl:j=0:=by omega
  exact f1
 have hcl:∀ty,(Builtin.clear_ #[135] ty #[.slice (some ⟨g,1,none⟩) 1 (cap-1)]).run Tryz.prog W1=.ok (.tuple #[]) (W1.setCell ⟨g,1,none⟩ (.int .u32 0)):=fun ty=>Lib.run_clear_slice W1 135 97 ty (.int .u32 0) Tryz.underlying135 Tryz.zeroValue97 rfl rfl g 1 1 (cap-1) (by omega) q1 q2
 clear q1 q2
 refine wp_loop_rounds 2 ?_
 rw[rounds_succ]
 go_wp2_with (go_at_call 147;refine hc.mono ?_;rintro e w1 ⟨rfl,rfl⟩)
 rw[<-hW1]
 have HW:=Lib.hid hW1
 clear hx hc hab c0 c1 hg d0 d1 e0 g1 f1 hW1 h1 h2 n1 n2 hl
 rw[rounds_succ]
 go_wp2_with fail
 go_ret
 exact⟨rfl,by rw[HW.out]⟩
end Go.Proofs.YtggmdjdflaglpaaGreat
namespace Go.Proofs.YtggmdjdflaglpaaGreat
open Go.RowKit
set_option linter.unusedVariables false
set_option maxHeartbeats 4000000 in
set_option maxRecDepth 100000 in
theorem kerase_ok (ρ:Rl) (p k:Nat) (P:Pow) (K:Kys) (w:World) (hf:Fresh ρ w) (hP:PowR w p P) (hp:ρ p=rPow) (h:KysR ρ w p k K) (h2:K.two=true) (hc:K.a<1000000):
 Calls Tryz.prog 110 #[.pointer (some ⟨k,0,none⟩),.int .u32 K.cur] w fun e w'=>e=.returned (.bool (spend P).2)/\PowR w' p (spend P).1/\∃ρ',KysR ρ' w' p k (if(spend P).2 then⟨K.seed,K.a+1,false⟩else K)/\Ste rtKys ρ w ρ' w':=by
 obtain⟨sd,a,two⟩:=K
 simp only at h2 hc
 subst h2
 simp only[Kys.cur,if_true]
 obtain⟨b,hb⟩:∃b,b=a+1:=⟨_,rfl⟩
 rw[<-hb]
 have hab:a<b:=by omega
 have HAB:=Lib.hid hb
 obtain⟨W,hW⟩:∃W,W=w.alloc (.cells #[.int .u32 b] 97):=⟨_,rfl⟩
 have hB:Blk W w.heap.size 97 #[.int .u32 b]:=by rw[hW];exact Blk.new w 97 _
 have hbw:Below w.heap.size w W:=by rw[hW];exact(Below.refl _ _).alloc (Nat.le_refl _) _
 have hPW:PowR W p P:=hP.keep (hbw.block p hP.lt)
 have hsp:=spend_ok p P W hPW
 have h0:KysR ρ W p k ⟨sd,a,true⟩:=h.keep hbw.size (fun b hb _=>⟨hbw.block b hb,rfl⟩)
 have hfW:Fresh ρ W:=fun i hi=>hf i (Nat.le_trans hbw.size hi)
 have hst0:Ste rtKys ρ w ρ W:=Ste.of_below hbw hf
 have H:=Lib.hid h0
 obtain⟨g,cap,h1,hk0,_⟩:=h0
 have c0:=h1.cell_ 0 rfl
 have hl:=h1.lt
 have hpl:=hP.lt
 have hbl:=hB.lt
 have hs0:=hbw.size
 clear h1 h hb
 subst hW
 cases hs:(spend P).2 with
 |false=>
  rw[hs]at hsp
  go_enter Tryz.func110,Tryz.ntmps110
  go_wp2_with fail
  refine hsp.mono ?_
  rintro e w1 ⟨rfl,hp1,hg⟩
  go_wp2_with fail
  go_ret
  have hst:Ste rtKys ρ _ ρ w1:=Ste.of_grown hg (by rw[hp];exact .inl rfl) hfW
  refine⟨by simp,hp1,ρ,?_,hst0.trans hst⟩
  exact H.out.keep hg.size (fun b hb hr=>⟨hg.block b hb (fun e=>by injection e with e;rw[e,hp]at hr;exact not_rk_pow hr),rfl⟩)
 |true=>
  rw[hs]at hsp
  go_enter Tryz.func110,Tryz.ntmps110
  go_wp2_with fail
  refine hsp.mono ?_
  rintro e w1 ⟨rfl,hp1,hg⟩
  have hst1:Ste rtKys ρ _ ρ w1:=Ste.of_grown hg (by rw[hp];exact .inl rfl) hfW
  have hS1:KysR ρ w1 p k ⟨sd,a,true⟩:=H.out.keep hg.size (fun b hb hr=>⟨hg.block b hb (fun e=>by injection e with e;rw[e,hp]at hr;exact not_rk_pow hr),rfl⟩)
  have hB1:Blk w1 w.heap.size 97 #[.int .u32 b]:=hB.grown hg (fun e=>by injection e with e;omega)
  have HP1:=Lib.hid hp1
  have HS1:=Lib.hid hS1
  have hcur:Calls Tryz.prog 111 #[.pointer (some ⟨k,0,none⟩)] w1 fun e w'=>e=.returned (.int .u32 (b:Int))/\Below w1.heap.size w1 w':=by rw[HAB.out];exact current_ok ρ p k ⟨sd,a,true⟩ w1 hS1
  have HST:=Lib.hid (hst0.trans hst1)
  clear hsp c0 hp1 hS1 hst1 hB hst0 hbw hPW
  go_wp2_with fail
  refine hcur.mono ?_
  rintro e w2 ⟨rfl,hb2⟩
  clear hcur
  have hbW2:Below w1.heap.size w1 (w2.alloc (.cells #[.int .u32 b] 97)):=hb2.alloc hb2.size _
  have hN:Blk (w2.alloc (.cells #[.int .u32 b] 97)) w2.heap.size 97 #[.int .u32 b]:=Blk.new w2 97 _
  have hB2:Blk (w2.alloc (.cells #[.int .u32 b] 97)) w.heap.size 97 #[.int .u32 b]:=hB1.below_ hbW2
  have hS2:KysR ρ (w2.alloc (.cells #[.int .u32 b] 97)) p k ⟨sd,a,true⟩:=HS1.out.keep hbW2.size (fun b hb _=>⟨hbW2.block b hb,rfl⟩)
  obtain⟨g,cap,h1,_,r1,r2,r5⟩:=hS2
  obtain⟨g',cap',cur,hv,_,a3,a4,a5,a6,a7⟩:∃g' cap' cur,(Value.slice (some ⟨g,0,none⟩) 2 cap)=.slice (some ⟨g',0,none⟩) 2 cap'/\0<=g'/\Blk (w2.alloc (.cells #[.int .u32 b] 97)) g' 97 cur/\2<=cap'/\cap'<=maxLen/\cur.size=cap'*1/\cur.toList.take 2=[.int .u32 a,.int .u32 b]:=by
   rcases r1.2 with⟨hh,_⟩|hh
   ·simp at hh
   ·obtain⟨x1,x2,x3,x4,x5,x6,x7,x8,x9,x10⟩:=hh
    exact⟨x1,x2,x3,x4,x5,x6,x7,x8,x9,by have hb:=HAB.out;subst hb;exact x10⟩
  obtain⟨rfl,rfl⟩:g=g'/\cap=cap':=by simpa using hv
  have c0:cur[0]? =some (.int .u32 a):=by have:=congrArg (·[0]?) a7;simpa[List.getElem?_take]using this
  have c1:cur[1]? =some (.int .u32 b):=by have:=congrArg (·[1]?) a7;simpa[List.getElem?_take]using this
  have ls2:=hb2.size
  have ls1:=hg.size
  have n1:w.heap.size≠g:=fun e=>by rw[<-e]at r2;rw[hf _ (Nat.le_refl _)]at r2;exact absurd r2 (by decide)
  have n2:w2.heap.size≠g:=fun e=>by rw[<-e]at r2;rw[hf _ (by omega)]at r2;exact absurd r2 (by decide)
  have n3:k≠g:=fun e=>by rw[<-e,hk0]at r2;exact absurd r2 (by decide)
  have hdel:=edel_ok g cap a b w.heap.size w2.heap.size _ hab cur a3 c0 c1 a4 (hB2.cell_ 0 rfl) (hN.cell_ 0 rfl) n1 n2
  have hX:=h1.far (p:=⟨g,0,none⟩) n3 (.int .u32 b) |>.far (p:=⟨g,1,none⟩) n3 (.int .u32 0)
  have c2:=h1.cell_ 2 rfl
  have l2:=h1.lt
  have d2:=hX.cell_ 2 rfl
  have e2:=hX.frozen 2
  have m2:=hX.lt
  have HBW:=Lib.hid (And.intro hbW2 (And.intro (hX.set_to 2 (.slice (some ⟨g,0,none⟩) 1 cap) rfl) (And.intro a3 (And.intro a5 (And.intro a6 (And.intro a7 (And.intro r5 (And.intro c0 c1))))))))
  clear hbW2 hB1 hX hN hB2 hv r1 h1 a3 a5 a6 a7 n1 n2 r5 c0 c1
  go_wp2_with fail
  refine hdel.mono ?_
  rintro e w3 ⟨rfl,rfl⟩
  go_wp2_with fail
  go_ret
  obtain⟨hbW2,hX,a3,a5,a6,a7,r5,c0,c1⟩:=HBW.out
  have hch:Ch (fun i=>rsKys (ρ i)) w1 ((((w2.alloc (.cells #[.int .u32 b] 97)).setCell ⟨g,0,none⟩ (.int .u32 b)).setCell ⟨g,1,none⟩ (.int .u32 0)).setCell ⟨k,2,none⟩ (.slice (some ⟨g,0,none⟩) 1 cap)):=by
   refine(((Ch.of_below hbW2).trans (Ch.set_ (S:=fun i=>rsKys (ρ i)) (p:=⟨g,0,none⟩) ?_ _ _)).trans (Ch.set_ (S:=fun i=>rsKys (ρ i)) (p:=⟨g,1,none⟩) ?_ _ _)).trans (Ch.set_ (S:=fun i=>rsKys (ρ i)) (p:=⟨k,2,none⟩) ?_ _ _)
   ·exact .inr r2
   ·exact .inr r2
   ·exact .inl hk0
  have hG:Blk ((((w2.alloc (.cells #[.int .u32 b] 97)).setCell ⟨g,0,none⟩ (.int .u32 b)).setCell ⟨g,1,none⟩ (.int .u32 0)).setCell ⟨k,2,none⟩ (.slice (some ⟨g,0,none⟩) 1 cap)) g 97 ((cur.setIfInBounds 0 (.int .u32 b)).setIfInBounds 1 (.int .u32 0)):=((a3.set_ 0 _).set_ 1 _).far (p:=⟨k,2,none⟩) (fun e=>n3 e.symm) _
  have hb:=HAB.out
  refine⟨by simp,HP1.out.keep (hch.keep p HP1.out.lt (by rw[hp];exact not_rk_pow)),ρ,?_,HST.out.trans ⟨hch.mono (fun i e=>.inr e),fun i _=>rfl,fun i hi=>HST.out.fresh i (Nat.le_trans hch.size hi)⟩⟩
  refine⟨g,cap,hX,hk0,⟨by simp[evals,Kys.es],.inr ⟨g,cap,_,rfl,by omega,hG,by simp[Kys.es];omega,a5,by simp;omega,?_⟩⟩,r2,r5.1,by simp only;omega,by simp only;omega⟩
  have hz:0<cur.size:=by omega
  have e0:((cur.setIfInBounds 0 (.int .u32 b)).setIfInBounds 1 (.int .u32 0))[0]? =some (.int .u32 b):=by
   rw[Array.getElem?_setIfInBounds]
   simp[hz]
  show List.take 1 _=[Value.int .u32 b]
  apply List.ext_getElem?
  intro j
  rw[List.getElem?_take]
  by_cases e:j=0
  ·subst e
   rw[if_pos (by omega)]
   rw[Array.getElem?_toList]
   exact e0
  ·rw[if_neg (by omega)]
   simp;omega
end Go.Proofs.YtggmdjdflaglpaaGreat
