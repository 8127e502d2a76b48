/- digest.Sum. -/
import Derived.Test.YtggmdjdflaglpaaGreatR44
import Derived.Test.YtggmdjdflaglpaaGreatR36
import Derived.Test.YtggmdjdflaglpaaGreatR16
import Derived.Test.YtggmdjdflaglpaaGreatR05
namespace Go.Proofs.YtggmdjdflaglpaaGreat
open Go.RowKit Go.Shelf
set_option linter.unusedVariables false
attribute [local go_sem] Oper.semAt_some
def dpart (s:By) (k:Nat):By:=(s++[128])++List.replicate k 0
theorem dpart_len (s:By) (k:Nat):(dpart s k).length=s.length+1+k:=by simp[dpart];omega
theorem dpart_succ (s:By) (k:Nat):dpart s (k+1)=dpart s k++[0]:=by
 unfold dpart
 rw[List.replicate_succ',<-List.append_assoc]
theorem dfill_eq (s:By):dfill s=dpart s ((23-s.length%16)%16)++putB s.length 8:=rfl
theorem dfill_len (s:By):(dfill s).length=s.length+1+(23-s.length%16)%16+8:=by
 rw[dfill_eq,List.length_append,dpart_len,putB_len]
def dstTo (s:By) {J:Nat}(l:List (Row16 J)):Two:=l.foldl (fun st x=>dstepS st (pairOf (((dfill s).drop (16*x.1)).take 16))) (7640891576956012808,13503953896175478587)
theorem dstTo_snoc (s:By) {J:Nat}(l:List (Row16 J)) (x:Row16 J):dstTo s (l++[x])=dstepS (dstTo s l) (pairOf (((dfill s).drop (16*x.1)).take 16)):=by
 unfold dstTo
 rw[List.foldl_append]
 rfl
theorem dstTo_u (s:By) {J:Nat}(l:List (Row16 J)):U2 (dstTo s l):=by
 unfold dstTo
 rcases List.eq_nil_or_concat l with rfl|⟨l,x,rfl⟩
 ·show U2 (7640891576956012808,13503953896175478587)
  exact⟨⟨by decide,by decide⟩,⟨by decide,by decide⟩⟩
 ·rw[List.concat_eq_append,List.foldl_append]
  exact dstepS_u _ _
theorem dstTo_rows (s:By) (J:Nat):∀k,k<=J->dstTo s (rowsTo J k)=(List.range k).foldl (fun st j=>dstepS st (pairOf (((dfill s).drop (16*j)).take 16))) (7640891576956012808,13503953896175478587)
 |0,_=>rfl
 |k+1,h=>by
  rw[rowsTo_succ J k h,dstTo_snoc,dstTo_rows s J k (by omega),List.range_succ,List.foldl_append]
  rfl
theorem dsum_rows (s:By) (J:Nat) (hJ:(dfill s).length=16*J):dstTo s (rowsTo J J)=dsum s:=by
 rw[dstTo_rows s J J (Nat.le_refl _)]
 unfold dsum
 rw[hJ,Nat.mul_div_cancel_left _ (by decide)]
theorem row_ge {B:Nat}{e:TypeId}{z n:Nat}{w:World}{v:Value}{xs:List Value}(h:w.ownsRow B e z v n xs) {j:Nat}(hj:v.ownBlock=some j):B<=j/\j<w.heap.size:=by
 rcases h.2 with⟨rfl,_⟩|⟨r,c,cur,rfl,a2,a3,_⟩
 ·simp[Value.ownBlock]at hj
 ·simp[Value.ownBlock]at hj
  subst hj
  exact⟨a2,(Array.getElem?_eq_some_iff.1 a3).1⟩
theorem results_cell {P:Program}{fn:Func}{tmps:Array Value}{w:World}(t:Tmp) (ty:TypeId) (hf:fn.results=#[.cell t ty]) (b o:Nat) (ht:tmps.getD t undef=.pointer (some ⟨b,o,none⟩)) (cs:List Value) (d:TypeDesc) (hc:w.rangeAt b o cs)
 (hu:P.underlying ty=some d) (hd:d.isRow=true) (hi:(P.info? ty).map (·.size)=some cs.length):(results fn tmps).run P w=.ok (.agg cs.toArray) w:=by
 have hl:=run_loadVar_mid w b o ty cs d hc hu hd hi
 unfold results
 rw[hf]
 simp only[List.mapM_toArray,List.mapM_cons,List.mapM_nil,Sem.run_bind,Sem.run_pure,Result.andThen_ok,asAddr,Sem.run_map,ht,hl]
 simp
set_option maxRecDepth 100000 in
set_option maxHeartbeats 4000000 in
theorem digsum_ok (v:Value) (Ls:List By) (w:World) (hR:Rows w v Ls) (ht:total Ls<=1000):Calls Tryz.prog 53 #[v] w fun e w'=>e=.returned (pv (dsum Ls.flatten))/\Below w.heap.size w w':=by
 have hcat:=fun W (hb:Below w.heap.size w W)=>concat_ok v Ls W (hR.below_ hb) (by omega)
 obtain⟨s,hs⟩:∃s,s=Ls.flatten:=⟨_,rfl⟩
 have hsl:s.length<=1000:=by rw[hs,flat_len];exact ht
 rw[<-hs]at hcat ⊢
 obtain⟨i0,hi,hz0,hz1,hz2⟩:=info_parts info5
 refine(callsIn_wide (n:=6)).1 ?_
 have h53:Fence.wide.fn 53:=trivial
 clear hR ht hs
 refine callsIn_of_wp_marks Tryz.func53 rfl h53 ?_ rfl
 simp only[Tryz.ntmps53,List.size_toArray,List.length_cons,List.length_nil,Nat.reduceAdd,Nat.reduceSub,Array.replicate_succ,Array.replicate_zero,List.push_toArray,List.append_toArray,List.nil_append,List.cons_append]
 obtain⟨w0,hw0⟩:∃w0,w0=w.alloc (.cells #[.int .u64 0,.int .u64 0] 101):=⟨_,rfl⟩
 have hB0:Blk w0 w.heap.size 101 #[.int .u64 0,.int .u64 0]:=by rw[hw0];exact Blk.new w 101 _
 have hbw:Below w.heap.size w w0:=by rw[hw0];exact(Below.refl _ _).alloc (Nat.le_refl _) _
 have hc0:=hcat w0 hbw
 have hs0:w0.heap.size=w.heap.size+1:=by rw[hw0];exact World.size_alloc _ _
 have H0:=Lib.hid (And.intro hB0 (And.intro hbw hs0))
 clear hcat hB0 hbw hs0
 gi_wp2
 rw[<-hw0]
 clear hw0
 refine⟨trivial,?_⟩
 refine(callsIn_wide.2 hc0).mono ?_
 rintro e w1 ⟨v1,rfl,hO,hb1⟩
 clear hc0
 have hb1s:=hb1.size
 obtain⟨S,hS⟩:∃S,S=s.length:=⟨_,rfl⟩
 have hO1:w1.ownsRow w0.heap.size 5 1 v1 S (bvals s):=by rw[hS];exact hO
 obtain⟨A1,c1,rfl⟩:=row_form hO1
 rw[<-hS]at hsl
 have HS:=Lib.hid hS
 clear hO hS
 gi_wp2_with (gi_at_builtin;refine wpListIn_append_own _ rfl _ _ 32 rfl w0.heap.size 5 i0 (.int .u8 0) 1 1 Tryz.underlying32 hi hz0 hz1 hz2 rfl (by decide) _ _ _ rfl (World.ownsRow.alloc hO1 _) ⟨w1.heap.size,0,none⟩ 1 1 [.int .u8 128] rfl rfl (fun j u hj=>by rw[add_plain,Nat.zero_add];exact(Blk.new w1 5 #[.int .u8 128]).cell_ j (by simpa using hj)) (fun u hu=>by simp at hu;subst hu;rfl) (by unfold maxLen;omega) (by omega) (by simp;omega) ?_;intro v2 w2 hown2 hgrow2 hnil2;obtain⟨A2,c2,rfl⟩:=row_form hown2)
 have hO2:w2.ownsRow w0.heap.size 5 1 (.slice A2 (S+1) c2) (S+1+0) (bvals (dpart s 0)):=by
  have:bvals (dpart s 0)=bvals s++[.int .u8 128]:=by simp[dpart,bvals]
  rw[this];exact hown2
 have hb2:Below w0.heap.size w0 w2:=((hb1.alloc hb1.size _)).grown hgrow2 (by simp;omega) (fun k hk=>(row_ge hO1 hk).1)
 clear hO1 hown2 hgrow2 hnil2 hb1 hb1s
 gi_wp2
 gi_loopw [3] (fun b wr=>∃(k:Nat) (A:Option Addr) (c:Nat),b=.slice A (S+1+k) c/\k<=(23-S%16)%16/\wr.ownsRow w0.heap.size 5 1 (.slice A (S+1+k) c) (S+1+k) (bvals (dpart s k))/\Below w0.heap.size w0 wr) (fun b _=>2000-(match b with|.slice _ l _=>l|_=>0))
 case atStart=>exact⟨0,_,_,rfl,Nat.zero_le _,hO2,hb2⟩
 case round=>
  obtain⟨k,A,c,rfl,hk,hO3,hb3⟩:=hrel
  obtain⟨L,hL⟩:∃L,L=S+1+k:=⟨_,rfl⟩
  rw[<-hL]at hO3 ⊢
  have HL:=Lib.hid (And.intro hL hO2)
  clear hO2 hb2
  by_cases hlt:k<(23-S%16)%16
  ·have hne:¬((L:Int)%16=8):=by omega
   have hL2:L<=1100:=by omega
   clear hL
   gi_wp2_with (gi_at_builtin;refine wpListIn_append_own _ rfl _ _ 32 rfl w0.heap.size 5 i0 (.int .u8 0) 1 1 Tryz.underlying32 hi hz0 hz1 hz2 rfl (by decide) _ _ _ rfl (World.ownsRow.alloc hO3 _) ⟨wr.heap.size,0,none⟩ 1 1 [.int .u8 0] rfl rfl (fun j u hj=>by rw[add_plain,Nat.zero_add];exact(Blk.new wr 5 #[.int .u8 0]).cell_ j (by simpa using hj)) (fun u hu=>by simp at hu;subst hu;rfl) (by unfold maxLen;omega) (by omega) (by have:=hb3.size;simp;omega) ?_;intro v4 w4 hown4 hgrow4 hnil4;obtain⟨A4,c4,rfl⟩:=row_form hown4)
   have hO4:w4.ownsRow w0.heap.size 5 1 (.slice A4 (L+1) c4) (L+1) (bvals (dpart s (k+1))):=by
    have:bvals (dpart s (k+1))=bvals (dpart s k)++[.int .u8 0]:=by rw[dpart_succ,bvals_app];rfl
    rw[this];exact hown4
   have hb4:Below w0.heap.size w0 w4:=((hb3.alloc hb3.size _)).grown hgrow4 (by have:=hb3.size;simp;omega) (fun k hk=>(row_ge hO3 hk).1)
   clear hO3 hown4 hgrow4 hnil4 hb3
   gi_wp2
   obtain⟨hL,_⟩:=HL.out
   have hL1:L+1=S+1+(k+1):=by omega
   go_roundw
   case rel=>exact⟨k+1,A4,c4,by rw[hL1],by omega,by rw[<-hL1];exact hO4,hb4⟩
   case measure=>show _<_;simp only[];omega
  ·have hkz:k=(23-S%16)%16:=by omega
   have hne:(L:Int)%16=8:=by omega
   have hL2:L<=1100:=by omega
   have hS8:(0:Int)<=(S:Int):=by omega
   have hp:=fun W=>(callsIn_wide (n:=5)).2 (put_lit (S:Int) 8 8 rfl W (by omega) hS8 (by omega))
   have h87:Fence.wide.fn 87:=trivial
   have h88:Fence.wide.fn 88:=trivial
   have HK:=Lib.hid hkz
   clear hL hkz hlt hk
   gi_wp2_with (first
    |(gi_at_builtin;refine wpListIn_append_own _ rfl _ _ 32 rfl w0.heap.size 5 i0 (.int .u8 0) 1 1 Tryz.underlying32 hi hz0 hz1 hz2 rfl (by decide) _ _ _ rfl hO4 ⟨b4,q4,none⟩ 8 c4 (bvals (putB (S:Int) 8)) rfl (by rw[bvals_len,putB_len]) (ex_slice (fun _=>True) _ b4 q4 c4 _ hc4) (bvals_one _) (by unfold maxLen;omega) (by omega) hb4.size ?_;intro v5 w5 hown5 hgrow5 hnil5)
    |(gi_at_call 87;refine(hp _).mono ?_;rintro e w4 ⟨v4,rfl,o4,l4⟩;obtain⟨b4,q4,c4,rfl,_,hlt4,_,_,hc4⟩:=o4.has.eight (putB_len _ _) (by omega);have hO4:=row_keep hO3 (fun b h1 _=>l4.block b h1);have hb4:=hb3.trans (l4.mono hb3.size)))
   obtain⟨hL,_⟩:=HL.out
   have hdf:bvals (dfill s)=bvals (dpart s k)++bvals (putB (S:Int) 8):=by rw[dfill_eq,bvals_app,<-HS.out,<-HK.out]
   have hdl:(dfill s).length=L+8:=by rw[dfill_len,<-HS.out,<-HK.out];omega
   have hO5:OwnB w0.heap.size w5 v5 (dfill s):=OwnB.of hown5 hdl.symm (hdf.symm▸rfl)
   have hb5:=hb4.grown hgrow5 hb4.size (fun k hk=>(row_ge hO4 hk).1)
   obtain⟨bb,oo,cc,rfl,hbb,hbb2,hcc,hcc2,hcell⟩:=hO5.has.spot (by intro e;rw[e]at hdl;simp at hdl)
   rw[hdl]at hcc ⊢
   obtain⟨J,hJ⟩:∃J,L+8=16*J:=⟨(L+8) / 16,by omega⟩
   obtain⟨M,hM⟩:∃M,M=L+8:=⟨_,rfl⟩
   rw[<-hM]at hcc ⊢
   have hcap:cc<=9223372036854775807:=by unfold maxLen at hcc2;omega
   have hM2:M<=2000:=by omega
   have H5:=Lib.hid (And.intro hJ (And.intro hM (And.intro hdl (And.intro hbb (And.intro hbb2 (And.intro hb5 hcell))))))
   clear hO3 hb3 hO4 hb4 o4 l4 hc4 hlt4 hown5 hgrow5 hnil5 hL hdf hdl hO5 hb5 hbb hbb2 hcell hJ hM hcc2 hne hL2 hp
   gi_wp2_with (gi_at_call 88;refine((callsIn_wide (n:=5)).2 (chunk_ok _ _ _ _)).mono ?_;rintro e w6 ⟨rfl,rfl⟩)
   obtain⟨hJ,hM,hdl,hbb,hbb2,hb5,hcell⟩:=H5.out
   obtain⟨hB0,hbw,hs0⟩:=H0.out
   obtain⟨st,hst⟩:∃st,st=w5.heap.size:=⟨_,rfl⟩
   obtain⟨W6,hW6⟩:∃W6,W6=((w5.alloc (.cells #[.int .u64 7640891576956012808,.int .u64 13503953896175478587] 101)).alloc (.cells #[.slice (some ⟨bb,oo,none⟩) M cc] 32)).alloc (.cells #[.int .i64 16] 3):=⟨_,rfl⟩
   have k1:Blk W6 st 101 #[.int .u64 7640891576956012808,.int .u64 13503953896175478587]:=by
    rw[hW6,hst];exact((Blk.new w5 101 _).alloc _).alloc _
   have k2:Blk W6 (st+1) 32 #[.slice (some ⟨bb,oo,none⟩) M cc]:=by
    have:=(Blk.new (w5.alloc (.cells #[.int .u64 7640891576956012808,.int .u64 13503953896175478587] 101)) 32 #[.slice (some ⟨bb,oo,none⟩) M cc]).alloc (.cells #[.int .i64 16] 3)
    rw[World.size_alloc]at this
    rw[hW6,hst];exact this
   have k3:Blk W6 (st+1+1) 3 #[.int .i64 16]:=by
    have:=Blk.new ((w5.alloc (.cells #[.int .u64 7640891576956012808,.int .u64 13503953896175478587] 101)).alloc (.cells #[.slice (some ⟨bb,oo,none⟩) M cc] 32)) 3 #[.int .i64 16]
    rw[World.size_alloc,World.size_alloc]at this
    rw[hW6,hst];exact this
   have k4:W6.heap.size=st+1+1+1:=by rw[hW6,hst];simp
   have k5:Below w5.heap.size w5 W6:=by rw[hW6];exact(((Below.refl _ _).alloc (Nat.le_refl _) _).alloc (by simp) _).alloc (by simp;omega) _
   have k6:Below w0.heap.size w0 W6:=hb5.trans (k5.mono hb5.size)
   have k7:∀(j:Nat) (u:UInt8),(dfill s)[j]? =some u->W6.cell? ⟨bb,oo+j,none⟩=some (.int .u8 (u.toNat:Int)):=fun j u hj=>(k5.cell (p:=⟨bb,oo+j,none⟩) hbb2).trans (hcell j u hj)
   have hb5s:=hb5.size
   rw[<-hst]
   rw[<-hst]at hb5s hbb2
   rw[<-hW6]
   have hM16:M=16*J:=by omega
   rw[hM16]at k2
   have h129:Fence.wide.fn 129:=trivial
   have h89:Fence.wide.fn 89:=trivial
   have h90:Fence.wide.fn 90:=trivial
   have H6:=Lib.hid (And.intro hJ (And.intro hM (And.intro hdl (And.intro hM16 (And.intro hst hW6)))))
   have hM9:16*J<=100000:=by omega
   have hMc:16*J<=cc:=by omega
   clear hJ hM hdl hM16 hst hW6 HL H5 hb5 hcell k5
   refine wpIn_rangeFunc_ownF rfl (by omega) (gf:=129) (lb:=#[.pointer (some ⟨st+1,0,none⟩),.pointer (some ⟨st+1+1,0,none⟩)]) rfl h129 (enters_of Tryz.func129 (by kernel_rfl) rfl)
    (chunk_stops Fence.wide 5 h129 rfl (by omega) (st+1) (st+1+1) W6.heap.size st bb oo J cc hM9 hMc hcap W6 ⟨by omega,by omega⟩ ⟨by omega,by omega⟩ (Nat.le_refl _) (k2.cell_ 0 rfl) (k3.cell_ 0 rfl))
    (fun h k=>KeepBut.trans h k) (fun W l o o' hl ho _ _=>⟨by simp[World.putObj],fun k hk _=>World.putObj_heap_other (by omega)⟩) (Below.refl _ _) (fun _=>rfl)
    (fun pre W=>Blk W st 101 #[.int .u64 (dstTo s pre).1,.int .u64 (dstTo s pre).2]/\KeepBut W6.heap.size st W6 W/\Below w0.heap.size w0 W)
    (fun _ _ _=>False)
    (fun l A B row hs hg hr=>⟨hs.1.grown hg (fun e=>by have:=(hr st e.symm).1;omega),⟨Nat.le_trans hs.2.1.1 hg.size,fun k hk hne=>(hg.block k (Nat.lt_of_lt_of_le hk hs.2.1.1) (fun e=>by have:=(hr k e.symm).1;omega)).trans (hs.2.1.2 k hk hne)⟩,hs.2.2.grown hg hs.2.2.size (fun k e=>by have:=(hr k e).1;omega)⟩)
    (fun _ _ _ _ _ hs _ _=>hs)
    ⟨k1,KeepBut.refl _ _ _,k6⟩
    (fun x=>{tmps:=#[v,undef,.pointer (some ⟨w.heap.size,0,none⟩),.slice (some ⟨bb,oo,none⟩) M cc,.int .i64 S,.pointer (some ⟨st,0,none⟩),.slice (some ⟨bb,oo+16*x.1,none⟩) 16 16,undef,undef,v,.slice A1 S c1,
     .slice (some ⟨w1.heap.size,0,none⟩) 1 1,.slice A2 (S+1) c2,.slice A2 (S+1) c2,.int .i64 (S+1),.int .i64 S,.slice A L c,.int .i64 L,.int .i64 8,.bool false,u20,u21,u22,.slice A L c,.int .i64 S,.int .u64 S,
     .slice (some ⟨b4,q4,none⟩) 8 c4,.slice (some ⟨bb,oo,none⟩) M cc,.agg #[.int .u64 7640891576956012808,.int .u64 13503953896175478587],.slice (some ⟨bb,oo,none⟩) M cc,
     .func (.func 129) #[] #[.pointer (some ⟨st+1,0,none⟩),.pointer (some ⟨st+1+1,0,none⟩)],.slice (some ⟨bb,oo+16*x.1,none⟩) 16 16,undef,undef,undef,undef,undef,undef,undef,undef,undef],defers:=[]}) ?assign ?body ?done ?stop
   case assign=>
    intro l x W K hK
    unfold chunkEnc
    gi_wp2
    exact hK
   case body=>
    rintro l pre x W ⟨hst3,hkp,hbl⟩ _
    obtain⟨hJ,hM,hdl,hM16,hst,hW6⟩:=H6.out
    have hx:=x.2
    obtain⟨row,hrow⟩:∃row,row=((dfill s).drop (16*x.1)).take 16:=⟨_,rfl⟩
    have hrl:row.length=16:=by rw[hrow,List.length_take,List.length_drop];omega
    have hrp:HasP (fun _=>True) W (.slice (some ⟨bb,oo+16*x.1,none⟩) 16 16) row:=by
     refine .inr ⟨bb,oo+16*x.1,16,by rw[hrl],trivial,by have:=hkp.1;omega,by omega,by unfold maxLen;omega,fun j u hj=>?_⟩
     rw[hrow,List.getElem?_take]at hj
     split at hj
     ·rw[List.getElem?_drop]at hj
      rw[Nat.add_assoc]
      exact(hkp.cell (p:=⟨bb,oo+(16*x.1+j),none⟩) (by simp only;omega) (by simp only;omega)).trans (k7 _ u hj)
     ·cases hj
    have hwp:=wpair_ok (fun _=>True) _ row W hrp hrl
    have hsn:=dstTo_snoc s pre x
    rw[<-hrow]at hsn
    have hu1:=pairOf_u row hrl
    have hu2:=dstTo_u s pre
    obtain⟨a,b,hab⟩:∃a b,dstTo s pre=(a,b):=⟨_,_,rfl⟩
    obtain⟨X,Y,hXY⟩:∃X Y,pairOf row=(X,Y):=⟨_,_,rfl⟩
    rw[hab]at hst3 hsn hu2
    rw[hXY]at hwp hsn hu1
    have hdp:=fun W=>dstep_ok (a,b) (X,Y) W hu2 hu1
    obtain⟨a2,b2,hab2⟩:∃a b,dstTo s (pre++[x])=(a,b):=⟨_,_,rfl⟩
    rw[hab2]at hsn
    rw[<-hsn]at hdp
    unfold pv at hwp hdp
    simp only at hwp hdp hst3
    obtain⟨q,hq⟩:∃q,q=oo+16*x.1:=⟨_,rfl⟩
    rw[<-hq]at hwp ⊢
    have HB:=Lib.hid (And.intro hab2 (And.intro hst3 (And.intro hkp (And.intro hbl (And.intro k4 hb5s)))))
    clear hJ hM hdl hM16 hst hW6 hrow hrl hrp hsn hu1 hu2 hab hXY hab2 hst3 hkp hbl hq hx k1 k2 k3 k4 k6 k7 hb5s hbb hbb2 hs0 hbw hB0
    gi_wp2_with (first
     |(gi_at_call 89;refine(CallsIn.inRound l ((callsIn_wide (n:=3)).2 hwp)).mono ?_;rintro e W1 ⟨rfl,q1⟩;clear hwp;have r1:=HB.out.2.1.below_ q1;have c0:=r1.cell_ 0 rfl;have c1':=r1.cell_ 1 rfl;have lb:=r1.lt;have HR:=Lib.hid (And.intro q1 r1);clear q1 r1)
     |(gi_at_call 90;refine(CallsIn.inRound l ((callsIn_wide (n:=3)).2 (hdp _))).mono ?_;rintro e W2 ⟨rfl,q2⟩;clear hdp;have r2:=(HR.out.2.alloc (.cells #[.int .u64 X,.int .u64 Y] 101)).below_ q2;have f0:=r2.frozen 0;have f1:=r2.frozen 1;have d0:=r2.cell_ 0 rfl;have d1:=r2.cell_ 1 rfl;have lb2:=r2.lt;have HQ:=Lib.hid (And.intro q2 r2);clear q2 r2 c0 c1' lb))
    obtain⟨hab2,hst3,hkp,hbl,k4,hb5s⟩:=HB.out
    obtain⟨q1,r1⟩:=HR.out
    obtain⟨q2,r2⟩:=HQ.out
    have qa:=q1.alloc q1.size (.cells #[.int .u64 X,.int .u64 Y] 101)
    have qb:=qa.trans (q2.mono qa.size)
    have go:=only_set2 W2 st 0 1 (.int .u64 a2) (.int .u64 b2)
    refine⟨(KeepsOthers.of_grownBy (only_of_below qb none) (fun j o e=>by cases e)).trans ((KeepsOthers.setCell _ _ _).trans (KeepsOthers.setCell _ _ _)),⟨Nat.le_trans qb.size go.size,fun k hk hne=>(go.block k (by have:=qb.size;have:=hkp.1;omega) (fun e=>hne (by injection e))).trans (qb.block k (by have:=hkp.1;omega))⟩,?_,?_,?_⟩
    ·rw[hab2]
     exact(r2.set_to 0 (.int .u64 a2) (cs':=#[.int .u64 a2,.int .u64 b]) rfl).set_to 1 (.int .u64 b2) (cs':=#[.int .u64 a2,.int .u64 b2]) rfl
    ·exact⟨by have:=qb.size;have:=go.size;have:=hkp.1;omega,fun k hk hne=>((go.block k (by have:=qb.size;have:=hkp.1;omega) (fun e=>hne (by injection e))).trans (qb.block k (by have:=hkp.1;omega))).trans (hkp.2 k hk hne)⟩
    ·exact below_only (hbl.trans (qb.mono hbl.size)) go (by have:=qb.size;have:=hbl.size;omega) hb5s
   case done=>
    rintro D ys W hD rfl ⟨hst3,hkp,hbl⟩ hK
    obtain⟨hJ,hM,hdl,hM16,hst,hW6⟩:=H6.out
    have hB2:=hB0.below hbl (by omega)
    have hsum:=dsum_rows s J (by omega)
    rw[hsum]at hst3
    obtain⟨a,b,hab⟩:∃a b,dsum s=(a,b):=⟨_,_,rfl⟩
    rw[hab]at hst3
    simp only at hst3
    have g0:=hst3.cell_ 0 rfl
    have g1:=hst3.cell_ 1 rfl
    have d0:=hB2.cell_ 0 rfl
    have d1:=hB2.cell_ 1 rfl
    have f0:=hB2.frozen 0
    have f1:=hB2.frozen 1
    have hne:w.heap.size≠D:=by omega
    have hDw:w.heap.size<=D:=by omega
    have hbw2:=hbw.trans (hbl.mono hbw.size)
    have HD:=Lib.hid (And.intro hab (And.intro hK (And.intro hB2 (And.intro hne (And.intro hDw hbw2)))))
    clear hab hK hB2 hne hDw hbw2 hsum hJ hM hdl hM16 hst hW6 hst3 hkp hbl k1 k2 k3 k4 k6 k7 hb5s hbb hbb2 hs0 hbw hB0 hD
    gi_wp2
    obtain⟨hab,hK,hB2,hne,hDw,hbw2⟩:=HD.out
    have hK2:=((KeepsOthers.setCell W ⟨w.heap.size,0,none⟩ (.int .u64 a)).trans (KeepsOthers.setCell _ ⟨w.heap.size,1,none⟩ (.int .u64 b))).same D _ hK rfl
    have hB3:Blk _ w.heap.size 101 [Value.int .u64 a,.int .u64 b].toArray:=(hB2.set_to 0 (.int .u64 a) (cs':=#[.int .u64 a,.int .u64 0]) rfl).set_to 1 (.int .u64 b) (cs':=[Value.int .u64 a,.int .u64 b].toArray) rfl
    have hq:=below_only hbw2 (only_set2 W w.heap.size 0 1 (.int .u64 a) (.int .u64 b)) hbw2.size (Nat.le_refl _)
    refine⟨by simp,.inl ⟨_,_,rfl,run_takeDeferred hK2,?_⟩⟩
    refine⟨_,results_cell 2 101 rfl w.heap.size 0 rfl [Value.int .u64 a,.int .u64 b] _ ((hB3.grown (grownBy_putObj' _ D (.deferred none)) (fun e=>hne (by injection e))).range) Tryz.underlying101 rfl sz101,?_,?_⟩
    ·rw[hab];rfl
    ·exact hq.grown (grownBy_putObj' _ D (.deferred none)) hq.size (fun k e=>by injection e with e;omega)
   case stop=>
    rintro D c pre W _ _ h _
    exact h.elim
end Go.Proofs.YtggmdjdflaglpaaGreat
