/- gcm.pairs. field.Eval. gcm: may, Tag. gcm: Seal, Open. gcm.Open. -/
import Derived.Test.YtggmdjdflaglpaaGreatR32
import Derived.Test.YtggmdjdflaglpaaGreatR21
import Derived.Test.YtggmdjdflaglpaaGreatR22
import Derived.Test.YtggmdjdflaglpaaGreatR15
namespace Go.Proofs.YtggmdjdflaglpaaGreat
open Go.RowKit
set_option linter.unusedVariables false
def pvals (l:List Two):List Value:=l.flatMap (fun p=>[.int .u64 p.1,.int .u64 p.2])
theorem pvals_app (a b:List Two):pvals (a++b)=pvals a++pvals b:=by simp[pvals]
theorem pvals_len (l:List Two):(pvals l).length=l.length*2:=by
 induction l with
 |nil=>rfl
 |cons p l ih=>
  have:pvals (p::l)=[.int .u64 p.1,.int .u64 p.2]++pvals l:=rfl
  rw[this,List.length_append,ih]
  simp
  omega
theorem pvals_one (l:List Two):∀v∈pvals l,v.oneCell'=true:=fun v hv=>by
 unfold pvals at hv
 rw[List.mem_flatMap]at hv
 obtain⟨p,_,hp⟩:=hv
 simp at hp
 rcases hp with rfl|rfl<;>rfl
abbrev OwnP (B:Nat) (w:World) (v:Value) (l:List Two):Prop:=w.ownsRow B 101 2 v l.length (pvals l)
theorem OwnP.keep {B:Nat}{w w':World}{v:Value}{l:List Two}(h:OwnP B w v l) (hk:∀b,b<w.heap.size->v.ownBlock=some b->w'.heap[b]? =w.heap[b]?):OwnP B w' v l:=by
 obtain⟨h1,h2⟩:=h
 refine⟨h1,?_⟩
 rcases h2 with h2|⟨r,c,cur,rfl,a2,a3,a4⟩
 ·exact .inl h2
 ·exact .inr ⟨r,c,cur,rfl,a2,(hk r (Array.getElem?_eq_some_iff.1 a3).1 rfl).trans a3,a4⟩
theorem OwnP.ge {B:Nat}{w:World}{v:Value}{l:List Two}(h:OwnP B w v l) {j:Nat}(hj:v.ownBlock=some j):B<=j/\j<w.heap.size:=by
 rcases h.2 with⟨rfl,_⟩|⟨r,c,cur,rfl,a2,a3,_⟩
 ·simp[Value.ownBlock]at hj
 ·simp[Value.ownBlock]at hj
  subst hj
  exact⟨a2,(Array.getElem?_eq_some_iff.1 a3).1⟩
theorem OwnP.of {B:Nat}{w:World}{v:Value}{l:List Two}{n:Nat}{xs:List Value}(h:w.ownsRow B 101 2 v n xs) (hn:n=l.length) (hx:xs=pvals l):OwnP B w v l:=by subst hn hx;exact h
theorem pad16_len (x:By) (h:x.length<=16):(pad16 x).length=16:=by simp[pad16];omega
theorem pad16_u (x:By) (h:x.length<=16):U2 (pairOf (pad16 x)):=pairOf_u _ (pad16_len x h)
theorem copy16 {w:World}{g b q s c:Nat}{x:By}(h:Blk w g 5 (bvals (List.replicate 16 0)).toArray) (hx:x.length=min 16 s) (hc:∀(j:Nat) (u:UInt8),x[j]? =some u->w.cell? ⟨b,q+j,none⟩=some (.int .u8 (u.toNat:Int))):
 ∃w',(Builtin.copy_ #[32,32] 3 #[.slice (some ⟨g,0,none⟩) 16 16,.slice (some ⟨b,q,none⟩) s c]).run Tryz.prog w=.ok (.int .i64 x.length) w'/\Blk w' g 5 (bvals (pad16 x)).toArray/\w.grownBy w' (some g):=by
 have hr:=run_copy_row (P:=Tryz.prog) w 32 32 3 5 g 0 16 16 ⟨b,q,none⟩ s c (bvals (List.replicate 16 0)).toArray 5 (bvals x) Tryz.underlying32 info5s h
  (by rw[bvals_len];exact hx.trans (Nat.min_comm _ _)) (ex_slice (fun _=>True) w b q c x hc) (by rw[bvals_len,List.size_toArray,bvals_len];simp;omega) (bvals_one _)
 have e:(List.take 0 (bvals (List.replicate 16 0)).toArray.toList++bvals x++List.drop (0+(bvals x).length) (bvals (List.replicate 16 0)).toArray.toList).toArray=(bvals (pad16 x)).toArray:=by
  rw[List.toList_toArray,List.take_zero,List.nil_append,Nat.zero_add,bvals_len]
  unfold pad16
  rw[bvals_app]
  have hd:List.drop x.length (bvals (List.replicate 16 0))=bvals (List.replicate (16-x.length) 0):=by
   unfold bvals
   rw[<-List.map_drop,List.drop_replicate]
  rw[hd]
 rw[e]at hr
 refine⟨_,by rw[hr,bvals_len];rfl,?_,?_⟩
 ·show(w.setRow g _).heap[g]? =_
  unfold World.setRow
  rw[Array.getElem?_modify,h]
  simp
 ·refine⟨rfl,rfl,rfl,by simp[World.setRow],fun i hi hn=>?_⟩
  simp only[World.setRow,Array.getElem?_modify]
  rw[if_neg]
  rintro rfl
  exact hn rfl
def z16:By:=List.replicate 16 0
theorem copy16_v {w:World}{g b q s c m:Nat}{x:By}(h:Blk w g 5 (bvals (z16)).toArray) (hx:x.length=min 16 s) (hm:m=x.length) (hc:∀(j:Nat) (u:UInt8),x[j]? =some u->w.cell? ⟨b,q+j,none⟩=some (.int .u8 (u.toNat:Int))):
 ∃w',(Builtin.copy_ #[32,32] 3 #[.slice (some ⟨g,0,none⟩) 16 16,.slice (some ⟨b,q,none⟩) s c]).run Tryz.prog w=.ok (.int .i64 m) w'/\Blk w' g 5 (bvals (pad16 x)).toArray/\w.grownBy w' (some g):=by
 subst hm
 exact copy16 h hx hc
set_option maxHeartbeats 2000000 in
set_option maxRecDepth 100000 in
theorem pairs_nil (A:Option Addr) (ca:Nat) (w:World):Calls Tryz.prog 125 #[.slice A 0 ca] w fun e w'=>e=.returned (.slice none 0 0)/\w=w':=by
 go_enter Tryz.func125,Tryz.ntmps125
 go_wp2_with fail
 go_loopw [0,3] (fun t r wr=>t=.slice A 0 ca/\r=.slice none 0 0/\w=wr) (fun _ _ _=>0)
 case atStart=>exact⟨rfl,rfl,rfl⟩
 case round=>
  obtain⟨rfl,rfl,rfl⟩:=hrel
  go_wp2_with fail
  go_ret
  exact⟨rfl,rfl⟩
set_option maxHeartbeats 4000000 in
set_option maxRecDepth 100000 in
theorem pairs_ok (p:Nat->Prop) (v:Value) (b:By) (w:World) (h:HasP p w v b) (hl:b.length<=4000):
 Calls Tryz.prog 125 #[v] w fun e w'=>∃v',e=.returned v'/\OwnP w.heap.size w' v' (gpairs b)/\Below w.heap.size w w':=by
 by_cases hne:b=[]
 ·obtain⟨A,ca,rfl⟩:=h.slice
  subst hne
  refine(pairs_nil A ca w).mono ?_
  rintro e w' ⟨rfl,rfl⟩
  exact⟨_,rfl,⟨rfl,.inl ⟨rfl,rfl⟩⟩,Below.refl _ _⟩
 ·obtain⟨bb,o,cap,rfl,_,hb,hc1,hc2,hc⟩:=h.spot hne
  obtain⟨n,hn⟩:∃n,n=b.length:=⟨_,rfl⟩
  have hn0:0<n:=by rw[hn];exact List.length_pos_iff.2 hne
  rw[<-hn]at hc1 hl ⊢
  have H:=Lib.hid (And.intro hn hc)
  have hcap:cap<=9223372036854775807:=by unfold maxLen at hc2;omega
  have hm:∀W:World,(Instr.makeSlice 32 (.int .i64 16) (.int .i64 16)).run Tryz.prog W=.ok (.slice (some ⟨W.heap.size,0,none⟩) 16 16) (W.alloc (.cells (bvals (z16)).toArray 5)):=fun W=>make_bytes 16 (by omega) W
  obtain⟨i0,hi,hz0,hz1,hz2⟩:=info_parts info101
  clear h hn hc hne hc2
  go_enter Tryz.func125,Tryz.ntmps125
  go_wp2_with fail
  go_loopw [0,3] (fun t r wr=>∃(j c o':Nat) (V:Value),V=r/\c=min (16*j) n/\(c<n->o'=o+c)/\t=.slice (some ⟨bb,o',none⟩) (n-c) (cap-c)/\j<=(n+15) / 16/\OwnP w.heap.size wr V ((List.range j).map (pairAt b))/\Below w.heap.size w wr) (fun t _ _=>match t with|.slice _ k _=>k|_=>0)
  case atStart=>exact⟨0,0,o,_,rfl,by omega,fun _=>rfl,rfl,by omega,⟨rfl,.inl ⟨rfl,rfl⟩⟩,Below.refl _ _⟩
  case round=>
   obtain⟨j,c,o',V,rfl,hcc,hoo,rfl,hj,hO,hq⟩:=hrel
   obtain⟨A,cp,hV⟩:∃A cp,V=.slice A ((List.range j).map (pairAt b)).length cp:=row_form hO
   subst hV
   by_cases hlt:c<n
   ·obtain⟨hn,hc⟩:=H.out
    have ho':=hoo hlt
    subst ho'
    clear hoo
    have hc16:c=16*j:=by omega
    obtain⟨m,hm1⟩:∃m,m=min 16 (n-c):=⟨_,rfl⟩
    obtain⟨x,hx⟩:∃x,x=(b.drop (16*j)).take 16:=⟨_,rfl⟩
    have hxl:x.length=min 16 (n-c):=by rw[hx,List.length_take,List.length_drop];omega
    have hxc:∀(i:Nat) (u:UInt8),x[i]? =some u->w.cell? ⟨bb,(o+c)+i,none⟩=some (.int .u8 (u.toNat:Int)):=fun i u hi=>by
     rw[hx,List.getElem?_take]at hi
     split at hi
     ·rw[List.getElem?_drop]at hi
      have:=hc (16*j+i) u hi
      rw[hc16,Nat.add_assoc];exact this
     ·cases hi
    have hpa:pairAt b j=pairOf (pad16 x):=by rw[hx];rfl
    have hmx:m=x.length:=by omega
    have hx16:x.length<=16:=by omega
    obtain⟨W1,hW1⟩:∃W1,W1=wr.alloc (.cells (bvals (z16)).toArray 5):=⟨_,rfl⟩
    have hB1:Blk W1 wr.heap.size 5 (bvals (z16)).toArray:=by rw[hW1];exact Blk.new wr 5 _
    have hq1:Below w.heap.size w W1:=by rw[hW1];exact hq.alloc hq.size _
    have hO1:OwnP w.heap.size W1 (.slice A ((List.range j).map (pairAt b)).length cp) ((List.range j).map (pairAt b)):=by rw[hW1];exact World.ownsRow.alloc hO _
    have hs1:W1.heap.size=wr.heap.size+1:=by rw[hW1];exact World.size_alloc _ _
    obtain⟨W2,hcp,hB2,hg2⟩:=copy16_v (s:=n-c) (c:=cap-c) (b:=bb) (q:=o+c) (m:=m) hB1 hxl hmx (fun i u hi=>(hq1.cell (p:=⟨bb,(o+c)+i,none⟩) hb).trans (hxc i u hi))
    have hq2:=below_only hq1 hg2 hq1.size (Nat.le_trans hq.size (by omega))
    have hq12:W2.heap.size≥W1.heap.size:=hg2.size
    have hO2:OwnP w.heap.size W2 (.slice A ((List.range j).map (pairAt b)).length cp) ((List.range j).map (pairAt b)):=hO1.keep (fun k hk hv=>hg2.block k hk (fun e=>by
     injection e with e
     have h3:=(OwnP.ge hO hv).2
     omega))
    have hpw:HasP (fun _=>True) W2 (.slice (some ⟨wr.heap.size,0,none⟩) 16 16) (pad16 x):=by
     have:=HasP.of_blk (p:=fun _=>True) hB2 (by rw[pad16_len x hx16];unfold maxLen;omega) trivial
     rw[pad16_len x hx16]at this
     exact this
    have hwp:=wpair_ok (fun _=>True) _ (pad16 x) W2 hpw (pad16_len x hx16)
    have hsucc:(List.range (j+1)).map (pairAt b)=(List.range j).map (pairAt b)++[pairOf (pad16 x)]:=by rw[List.range_succ,List.map_append,<-hpa];rfl
    have hml:m<=n-c:=by omega
    have hm0:0<m:=by omega
    have hnx:c+m=min (16*(j+1)) n:=by omega
    obtain⟨X,hX⟩:∃X,X=(pairOf (pad16 x)).1:=⟨_,rfl⟩
    obtain⟨Y,hY⟩:∃Y,Y=(pairOf (pad16 x)).2:=⟨_,rfl⟩
    unfold pv at hwp
    rw[<-hX,<-hY]at hwp
    have hXY:pairOf (pad16 x)=(X,Y):=by rw[hX,hY]
    rw[hXY]at hsucc
    rw[hW1]at hcp
    obtain⟨L,hL⟩:∃L,L=((List.range j).map (pairAt b)).length:=⟨_,rfl⟩
    have hLj:L=j:=by rw[hL];simp
    rw[<-hL]at hO2 ⊢
    obtain⟨N,hN⟩:∃N,N=n-c:=⟨_,rfl⟩
    obtain⟨K,hK⟩:∃K,K=cap-c:=⟨_,rfl⟩
    rw[<-hN,<-hK]at hcp
    rw[<-hN]at hml
    rw[<-hN,<-hK]
    have k1:0<N:=by omega
    have k2:(m:Int)<=(N:Int):=by omega
    have k3:(N:Int)<=(K:Int):=by omega
    have k4:K<=9223372036854775807:=by omega
    have k5:(0:Int)<=(m:Int):=by omega
    have HS:=Lib.hid (And.intro hsucc (And.intro hnx (And.intro hL (And.intro hLj (And.intro hN (And.intro hK (And.intro hO2 (And.intro hq2 (And.intro hcc hc16)))))))))
    clear hsucc hnx hL hLj hN hK hO2 hq2 hW1 hB1 hq1 hO1 hs1 hB2 hg2 hq12 hpw hX hY hXY hxc hx hxl hpa hmx hx16 hm1 hn hc hO hq hcc hc16
    by_cases hKm:K=m
    ·subst hKm
     go_wp2_with fail
     refine hwp.mono ?_
     rintro e w3 ⟨rfl,q3⟩
     obtain⟨hsucc,hnx,hL,hLj,hN,hK,hO2,hq2,hcc,hc16⟩:=HS.out
     have hq3:=hq2.trans (q3.mono hq2.size)
     have hO3:OwnP w.heap.size w3 (.slice A L cp) ((List.range j).map (pairAt b)):=hO2.keep (fun k hk hv=>q3.block k hk)
     have HS3:=Lib.hid (And.intro hsucc (And.intro hnx (And.intro hL (And.intro hLj (And.intro hN (And.intro hK (And.intro hO3 (And.intro hq3 hcc))))))))
     have hO4:((w3.alloc (.cells #[.int .u64 X,.int .u64 Y] 101)).alloc (.cells #[.int .u64 X,.int .u64 Y] 101)).ownsRow w.heap.size 101 2 (.slice A L cp) L (pvals ((List.range j).map (pairAt b))):=by
      rw[hL]
      rw[hL]at hO3
      exact World.ownsRow.alloc (World.ownsRow.alloc hO3 _) _
     have hnew:∀(i:Nat) (u:Value),[Value.int .u64 X,.int .u64 Y][i]? =some u->((w3.alloc (.cells #[.int .u64 X,.int .u64 Y] 101)).alloc (.cells #[.int .u64 X,.int .u64 Y] 101)).cell? ((⟨w3.heap.size+1,0,none⟩:Addr).add i)=some u:=fun i u hi=>by
      rw[add_plain,Nat.zero_add]
      have hh:=(Blk.new (w3.alloc (.cells #[.int .u64 X,.int .u64 Y] 101)) 101 #[.int .u64 X,.int .u64 Y]).cell_ i (v:=u) (by simpa using hi)
      rw[World.size_alloc]at hh
      exact hh
     have hone:∀u∈[Value.int .u64 X,.int .u64 Y],u.oneCell'=true:=fun u hu=>by
      simp at hu
      rcases hu with rfl|rfl<;>rfl
     have hL4:L<=4000:=by omega
     have hs3:w.heap.size<=w3.heap.size:=hq3.size
     clear hsucc hnx hL hLj hN hK hO2 hq2 hcc hc16 q3 hq3 hO3
     go_wp2_with (at_builtin;refine wpList_append_own _ rfl _ _ 190 rfl w.heap.size 101 i0 (.agg #[.int .u64 0,.int .u64 0]) 2 16 Tryz.underlying190 hi hz0 hz1 hz2 rfl (by decide) _ _ _ rfl hO4 ⟨w3.heap.size+1,0,none⟩ 1 1 [.int .u64 X,.int .u64 Y] rfl rfl hnew hone (by unfold maxLen;omega) (by omega) (by simp;omega) ?_;intro v' w5 hown5 hgrow5 hnil5;go_frame)
     obtain⟨hsucc,hnx,hL,hLj,hN,hK,hO3,hq3,hcc⟩:=HS3.out
     have hO5:OwnP w.heap.size w5 v' ((List.range (j+1)).map (pairAt b)):=by
      rw[hsucc]
      exact OwnP.of hown5 (by rw[List.length_append,<-hL];rfl) (by rw[pvals_app];rfl)
     have hq4:Below w.heap.size w ((w3.alloc (.cells #[.int .u64 X,.int .u64 Y] 101)).alloc (.cells #[.int .u64 X,.int .u64 Y] 101)):=(hq3.alloc hq3.size _).alloc (by simp;omega) _
     have hq5:=hq4.grown hgrow5 hq4.size (fun k hk=>(OwnP.ge (l:=(List.range j).map (pairAt b)) (by rw[hL]at hO4 hk;exact hO4) (by rw[hL]at hk;exact hk)).1)
     clear hown5 hgrow5 hnil5 hsucc hL hO3 hq3 hq4 hO4 hnew hone
     go_wp2_with fail
     go_roundw
     case rel=>exact⟨j+1,c+K,o+c,_,rfl,hnx,fun _=>by omega,by rw[show n-(c+K)=N-K by omega,show cap-(c+K)=0 by omega],by omega,hO5,hq5⟩
     case measure=>show _<_;simp only[];omega
    ·have hKm2:¬(m=K):=fun e=>hKm e.symm
     go_wp2_with fail
     refine hwp.mono ?_
     rintro e w3 ⟨rfl,q3⟩
     obtain⟨hsucc,hnx,hL,hLj,hN,hK,hO2,hq2,hcc,hc16⟩:=HS.out
     have hq3:=hq2.trans (q3.mono hq2.size)
     have hO3:OwnP w.heap.size w3 (.slice A L cp) ((List.range j).map (pairAt b)):=hO2.keep (fun k hk hv=>q3.block k hk)
     have HS3:=Lib.hid (And.intro hsucc (And.intro hnx (And.intro hL (And.intro hLj (And.intro hN (And.intro hK (And.intro hO3 (And.intro hq3 hcc))))))))
     have hO4:((w3.alloc (.cells #[.int .u64 X,.int .u64 Y] 101)).alloc (.cells #[.int .u64 X,.int .u64 Y] 101)).ownsRow w.heap.size 101 2 (.slice A L cp) L (pvals ((List.range j).map (pairAt b))):=by
      rw[hL]
      rw[hL]at hO3
      exact World.ownsRow.alloc (World.ownsRow.alloc hO3 _) _
     have hnew:∀(i:Nat) (u:Value),[Value.int .u64 X,.int .u64 Y][i]? =some u->((w3.alloc (.cells #[.int .u64 X,.int .u64 Y] 101)).alloc (.cells #[.int .u64 X,.int .u64 Y] 101)).cell? ((⟨w3.heap.size+1,0,none⟩:Addr).add i)=some u:=fun i u hi=>by
      rw[add_plain,Nat.zero_add]
      have hh:=(Blk.new (w3.alloc (.cells #[.int .u64 X,.int .u64 Y] 101)) 101 #[.int .u64 X,.int .u64 Y]).cell_ i (v:=u) (by simpa using hi)
      rw[World.size_alloc]at hh
      exact hh
     have hone:∀u∈[Value.int .u64 X,.int .u64 Y],u.oneCell'=true:=fun u hu=>by
      simp at hu
      rcases hu with rfl|rfl<;>rfl
     have hL4:L<=4000:=by omega
     have hs3:w.heap.size<=w3.heap.size:=hq3.size
     clear hsucc hnx hL hLj hN hK hO2 hq2 hcc hc16 q3 hq3 hO3
     go_wp2_with (at_builtin;refine wpList_append_own _ rfl _ _ 190 rfl w.heap.size 101 i0 (.agg #[.int .u64 0,.int .u64 0]) 2 16 Tryz.underlying190 hi hz0 hz1 hz2 rfl (by decide) _ _ _ rfl hO4 ⟨w3.heap.size+1,0,none⟩ 1 1 [.int .u64 X,.int .u64 Y] rfl rfl hnew hone (by unfold maxLen;omega) (by omega) (by simp;omega) ?_;intro v' w5 hown5 hgrow5 hnil5;go_frame)
     obtain⟨hsucc,hnx,hL,hLj,hN,hK,hO3,hq3,hcc⟩:=HS3.out
     have hO5:OwnP w.heap.size w5 v' ((List.range (j+1)).map (pairAt b)):=by
      rw[hsucc]
      exact OwnP.of hown5 (by rw[List.length_append,<-hL];rfl) (by rw[pvals_app];rfl)
     have hq4:Below w.heap.size w ((w3.alloc (.cells #[.int .u64 X,.int .u64 Y] 101)).alloc (.cells #[.int .u64 X,.int .u64 Y] 101)):=(hq3.alloc hq3.size _).alloc (by simp;omega) _
     have hq5:=hq4.grown hgrow5 hq4.size (fun k hk=>(OwnP.ge (l:=(List.range j).map (pairAt b)) (by rw[hL]at hO4 hk;exact hO4) (by rw[hL]at hk;exact hk)).1)
     clear hown5 hgrow5 hnil5 hsucc hL hO3 hq3 hq4 hO4 hnew hone
     go_wp2_with fail
     go_roundw
     case rel=>exact⟨j+1,c+m,o+c+m,_,rfl,hnx,fun _=>by omega,by rw[show n-(c+m)=N-m by omega,show cap-(c+m)=K-m by omega],by omega,hO5,hq5⟩
     case measure=>show _<_;simp only[];omega
   ·have hje:j=(n+15) / 16:=by omega
    have hz:n-c=0:=by omega
    rw[hz]
    have hfin:gpairs b=(List.range j).map (pairAt b):=by unfold gpairs;rw[<-H.out.1,hje]
    have HF:=Lib.hid (And.intro hfin (And.intro hO hq))
    clear hcc hoo hlt hz hje hfin hO hq
    go_wp2_with fail
    go_ret
    obtain⟨hfin,hO,hq⟩:=HF.out
    exact⟨_,rfl,by rw[hfin];exact hO,hq⟩
end Go.Proofs.YtggmdjdflaglpaaGreat
namespace Go.Proofs.YtggmdjdflaglpaaGreat
open Go.RowKit
set_option linter.unusedVariables false
theorem pvals_at:∀(l:List Two) (j:Nat) (p:Two),l[j]? =some p->(pvals l)[j*2]? =some (.int .u64 p.1)/\(pvals l)[j*2+1]? =some (.int .u64 p.2)
 |[],j,p,h=>by simp at h
 |q::l,0,p,h=>by
  simp at h
  subst h
  exact⟨rfl,rfl⟩
 |q::l,j+1,p,h=>by
  have ih:=pvals_at l j p (by simpa using h)
  have e:pvals (q::l)=.int .u64 q.1::.int .u64 q.2::pvals l:=rfl
  rw[e]
  have e1:(j+1)*2=j*2+1+1:=by omega
  rw[e1]
  exact⟨by simpa using ih.1,by simpa using ih.2⟩
theorem OwnP.at_ {B:Nat}{w:World}{A:Option Addr}{n c:Nat}{l:List Two}(h:OwnP B w (.slice A n c) l) {j:Nat}{p:Two}(hj:l[j]? =some p):
 ∃g,A=some ⟨g,0,none⟩/\g<w.heap.size/\w.cell? ⟨g,j*2,none⟩=some (.int .u64 p.1)/\w.cell? ⟨g,j*2+1,none⟩=some (.int .u64 p.2):=by
 have hjl:=(List.getElem?_eq_some_iff.1 hj).1
 rcases h.2 with⟨_,h0⟩|⟨g,cc,cur,he,a2,a3,a4,a5,a6,a7⟩
 ·omega
 ·injection he with e1 e2 e3
  have hp:=pvals_at l j p hj
  refine⟨g,e1,(Array.getElem?_eq_some_iff.1 a3).1,?_,?_⟩
  ·rw[cell_of_row w g _ cur 101 (0,0) a3]
   have e:=hp.1
   rw[<-a7,List.getElem?_take,if_pos (by omega)]at e
   simpa using e
  ·rw[cell_of_row w g _ cur 101 (0,0) a3]
   have e:=hp.2
   rw[<-a7,List.getElem?_take,if_pos (by omega)]at e
   simpa using e
def fevTo (h:Two) (l:List Two) (i:Nat):Two:=feval h (l.take i)
theorem fevTo_succ (h:Two) (l:List Two) (i:Nat) (p:Two) (hi:l[i]? =some p):fevTo h l (i+1)=fmul (fadd p (fevTo h l i)) h:=by
 unfold fevTo feval
 rw[List.take_add_one,hi,List.foldl_append]
 rfl
theorem fmul_u (a b:Two):U2 (fmul a b):=fmulTo_u a b 128
theorem fevTo_u (h:Two) (l:List Two):∀i,U2 (fevTo h l i)
 |0=>by
  show U2 ((0,0):Two)
  exact⟨⟨by decide,by decide⟩,⟨by decide,by decide⟩⟩
 |i+1=>by
  cases hi:l[i]? with
  |some p=>rw[fevTo_succ h l i p hi];exact fmul_u _ _
  |none=>
   have:=fevTo_u h l i
   unfold fevTo at this ⊢
   rw[List.take_of_length_le (by have:=List.getElem?_eq_none_iff.1 hi;omega)]at this ⊢
   exact this
theorem s6e {w:World}{g7 g5 g2:Nat}{p0 p1 o0 o1 h0 h1:Int}(b7:Blk w g7 101 #[.int .u64 p0,.int .u64 p1]) (b5:Blk w g5 101 #[.int .u64 o0,.int .u64 o1]) (b2:Blk w g2 101 #[.int .u64 h0,.int .u64 h1]):
 w.cell? ⟨g7,0,none⟩=some (.int .u64 p0)/\w.cell? ⟨g7,1,none⟩=some (.int .u64 p1)/\w.cell? ⟨g2,0,none⟩=some (.int .u64 h0)/\w.cell? ⟨g2,1,none⟩=some (.int .u64 h1):=⟨b7.cell_ 0 rfl,b7.cell_ 1 rfl,b2.cell_ 0 rfl,b2.cell_ 1 rfl⟩
set_option maxHeartbeats 4000000 in
set_option maxRecDepth 100000 in
theorem feval_ok (h:Two) (l:List Two) (v:Value) (B:Nat) (w:World) (hh:U2 h) (hl:∀p∈l,U2 p) (hv:OwnP B w v l) (hn:l.length<=2000):
 Calls Tryz.prog 127 #[pv h,v] w fun e w'=>e=.returned (pv (feval h l))/\Below w.heap.size w w':=by
 obtain⟨h0,h1⟩:=h
 obtain⟨A,cp,rfl⟩:=row_form hv
 obtain⟨n,hnn⟩:∃n,n=l.length:=⟨_,rfl⟩
 rw[<-hnn]at hn ⊢
 obtain⟨x,hx⟩:∃x,x=(feval (h0,h1) l).1:=⟨_,rfl⟩
 obtain⟨y,hy⟩:∃y,y=(feval (h0,h1) l).2:=⟨_,rfl⟩
 unfold pv
 rw[<-hx,<-hy]
 simp only
 have H:=Lib.hid (And.intro hnn (And.intro hx (And.intro hy (And.intro hh (And.intro hl hv)))))
 obtain⟨W0,hW0⟩:∃W0,W0=((w.alloc (.cells #[.int .u64 h0,.int .u64 h1] 101)).alloc (.cells #[.int .u64 0,.int .u64 0] 101)).alloc (.cells #[.int .u64 0,.int .u64 0] 101):=⟨_,rfl⟩
 have q0:Below w.heap.size w W0:=by rw[hW0];exact(((Below.refl _ _).alloc (Nat.le_refl _) _).alloc (by simp) _).alloc (by simp;omega) _
 have b2:Blk W0 w.heap.size 101 #[.int .u64 h0,.int .u64 h1]:=by rw[hW0];exact((Blk.new w 101 _).alloc _).alloc _
 have b4:Blk W0 (w.heap.size+1) 101 #[.int .u64 0,.int .u64 0]:=by
  rw[hW0]
  have:=(Blk.new (w.alloc (.cells #[.int .u64 h0,.int .u64 h1] 101)) 101 #[.int .u64 0,.int .u64 0]).alloc (.cells #[.int .u64 0,.int .u64 0] 101)
  rw[World.size_alloc]at this
  exact this
 have b5:Blk W0 (w.heap.size+1+1) 101 #[.int .u64 0,.int .u64 0]:=by
  rw[hW0]
  have:=Blk.new ((w.alloc (.cells #[.int .u64 h0,.int .u64 h1] 101)).alloc (.cells #[.int .u64 0,.int .u64 0] 101)) 101 #[.int .u64 0,.int .u64 0]
  rw[World.size_alloc,World.size_alloc]at this
  exact this
 have HW:=Lib.hid hW0
 have H0:=Lib.hid (And.intro q0 (And.intro b2 (And.intro b4 b5)))
 clear hnn hx hy hh hl hv hW0 q0 b2 b4 b5
 go_enter Tryz.func127,Tryz.ntmps127
 go_wp2_with fail
 rw[<-HW.out]
 go_loopw [7,10] (fun _ t wr=>∃i:Nat,t=.int .i64 i/\i<=n/\Below w.heap.size w wr/\Blk wr w.heap.size 101 #[.int .u64 h0,.int .u64 h1]/\Blk wr (w.heap.size+1) 101 #[.int .u64 0,.int .u64 0]/\Blk wr (w.heap.size+1+1) 101 #[.int .u64 (fevTo (h0,h1) l i).1,.int .u64 (fevTo (h0,h1) l i).2]) (fun _ t _=>n-(intOf t).toNat)
 case atStart=>exact⟨0,rfl,by omega,H0.out⟩
 case round=>
  obtain⟨i,rfl,hi,hq,b2,b4,b5⟩:=hrel
  clear H0
  obtain⟨hnn,hx,hy,hh,hl,hv⟩:=H.out
  by_cases hlt:i<n
  ·have m0:(0:Int)<=(i:Int):=by omega
   have m1:(i:Int)<(n:Int):=by omega
   obtain⟨⟨p0,p1⟩,hp⟩:∃p,l[i]? =some p:=⟨_,List.getElem?_eq_getElem (by omega)⟩
   obtain⟨g,rfl,hg,c0,c1⟩:=hv.at_ hp
   have d0:=(hq.cell (p:=⟨g,i*2,none⟩) hg).trans c0
   have d1:=(hq.cell (p:=⟨g,i*2+1,none⟩) hg).trans c1
   have hgl:=Nat.lt_of_lt_of_le hg hq.size
   have hsucc:=fevTo_succ (h0,h1) l i (p0,p1) hp
   have hu:=fevTo_u (h0,h1) l i
   obtain⟨o0,ho0⟩:∃o,o=(fevTo (h0,h1) l i).1:=⟨_,rfl⟩
   obtain⟨o1,ho1⟩:∃o,o=(fevTo (h0,h1) l i).2:=⟨_,rfl⟩
   have hoo:fevTo (h0,h1) l i=(o0,o1):=by rw[ho0,ho1]
   rw[hoo]at hsucc
   have hfa:=fun W=>fadd_ok (p0,p1) (o0,o1) W
   obtain⟨s0,hs0⟩:∃o,o=(fadd (p0,p1) (o0,o1)).1:=⟨_,rfl⟩
   obtain⟨s1,hs1⟩:∃o,o=(fadd (p0,p1) (o0,o1)).2:=⟨_,rfl⟩
   have hss:fadd (p0,p1) (o0,o1)=(s0,s1):=by rw[hs0,hs1]
   have hsu:=fadd_u (p0,p1) (o0,o1)
   rw[hss]at hsu hsucc hfa
   have hfm:=fun W=>fmul_ok (s0,s1) (h0,h1) W hsu hh
   obtain⟨t0,ht0⟩:∃o,o=(fmul (s0,s1) (h0,h1)).1:=⟨_,rfl⟩
   obtain⟨t1,ht1⟩:∃o,o=(fmul (s0,s1) (h0,h1)).2:=⟨_,rfl⟩
   have htt:fmul (s0,s1) (h0,h1)=(t0,t1):=by rw[ht0,ht1]
   rw[htt]at hsucc hfm
   rw[<-ho0,<-ho1]at b5
   unfold pv at hfa hfm
   simp only at hfa hfm
   obtain⟨W1,hW1⟩:∃W1,W1=wr.alloc (.cells #[.int .u64 p0,.int .u64 p1] 101):=⟨_,rfl⟩
   have q1:Below w.heap.size w W1.drew:=by rw[hW1];exact(hq.alloc hq.size _).drew
   have b7:Blk W1.drew wr.heap.size 101 #[.int .u64 p0,.int .u64 p1]:=by rw[hW1];exact(Blk.new wr 101 _).drew
   have b2':Blk W1.drew w.heap.size 101 #[.int .u64 h0,.int .u64 h1]:=by rw[hW1];exact(b2.alloc _).drew
   have b4':Blk W1.drew (w.heap.size+1) 101 #[.int .u64 0,.int .u64 0]:=by rw[hW1];exact(b4.alloc _).drew
   have b5':Blk W1.drew (w.heap.size+1+1) 101 #[.int .u64 o0,.int .u64 o1]:=by rw[hW1];exact(b5.alloc _).drew
   have HW1:=Lib.hid hW1
   have HS:=Lib.hid hsucc
   clear hnn hx hy hh hl hv c0 c1 hsucc hu hoo ho0 ho1 hss hsu hs0 hs1 htt ht0 ht1 hq b2 b4 b5 hW1 hlt hp
   go_wp2_with fail
   rw[<-HW1.out]
   have k0:=b7.cell_ 0 rfl
   have k1:=b7.cell_ 1 rfl
   have k2:=b5'.cell_ 0 rfl
   have k3:=b5'.cell_ 1 rfl
   have k4:=b2'.cell_ 0 rfl
   have k5:=b2'.cell_ 1 rfl
   have kl7:=b7.lt
   have kl5:=b5'.lt
   have kl2:=b2'.lt
   go_region_law
    (first
     |(go_simp;go_at_call 126;refine(hfa _).mono ?_;rintro e w3 ⟨rfl,q3⟩;replace b7:=b7.below_ q3;replace b5':=b5'.below_ q3;replace b2':=b2'.below_ q3;replace b4':=b4'.below_ q3;replace q1:=q1.trans (q3.mono q1.size);replace k0:=b7.cell_ 0 rfl;replace k1:=b7.cell_ 1 rfl;replace k2:=b5'.cell_ 0 rfl;replace k3:=b5'.cell_ 1 rfl;replace k4:=b2'.cell_ 0 rfl;replace k5:=b2'.cell_ 1 rfl;replace kl5:=b5'.lt;replace kl2:=b2'.lt;replace kl7:=b7.lt)
     |(go_simp;go_at_call 162;refine(hfm _).mono ?_;rintro e w4 ⟨rfl,q4⟩;replace b5':=b5'.below_ q4;replace b2':=b2'.below_ q4;replace b4':=b4'.below_ q4;replace q1:=q1.trans (q4.mono q1.size);replace k2:=b5'.cell_ 0 rfl;replace k3:=b5'.cell_ 1 rfl;have f2:=b5'.frozen 0;have f3:=b5'.frozen 1;replace kl5:=b5'.lt;have b6:=b5'.set_to 0 (.int .u64 t0) (cs':=#[.int .u64 t0,.int .u64 o1]) rfl;have g2:=b6.cell_ 1 rfl;have g3:=b6.frozen 1;have g4:=b6.lt))
   all_goals
    have hb:=b6.set_to 1 (.int .u64 t1) (cs':=#[.int .u64 t0,.int .u64 t1]) rfl
    have hg:=only_set2 w4 (w.heap.size+1+1) 0 1 (.int .u64 t0) (.int .u64 t1)
    have hq5:=below_only q1 hg q1.size (by omega)
    have b2n:=b2'.grown hg (fun e=>by injection e with e;omega)
    have b4n:=b4'.grown hg (fun e=>by injection e with e;omega)
    have HN:=Lib.hid (And.intro hb (And.intro hq5 (And.intro b2n b4n)))
    clear hb hg hq5 b2n b4n b6 b2' b4' b5' q1 q3 q4 b7 g2 g3 g4 f2 f3 k0 k1 k2 k3 k4 k5
    go_wp2_with fail
    obtain⟨hb,hq5,b2n,b4n⟩:=HN.out
    go_roundw
    case rel=>exact⟨i+1,by go_num,by omega,hq5,b2n,b4n,by rw[HS.out];exact hb⟩
    case measure=>simp[intOf];omega
  ·have hin:i=n:=by omega
   have hfe:fevTo (h0,h1) l i=feval (h0,h1) l:=by unfold fevTo;rw[hin,hnn,List.take_length]
   rw[hfe,<-hx,<-hy]at b5
   have k2:=b5.cell_ 0 rfl
   have k3:=b5.cell_ 1 rfl
   have f0:=b4.frozen 0
   have f1:=b4.frozen 1
   have k4:=b4.cell_ 0 rfl
   have k5:=b4.cell_ 1 rfl
   have kl5:=b5.lt
   have kl4:=b4.lt
   have m1:¬((i:Int)<(n:Int)):=by omega
   have HQ:=Lib.hid (And.intro hq b4)
   clear hnn hx hy hh hl hv hfe hq b2 b4 b5 hin
   go_wp2_with fail
   obtain⟨hq,b4⟩:=HQ.out
   have hf:=(b4.set_to 0 (.int .u64 x) (cs':=#[.int .u64 x,.int .u64 0]) rfl).set_to 1 (.int .u64 y) (cs':=[.int .u64 x,.int .u64 y].toArray) rfl
   exact ret_cell 4 101 (by rfl) (w.heap.size+1) 0 (by rfl) [.int .u64 x,.int .u64 y] _ hf.range Tryz.underlying101 rfl sz101 rfl ⟨rfl,below_only hq (only_set2 _ _ _ _ _ _) hq.size (by omega)⟩
theorem feval_u (h:Two) (l:List Two):U2 (feval h l):=by
 have:=fevTo_u h l l.length
 unfold fevTo at this
 rw[List.take_length]at this
 exact this
end Go.Proofs.YtggmdjdflaglpaaGreat
namespace Go.Proofs.YtggmdjdflaglpaaGreat
open Go.RowKit
set_option linter.unusedVariables false
set_option linter.unusedSimpArgs false
set_option maxRecDepth 100000 in
theorem append_nil2 {w:World}{B n cp:Nat}{A:Option Addr}{xs:List Value}(h:w.ownsRow B 101 2 (.slice A n cp) n xs) (ty:TypeId):(Builtin.append_ #[190,190] ty #[.slice A n cp,.slice none 0 0]).run Tryz.prog w=.ok (.slice A n cp) w:=by
 obtain⟨i0,hi,hz0,hz1,hz2⟩:=info_parts info101
 rcases h.2 with⟨h1,h2⟩|⟨g,c,cur,he,a2,a3,a4,a5,a6,a7⟩
 ·injection h1 with e1 e2 e3
  subst e1 e2 e3
  simp[Builtin.append_,run_underlying Tryz.underlying190,sizeOf,typeInfo,hi,Builtin.lenOf,Builtin.firstCells,loadCells,loadCellsFrom]
 ·injection he with e1 e2 e3
  subst e1 e3
  simp[Builtin.append_,run_underlying Tryz.underlying190,sizeOf,typeInfo,hi,Builtin.lenOf,Builtin.firstCells,loadCells,loadCellsFrom,a4,storeCells]
theorem append_pairs {w:World}{B B2:Nat}{v1 v2:Value}{l1 l2:List Two}(h1:OwnP B w v1 l1) (h2:OwnP B2 w v2 l2) (hl:l1.length+l2.length<=10000) (hB:B<=w.heap.size) (ty:TypeId):
 ∃v' w',(Builtin.append_ #[190,190] ty #[v1,v2]).run Tryz.prog w=.ok v' w'/\OwnP B w' v' (l1++l2)/\w.grownBy w' v1.ownBlock:=by
 obtain⟨i0,hi,hz0,hz1,hz2⟩:=info_parts info101
 obtain⟨A1,c1,rfl⟩:=row_form h1
 obtain⟨A2,c2,rfl⟩:=row_form h2
 rcases h2.2 with⟨e,e0⟩|⟨g,c,cur,he,a2,a3,a4,a5,a6,a7⟩
 ·injection e with e1 e2 e3
  have hnil:l2=[]:=List.eq_nil_of_length_eq_zero e0
  rw[e1,e0,e3,hnil,List.append_nil]
  exact⟨_,_,append_nil2 h1 ty,h1,only_refl _ _⟩
 ·injection he with e1 e2 e3
  subst e1
  obtain⟨v',w',hr,k2,k3,_⟩:=run_append_own (P:=Tryz.prog) w B 190 ty 101 i0 (.agg #[.int .u64 0,.int .u64 0]) 2 16 Tryz.underlying190 hi hz0 hz1 hz2 rfl (by decide) (.slice A1 l1.length c1) l1.length (pvals l1) h1 ⟨g,0,none⟩ l2.length c2 (pvals l2) (by rw[pvals_len])
   (fun j u hj=>(World.ownsRow.cells h2 (g:=g) rfl) j u hj) (pvals_one l2) (by unfold maxLen;omega) (by omega) hB
  exact⟨v',w',hr,OwnP.of k2 (by rw[List.length_append]) (by rw[pvals_app]),k3⟩
theorem wpList_append_run {ops:Array Oper}{rest:List Oper}{o:Oper}{a:Act}{w:World}{Q:Exit->Act->World->Prop}(hgd:o.guard=none) (s x:Operand) (t:TypeId)
 (ho:o.op=.call {callee:=.builtin .append,args:=#[s,x],argTypes:=#[t,t]}) (v1 v2:Value) (hs:a.eval s=v1) (hx:a.eval x=v2) {v':Value}{w':World}
 (hr:(Builtin.append_ #[t,t] o.type #[v1,v2]).run Tryz.prog w=.ok v' w') (h:wpList Tryz.prog ops Q rest (a.put o.dst v') w'):wpList Tryz.prog ops Q (o::rest) a w:=
 wpList_plain hgd fun _ hK=>by
  unfold Oper.wp execOp
  simp only[ho,resolve,invoke,builtin,Sem.run_bind,Sem.run_pure,Result.andThen_ok,List.map_toArray,List.map_cons,List.map_nil,hs,hx,hr]
  exact hK _ _ h
theorem OwnP.one {w:World}{g:Nat}{a b:Int}(h:Blk w g 101 #[.int .u64 a,.int .u64 b]):OwnP 0 w (.slice (some ⟨g,0,none⟩) 1 1) [(a,b)]:=
 ⟨rfl,.inr ⟨g,1,_,rfl,Nat.zero_le _,h,Nat.le_refl _,by unfold maxLen;omega,rfl,rfl⟩⟩
theorem OwnP.below_ {B:Nat}{w w':World}{v:Value}{l:List Two}(h:OwnP B w v l) (hb:Below w.heap.size w w'):OwnP B w' v l:=h.keep (fun k hk _=>hb.block k hk)
theorem may_ok (A B:Option Addr) (n m c d:Nat) (w:World) (hn:n<=4000) (hm:m<=4000):
 Calls Tryz.prog 81 #[.slice A n c,.slice B m d] w fun e w'=>e=.returned (.bool true)/\w=w':=by
 have h1:(n:Int)<=4000:=by omega
 have h2:(m:Int)<=4000:=by omega
 go_enter Tryz.func81,Tryz.ntmps81
 go_wp2_with fail
 go_ret
 exact⟨rfl,rfl⟩
theorem gpairs_len (b:By):(gpairs b).length=(b.length+15) / 16:=by simp[gpairs]
theorem gpairs_u (b:By):∀p∈gpairs b,U2 p:=fun p hp=>by
 unfold gpairs at hp
 rw[List.mem_map]at hp
 obtain⟨j,_,rfl⟩:=hp
 exact pad16_u _ (by rw[List.length_take];omega)
set_option maxHeartbeats 4000000 in
set_option maxRecDepth 100000 in
theorem gtag_ok (p q:Nat->Prop) (sub:Two) (vh vb:Value) (head b:By) (w:World) (hs:U2 sub) (hh:HasP p w vh head) (hb:HasP q w vb b) (l1:head.length<=4000) (l2:b.length<=4000):
 Calls Tryz.prog 85 #[pv sub,vh,vb] w fun e w'=>e=.returned (pv (gtag sub head b))/\Below w.heap.size w w':=by
 obtain⟨s0,s1⟩:=sub
 obtain⟨A1,c1,rfl⟩:=hh.slice
 obtain⟨A2,c2,rfl⟩:=hb.slice
 obtain⟨n1,hn1⟩:∃n,n=head.length:=⟨_,rfl⟩
 obtain⟨n2,hn2⟩:∃n,n=b.length:=⟨_,rfl⟩
 have hT:gtag (s0,s1) head b=fadd (feval (enc (s0,s1) (0,1)) ((gpairs head++gpairs b)++[((n1:Int),(n2:Int))])) (enc (s0,s1) (0,0)):=by rw[hn1,hn2];rfl
 have hp1:=fun W (hq:Below w.heap.size w W)=>pairs_ok p _ head W (hh.below_ hq) l1
 have hp2:=fun W (hq:Below w.heap.size w W)=>pairs_ok q _ b W (hb.below_ hq) l2
 have g1:=gpairs_len head
 have g2:=gpairs_len b
 rw[<-hn1]at g1 l1 ⊢
 rw[<-hn2]at g2 l2 ⊢
 rw[<-hn1]at hp1
 rw[<-hn2]at hp2
 obtain⟨x,hx⟩:∃x,x=(gtag (s0,s1) head b).1:=⟨_,rfl⟩
 obtain⟨y,hy⟩:∃y,y=(gtag (s0,s1) head b).2:=⟨_,rfl⟩
 unfold pv
 rw[<-hx,<-hy]
 simp only
 obtain⟨W0,hW0⟩:∃W0,W0=(w.alloc (.cells #[.int .u64 s0,.int .u64 s1] 101)).alloc (.cells #[.int .u64 0,.int .u64 0] 101):=⟨_,rfl⟩
 have q0:Below w.heap.size w W0:=by rw[hW0];exact((Below.refl _ _).alloc (Nat.le_refl _) _).alloc (by simp) _
 have b3:Blk W0 w.heap.size 101 #[.int .u64 s0,.int .u64 s1]:=by rw[hW0];exact(Blk.new w 101 _).alloc _
 have b6:Blk W0 (w.heap.size+1) 101 #[.int .u64 0,.int .u64 0]:=by
  rw[hW0]
  have:=Blk.new (w.alloc (.cells #[.int .u64 s0,.int .u64 s1] 101)) 101 #[.int .u64 0,.int .u64 0]
  rw[World.size_alloc]at this
  exact this
 have hp1':=hp1 W0 q0
 have HW:=Lib.hid hW0
 have H:=Lib.hid (And.intro hT (And.intro hx (And.intro hy (And.intro hp2 (And.intro g1 g2)))))
 have H0:=Lib.hid (And.intro q0 (And.intro b3 b6))
 clear hT hp1 hp2 hx hy hW0 q0 b3 b6 hn1 hn2 hh hb g1 g2
 go_enter Tryz.func85,Tryz.ntmps85
 go_wp2_with fail
 rw[<-HW.out]
 refine hp1'.mono ?_
 rintro e w1 ⟨v1,rfl,o1,q1⟩
 clear hp1'
 obtain⟨q0,b3,b6⟩:=H0.out
 obtain⟨hT,hx,hy,hp2,g1,g2⟩:=H.out
 have q01:=q0.trans (q1.mono q0.size)
 have hp2':=hp2 w1 q01
 have b3a:=b3.below_ q1
 have b6a:=b6.below_ q1
 have H1:=Lib.hid (And.intro q01 (And.intro b3a (And.intro b6a o1)))
 have q1s:=q1.size
 have b6l:=b6.lt
 clear q0 b3 b6 hT hx hy hp2 g1 g2 q01 b3a b6a o1 q1
 go_wp2_with fail
 refine hp2'.mono ?_
 rintro e w2 ⟨v2,rfl,o2,q2⟩
 clear hp2'
 obtain⟨q01,b3a,b6a,o1⟩:=H1.out
 obtain⟨hT,hx,hy,hp2,g1,g2⟩:=H.out
 have q02:=q01.trans (q2.mono q01.size)
 have o1b:OwnP W0.heap.size w2 v1 (gpairs head):=o1.keep (fun k hk _=>q2.block k hk)
 obtain⟨v3,w3,hap,o3,hg3⟩:=append_pairs o1b o2 (by rw[g1,g2];omega) (Nat.le_trans q1s q2.size) 190
 obtain⟨L,hL⟩:∃L,L=(gpairs head++gpairs b).length:=⟨_,rfl⟩
 obtain⟨A3,c3,rfl⟩:=row_form o3
 have hL1:L<=600:=by rw[hL,List.length_append,g1,g2];omega
 have b3b:=(b3a.below_ q2).grown hg3 (fun e=>by have:=(o1b.ge e.symm).1;omega)
 have b6b:=(b6a.below_ q2).grown hg3 (fun e=>by have:=(o1b.ge e.symm).1;omega)
 have q03:=q02.grown hg3 q02.size (fun k hk=>by have:=(o1b.ge hk).1;omega)
 have hlb:=b6b.lt
 rw[<-hL]at hap o3
 obtain⟨W4,hW4⟩:∃W4,W4=w3.alloc (.cells #[.int .u64 n1,.int .u64 n2] 101):=⟨_,rfl⟩
 have q04:Below w.heap.size w W4:=by rw[hW4];exact q03.alloc q03.size _
 have b34:Blk W4 w.heap.size 101 #[.int .u64 s0,.int .u64 s1]:=by rw[hW4];exact b3b.alloc _
 have b64:Blk W4 (w.heap.size+1) 101 #[.int .u64 0,.int .u64 0]:=by rw[hW4];exact b6b.alloc _
 have o34:OwnP W0.heap.size W4 (.slice A3 L c3) (gpairs head++gpairs b):=by rw[hW4,hL];rw[hL]at o3;exact o3.below_ ((Below.refl _ _).alloc (Nat.le_refl _) _)
 have o1n:OwnP 0 W4 (.slice (some ⟨w3.heap.size,0,none⟩) 1 1) [((n1:Int),(n2:Int))]:=by rw[hW4];exact OwnP.one (Blk.new w3 101 _)
 have hs4:W0.heap.size<=W4.heap.size:=by have:=q1s;have:=q2.size;have:=hg3.size;rw[hW4,World.size_alloc];omega
 obtain⟨v5,w5,hap5,o5,hg5⟩:=append_pairs o34 o1n (by rw[<-hL];simp;omega) hs4 190
 obtain⟨A5,c5,rfl⟩:=row_form o5
 obtain⟨L5,hL5⟩:∃L,L=(gpairs head++gpairs b++[((n1:Int),(n2:Int))]).length:=⟨_,rfl⟩
 rw[<-hL5]at hap5
 rw[hW4]at hap5
 have b35:=b34.grown hg5 (fun e=>by have:=(o34.ge e.symm).1;omega)
 have b65:=b64.grown hg5 (fun e=>by have:=(o34.ge e.symm).1;omega)
 have q05:=q04.grown hg5 q04.size (fun k hk=>by have:=(o34.ge hk).1;omega)
 have hl5:(gpairs head++gpairs b++[((n1:Int),(n2:Int))]).length<=2000:=by rw[List.length_append,<-hL];simp;omega
 have hu5:∀p∈gpairs head++gpairs b++[((n1:Int),(n2:Int))],U2 p:=fun p hp=>by
  rw[List.mem_append,List.mem_append]at hp
  rcases hp with(hp|hp)|hp
  ·exact gpairs_u _ p hp
  ·exact gpairs_u _ p hp
  ·rw[List.mem_singleton.1 hp];exact⟨⟨by simp only;omega,by simp only;omega⟩,⟨by simp only;omega,by simp only;omega⟩⟩
 obtain⟨lp,hlp⟩:∃lp,lp=gpairs head++gpairs b++[((n1:Int),(n2:Int))]:=⟨_,rfl⟩
 rw[<-hlp]at hT o5 hl5 hu5 hL5
 have e1:=fun W=>enc_ok (s0,s1) (0,1) W hs ⟨⟨by decide,by decide⟩,⟨by decide,by decide⟩⟩
 have e0:=fun W=>enc_ok (s0,s1) (0,0) W hs ⟨⟨by decide,by decide⟩,⟨by decide,by decide⟩⟩
 have eu:=enc_u (s0,s1) (0,1) ⟨⟨by decide,by decide⟩,⟨by decide,by decide⟩⟩
 obtain⟨⟨r0,r1⟩,hr⟩:∃r,r=enc (s0,s1) (0,1):=⟨_,rfl⟩
 obtain⟨⟨z0,z1⟩,hz⟩:∃r,r=enc (s0,s1) (0,0):=⟨_,rfl⟩
 rw[<-hr]at e1 eu hT
 rw[<-hz]at e0 hT
 have ev:=fun W v (hv:OwnP W0.heap.size W v lp)=>feval_ok (r0,r1) lp v _ W eu hu5 hv hl5
 obtain⟨⟨m0,m1⟩,hm⟩:∃r,r=feval (r0,r1) lp:=⟨_,rfl⟩
 rw[<-hm]at ev hT
 have ea:=fun W=>fadd_ok (m0,m1) (z0,z1) W
 have hxx:x=(fadd (m0,m1) (z0,z1)).1:=by rw[hx,hT]
 have hyy:y=(fadd (m0,m1) (z0,z1)).2:=by rw[hy,hT]
 unfold pv at ea ev
 rw[<-hxx,<-hyy]at ea
 simp only at e0 e1 ea ev
 have HE:=Lib.hid (And.intro e1 (And.intro e0 (And.intro ev ea)))
 have H5:=Lib.hid (And.intro b35 (And.intro b65 (And.intro q05 (And.intro o5 hL5))))
 have n1b:(n1:Int)<=4000:=by omega
 have n2b:(n2:Int)<=4000:=by omega
 have c30:=b35.cell_ 0 rfl
 have c31:=b35.cell_ 1 rfl
 have l35:=b35.lt
 clear q01 b3a b6a o1 hT hx hy hp2 g1 g2 q02 o1b o3 hg3 hL hL1 b3b b6b q03 hlb hW4 q04 b34 b64 o34 o1n hs4 o5 hg5 hL5 b35 b65 q05 hl5 hu5 hlp e1 e0 eu hr hz ev hm ea hxx hyy o2 q2
 go_wp2_with (at_builtin;first|(refine wpList_append_run rfl _ _ 190 rfl _ _ rfl rfl hap ?_)|(refine wpList_append_run rfl _ _ 190 rfl _ _ rfl rfl hap5 ?_);go_frame)
 refine(HE.out.1 _).mono ?_
 rintro e w6 ⟨rfl,q6⟩
 obtain⟨b35,b65,q05,o5,hL5⟩:=H5.out
 clear c30 c31 l35 hap hap5
 obtain⟨W7,hW7⟩:∃W7,W7=w6.alloc (.cells #[.int .u64 r0,.int .u64 r1] 101):=⟨_,rfl⟩
 have q6':Below w5.heap.size w5 W7:=by rw[hW7];exact q6.alloc q6.size _
 have b37:Blk W7.drew w.heap.size 101 #[.int .u64 s0,.int .u64 s1]:=(b35.below_ q6').drew
 have b67:Blk W7.drew (w.heap.size+1) 101 #[.int .u64 0,.int .u64 0]:=(b65.below_ q6').drew
 have b87:Blk W7.drew w6.heap.size 101 #[.int .u64 r0,.int .u64 r1]:=by rw[hW7];exact(Blk.new w6 101 _).drew
 have q07:Below w.heap.size w W7.drew:=(q05.trans (q6'.mono q05.size)).drew
 have o7:OwnP W0.heap.size W7.drew (.slice A5 lp.length c5) lp:=by rw[<-hL5];rw[<-hL5]at o5;exact o5.below_ q6'.drew
 rw[<-hL5]at o7
 have HW7:=Lib.hid hW7
 have H5b:=Lib.hid hL5
 clear b35 b65 q05 o5 hL5 hW7 q6 q6'
 go_wp2_with fail
 rw[<-HW7.out]
 have k0:=b37.cell_ 0 rfl
 have k1:=b37.cell_ 1 rfl
 have k2:=b87.cell_ 0 rfl
 have k3:=b87.cell_ 1 rfl
 have kl3:=b37.lt
 have kl8:=b87.lt
 obtain⟨_,e0,ev,ea⟩:=HE.out
 go_region_law
  (first
   |(go_simp;go_at_call 127;refine(ev _ _ (by first|exact o7|(rw[H5b.out];rw[H5b.out]at o7;exact o7))).mono ?_;rintro e w8 ⟨rfl,q8⟩;replace b37:=b37.below_ q8;replace b67:=b67.below_ q8;replace b87:=b87.below_ q8;replace q07:=q07.trans (q8.mono q07.size);replace o7:=o7.below_ q8;replace k0:=b37.cell_ 0 rfl;replace k1:=b37.cell_ 1 rfl;replace k2:=b87.cell_ 0 rfl;replace k3:=b87.cell_ 1 rfl;replace kl3:=b37.lt;replace kl8:=b87.lt)
   |(go_simp;go_at_call 123;refine(e0 _).mono ?_;rintro e w9 ⟨rfl,q9⟩;replace b37:=b37.below_ q9;replace b67:=b67.below_ q9;replace b87:=b87.below_ q9;replace q07:=q07.trans (q9.mono q07.size);replace o7:=o7.below_ q9;replace k0:=b37.cell_ 0 rfl;replace k1:=b37.cell_ 1 rfl;replace k2:=b87.cell_ 0 rfl;replace k3:=b87.cell_ 1 rfl;replace kl3:=b37.lt;replace kl8:=b87.lt)
   |(go_simp;go_at_call 126;refine(ea _).mono ?_;rintro e w4 ⟨rfl,q4⟩;replace b67:=b67.below_ q4;replace q07:=q07.trans (q4.mono q07.size);have f2:=b67.frozen 0;have f3:=b67.frozen 1;have h2:=b67.cell_ 0 rfl;have h3:=b67.cell_ 1 rfl;have kl5:=b67.lt;have b6:=b67.set_to 0 (.int .u64 x) (cs':=#[.int .u64 x,.int .u64 0]) rfl;have g2:=b6.cell_ 1 rfl;have g3:=b6.frozen 1;have g4:=b6.lt))
 all_goals
  have hf:=b6.set_to 1 (.int .u64 y) (cs':=[.int .u64 x,.int .u64 y].toArray) rfl
  have hg:=only_set2 w4 (w.heap.size+1) 0 1 (.int .u64 x) (.int .u64 y)
  have hq5:=below_only q07 hg q07.size (by omega)
  have HN:=Lib.hid (And.intro hf hq5)
  clear hf hg hq5 b6 b37 b67 b87 q07 o7 g2 g3 g4 f2 f3 h2 h3 k0 k1 k2 k3 q8 q9 q4 e0 ev ea
  go_wp2_with fail
  exact ret_cell 6 101 (by rfl) (w.heap.size+1) 0 (by rfl) [.int .u64 x,.int .u64 y] _ HN.out.1.range Tryz.underlying101 rfl sz101 rfl ⟨rfl,HN.out.2⟩
end Go.Proofs.YtggmdjdflaglpaaGreat
namespace Go.Proofs.YtggmdjdflaglpaaGreat
open Go.RowKit
set_option linter.unusedVariables false
theorem gtag_u (sub:Two) (head b:By):U2 (gtag sub head b):=fadd_u _ _
set_option maxHeartbeats 4000000 in
set_option maxRecDepth 100000 in
theorem gseal_ok (p q:Nat->Prop) (key:Two) (n:Nce) (vh vd:Value) (head data:By) (w:World) (hk:U2 key) (hn:n.ok) (hh:HasP p w vh head) (hd:HasP q w vd data) (l1:head.length<=4000) (l2:data.length<=4000):
 Calls Tryz.prog 51 #[pv key,nv n,vh,vd] w fun e w'=>∃v,e=.returned (.tuple #[.agg #[v,.int .u64 (gseal key n head data).2.1,.int .u64 (gseal key n head data).2.2],.bool true])/\OwnB w.heap.size w' v (gseal key n head data).1/\Below w.heap.size w w':=by
 obtain⟨A1,c1,rfl⟩:=hh.slice
 obtain⟨A2,c2,rfl⟩:=hd.slice
 obtain⟨m1,hm1⟩:∃m,m=head.length:=⟨_,rfl⟩
 obtain⟨m2,hm2⟩:∃m,m=data.length:=⟨_,rfl⟩
 rw[<-hm1]at hh l1 ⊢
 rw[<-hm2]at hd l2 ⊢
 have hma:=fun W=>may_ok A1 A2 m1 m2 c1 c2 W l1 l2
 obtain⟨sub,hsub⟩:∃sub,sub=fsub key n:=⟨_,rfl⟩
 have hsu:U2 sub:=by rw[hsub];exact fsub_u key n hk hn
 have hfs:=fun W=>fsub_ok key n W hk hn
 rw[<-hsub]at hfs
 have hby:=fun W=>fbytes_ok sub m2 W hsu l2
 have hfl:=fbytes_len sub m2
 obtain⟨fb,hfb⟩:∃fb,fb=fbytes sub m2:=⟨_,rfl⟩
 rw[<-hfb]at hby hfl
 have hxo:=fun W v (hq:Below w.heap.size w W) (hv:HasP (fun _=>True) W v fb)=>fxor_ok q (fun _=>True) (.slice A2 m2 c2) v data fb W (hd.below_ hq) hv (by rw[hfl,hm2]) (by rw[<-hm2];exact l2)
 obtain⟨ct,hct⟩:∃ct,ct=fxor data fb:=⟨_,rfl⟩
 have hcl:ct.length=m2:=by rw[hct,fxor_len,hfl,hm2];omega
 rw[<-hct]at hxo
 have htg:=fun W v (hq:Below w.heap.size w W) (hv:HasP (fun _=>True) W v ct)=>gtag_ok p (fun _=>True) sub (.slice A1 m1 c1) v head ct W hsu (hh.below_ hq) hv (by rw[<-hm1];exact l1) (by rw[hcl];exact l2)
 have hgs:gseal key n head data=(ct,gtag sub head ct):=by unfold gseal;rw[<-hsub,<-hm2,<-hfb,<-hct]
 rw[hgs]
 simp only
 obtain⟨⟨t0,t1⟩,ht⟩:∃t,t=gtag sub head ct:=⟨_,rfl⟩
 rw[<-ht]at htg ⊢
 obtain⟨s0,s1⟩:=sub
 obtain⟨k0,k1⟩:=key
 obtain⟨ep,sl,ver⟩:=n
 unfold pv nv at hfs
 unfold pv at hby htg
 unfold pv nv
 simp only at hfs htg hby ⊢
 obtain⟨W0,hW0⟩:∃W0,W0=((w.alloc (.cells #[.int .u64 k0,.int .u64 k1] 101)).alloc (.cells #[.int .u32 ep,.int .u32 sl,.int .u64 ver] 99)).alloc (.cells #[.slice none 0 0,.int .u64 0,.int .u64 0] 157):=⟨_,rfl⟩
 have q0:Below w.heap.size w W0:=by rw[hW0];exact(((Below.refl _ _).alloc (Nat.le_refl _) _).alloc (by simp) _).alloc (by simp;omega) _
 have b4:Blk W0 w.heap.size 101 #[.int .u64 k0,.int .u64 k1]:=by rw[hW0];exact((Blk.new w 101 _).alloc _).alloc _
 have b5:Blk W0 (w.heap.size+1) 99 #[.int .u32 ep,.int .u32 sl,.int .u64 ver]:=by
  rw[hW0]
  have:=(Blk.new (w.alloc (.cells #[.int .u64 k0,.int .u64 k1] 101)) 99 #[.int .u32 ep,.int .u32 sl,.int .u64 ver]).alloc (.cells #[.slice none 0 0,.int .u64 0,.int .u64 0] 157)
  rw[World.size_alloc]at this
  exact this
 have b8:Blk W0 (w.heap.size+1+1) 157 #[.slice none 0 0,.int .u64 0,.int .u64 0]:=by
  rw[hW0]
  have:=Blk.new ((w.alloc (.cells #[.int .u64 k0,.int .u64 k1] 101)).alloc (.cells #[.int .u32 ep,.int .u32 sl,.int .u64 ver] 99)) 157 #[.slice none 0 0,.int .u64 0,.int .u64 0]
  rw[World.size_alloc,World.size_alloc]at this
  exact this
 have HW:=Lib.hid hW0
 have HX:=Lib.hid (And.intro hby (And.intro hxo (And.intro htg (And.intro hcl hfl))))
 have H0:=Lib.hid (And.intro q0 b8)
 have d0:=b4.cell_ 0 rfl
 have d1:=b4.cell_ 1 rfl
 have d2:=b5.cell_ 0 rfl
 have d3:=b5.cell_ 1 rfl
 have d4:=b5.cell_ 2 rfl
 have ld4:=b4.lt
 have ld5:=b5.lt
 clear hby hxo htg hcl hfl hW0 q0 b4 b5 b8 hm1 hm2 hh hd hsub hfb hct hgs ht hk hn hsu
 go_enter Tryz.func51,Tryz.ntmps51
 go_wp2_with fail
 rw[<-HW.out]
 refine(hma _).mono ?_
 rintro e w1 ⟨rfl,rfl⟩
 clear hma
 go_wp2_with fail
 refine(hfs _).mono ?_
 rintro e w1 ⟨rfl,q1⟩
 clear hfs d0 d1 d2 d3 d4 ld4 ld5
 obtain⟨q0,b8⟩:=H0.out
 have q01:=q0.trans (q1.mono q0.size)
 have b81:=b8.below_ q1
 obtain⟨W2,hW2⟩:∃W2,W2=w1.alloc (.cells #[.int .u64 s0,.int .u64 s1] 101):=⟨_,rfl⟩
 have q02:Below w.heap.size w W2:=by rw[hW2];exact q01.alloc q01.size _
 have b82:Blk W2 (w.heap.size+1+1) 157 #[.slice none 0 0,.int .u64 0,.int .u64 0]:=by rw[hW2];exact b81.alloc _
 have bs2:Blk W2 w1.heap.size 101 #[.int .u64 s0,.int .u64 s1]:=by rw[hW2];exact Blk.new w1 101 _
 have HW2:=Lib.hid hW2
 have H2:=Lib.hid (And.intro q02 (And.intro b82 bs2))
 clear q0 b8 q01 b81 q1 hW2 q02 b82 bs2
 go_wp2_with fail
 rw[<-HW2.out]
 refine(HX.out.1 _).mono ?_
 rintro e w3 ⟨v3,rfl,h3,q3⟩
 obtain⟨q02,b82,bs2⟩:=H2.out
 have q03:=q02.trans (q3.mono q02.size)
 have b83:=b82.below_ q3
 have bs3:=bs2.below_ q3
 have hx3:=HX.out.2.1 w3 v3 q03 h3.any
 have H3:=Lib.hid (And.intro q03 (And.intro b83 bs3))
 clear q02 b82 bs2 q03 b83 bs3 h3 q3
 go_wp2_with fail
 refine hx3.mono ?_
 rintro e w4 ⟨v4,rfl,o4,q4⟩
 clear hx3
 obtain⟨q03,b83,bs3⟩:=H3.out
 obtain⟨A4,c4,rfl⟩:=o4.has.slice
 have q04:=q03.trans (q4.mono q03.size)
 have b84:=b83.below_ q4
 have bs4:=bs3.below_ q4
 have ht4:=HX.out.2.2.1 w4 _ q04 o4.has.any
 have hct4:=HX.out.2.2.2.1
 have o4w:OwnB w.heap.size w4 (.slice A4 ct.length c4) ct:=o4.weak q03.size
 rw[hct4]at ht4 ⊢
 rw[hct4]at o4w
 have d0:=bs4.cell_ 0 rfl
 have d1:=bs4.cell_ 1 rfl
 have ld:=bs4.lt
 have hne:(Value.slice A4 ct.length c4).ownBlock≠some (w.heap.size+1+1):=fun e=>by have:=(o4.ge e).1;have:=b83.lt;omega
 rw[hct4]at hne
 have H4:=Lib.hid (And.intro q04 (And.intro b84 (And.intro o4w hne)))
 clear q03 b83 bs3 q04 b84 bs4 o4 o4w hct4 q4 hne
 go_wp2_with fail
 refine ht4.mono ?_
 rintro e w5 ⟨rfl,q5⟩
 clear ht4 d0 d1 ld
 obtain⟨q04,b84,o4w,hge⟩:=H4.out
 have q05:=q04.trans (q5.mono q04.size)
 have b85:=b84.below_ q5
 have o5:=o4w.below_ q5
 have f0:=b85.frozen 0
 have f1:=b85.frozen 1
 have f2:=b85.frozen 2
 have e0:=b85.cell_ 0 rfl
 have e1:=b85.cell_ 1 rfl
 have e2:=b85.cell_ 2 rfl
 have le:=b85.lt
 have H5:=Lib.hid (And.intro q05 (And.intro b85 (And.intro o5 hge)))
 clear q04 b84 o4w hge q05 b85 o5 q5
 go_wp2_with fail
 obtain⟨q05,b85,o5,hge⟩:=H5.out
 have hf:=((b85.set_to 0 (.slice A4 m2 c4) (cs':=#[.slice A4 m2 c4,.int .u64 0,.int .u64 0]) rfl).set_to 1 (.int .u64 t0) (cs':=#[.slice A4 m2 c4,.int .u64 t0,.int .u64 0]) rfl).set_to 2 (.int .u64 t1) (cs':=[.slice A4 m2 c4,.int .u64 t0,.int .u64 t1].toArray) rfl
 have hg:=only_set3 w5 (w.heap.size+1+1) (.slice A4 m2 c4) (.int .u64 t0) (.int .u64 t1)
 have hct4:=HX.out.2.2.2.1
 rw[<-hct4]at o5 hge hg hf ⊢
 refine ret_cell_tmp 8 157 9 (by rfl) (w.heap.size+1+1) 0 (by rfl) (.bool true) (by rfl) [.slice A4 ct.length c4,.int .u64 t0,.int .u64 t1] _ hf.range Tryz.underlying157 rfl sz157 rfl ⟨_,rfl,o5.keep (fun k hk hv=>hg.block k hk (fun e=>hge (by rw[hv];exact e))),below_only q05 hg q05.size (by omega)⟩
end Go.Proofs.YtggmdjdflaglpaaGreat
namespace Go.Proofs.YtggmdjdflaglpaaGreat
open Go.RowKit
set_option linter.unusedVariables false
theorem neq_pair (a b c d:Int) (w:World):(binOp .neq 101 (.agg #[.int .u64 a,.int .u64 b]) (.agg #[.int .u64 c,.int .u64 d])).run Tryz.prog w=.ok (.bool (!(a == c&&b == d))) w:=by
 have h:=eqin_pair a b c d w
 have h2:Sem.run Tryz.prog (Op.equal 101 (.agg #[.int .u64 a,.int .u64 b]) (.agg #[.int .u64 c,.int .u64 d])) w=.ok (a == c&&b == d) w:=h
 simp only[binOp]
 rw[Sem.run_bind,h2]
 rfl
theorem s5g {w:World}{g h:Nat}{v x0 x1 s0 s1:Value}(b:Blk w g 157 #[v,x0,x1]) (c:Blk w h 101 #[s0,s1]):w.cell? ⟨g,0,none⟩=some v/\w.cell? ⟨g,1,none⟩=some x0/\w.cell? ⟨g,2,none⟩=some x1/\w.cell? ⟨h,0,none⟩=some s0/\w.cell? ⟨h,1,none⟩=some s1:=⟨b.cell_ 0 rfl,b.cell_ 1 rfl,b.cell_ 2 rfl,c.cell_ 0 rfl,c.cell_ 1 rfl⟩
def GoP (o:Option By) (w:World) (e:Ending) (w':World):Prop:=∃v,e=.returned (.tuple #[v,.bool o.isSome])/\OwnB w.heap.size w' v (o.getD [])/\Below w.heap.size w w'
theorem GoP.no {w w':World}(h:Below w.heap.size w w'):GoP none w (.returned (.tuple #[.slice none 0 0,.bool false])) w':=⟨_,rfl,OwnB.nil _ _,h⟩
theorem GoP.yes {w w':World}{v:Value}{d:By}(h:Below w.heap.size w w') (ho:OwnB w.heap.size w' v d):GoP (some d) w (.returned (.tuple #[v,.bool true])) w':=⟨_,rfl,ho,h⟩
set_option maxHeartbeats 4000000 in
set_option maxRecDepth 100000 in
theorem gopen_ok (p q:Nat->Prop) (key:Two) (n:Nce) (vh vb:Value) (head b:By) (tag:Two) (w:World) (hk:U2 key) (hn:n.ok) (hh:HasP p w vh head) (hd:HasP q w vb b) (l1:head.length<=4000) (l2:b.length<=4000):
 Calls Tryz.prog 52 #[pv key,nv n,vh,.agg #[vb,.int .u64 tag.1,.int .u64 tag.2]] w (GoP (gopen key n head b tag) w):=by
 obtain⟨A1,c1,rfl⟩:=hh.slice
 obtain⟨A2,c2,rfl⟩:=hd.slice
 obtain⟨m1,hm1⟩:∃m,m=head.length:=⟨_,rfl⟩
 obtain⟨m2,hm2⟩:∃m,m=b.length:=⟨_,rfl⟩
 rw[<-hm1]at hh l1 ⊢
 rw[<-hm2]at hd l2 ⊢
 have hma:=fun W=>may_ok A1 A2 m1 m2 c1 c2 W l1 l2
 obtain⟨sub,hsub⟩:∃sub,sub=fsub key n:=⟨_,rfl⟩
 have hsu:U2 sub:=by rw[hsub];exact fsub_u key n hk hn
 have hfs:=fun W=>fsub_ok key n W hk hn
 rw[<-hsub]at hfs
 have hby:=fun W=>fbytes_ok sub m2 W hsu l2
 have hfl:=fbytes_len sub m2
 obtain⟨fb,hfb⟩:∃fb,fb=fbytes sub m2:=⟨_,rfl⟩
 rw[<-hfb]at hby hfl
 have hxo:=fun W v (hq:Below w.heap.size w W) (hv:HasP (fun _=>True) W v fb)=>fxor_ok q (fun _=>True) (.slice A2 m2 c2) v b fb W (hd.below_ hq) hv (by rw[hfl,hm2]) (by rw[<-hm2];exact l2)
 obtain⟨ct,hct⟩:∃ct,ct=fxor b fb:=⟨_,rfl⟩
 have hcl:ct.length=m2:=by rw[hct,fxor_len,hfl,hm2];omega
 rw[<-hct]at hxo
 have htg:=fun W (hq:Below w.heap.size w W)=>gtag_ok p q sub (.slice A1 m1 c1) (.slice A2 m2 c2) head b W hsu (hh.below_ hq) (hd.below_ hq) (by rw[<-hm1];exact l1) (by rw[<-hm2];exact l2)
 have hgs:gopen key n head b tag=if gtag sub head b=tag then some ct else none:=by unfold gopen;rw[<-hsub,<-hm2,<-hfb,<-hct]
 rw[hgs]
 obtain⟨⟨t0,t1⟩,ht⟩:∃t,t=gtag sub head b:=⟨_,rfl⟩
 rw[<-ht]at htg ⊢
 obtain⟨x0,x1⟩:=tag
 have hnq:=fun W=>neq_pair t0 t1 x0 x1 W
 obtain⟨bb,hbb⟩:∃bb,bb=(!(t0 == x0&&t1 == x1)):=⟨_,rfl⟩
 rw[<-hbb]at hnq
 have hcase:(if((t0,t1):Two)=(x0,x1)then some ct else none)=if bb=true then none else some ct:=by
  rw[hbb]
  by_cases e0:t0=x0<;>by_cases e1:t1=x1<;>simp[e0,e1]
 rw[hcase]
 obtain⟨R,hR⟩:∃R,R=if bb=true then none else some ct:=⟨_,rfl⟩
 rw[<-hR]
 have HR:=Lib.hid hR
 clear hR
 obtain⟨s0,s1⟩:=sub
 obtain⟨k0,k1⟩:=key
 obtain⟨ep,sl,ver⟩:=n
 unfold pv nv at hfs
 unfold pv at hby htg
 unfold pv nv
 simp only at hfs htg hby ⊢
 obtain⟨W0,hW0⟩:∃W0,W0=((w.alloc (.cells #[.int .u64 k0,.int .u64 k1] 101)).alloc (.cells #[.int .u32 ep,.int .u32 sl,.int .u64 ver] 99)).alloc (.cells #[.slice A2 m2 c2,.int .u64 x0,.int .u64 x1] 157):=⟨_,rfl⟩
 have q0:Below w.heap.size w W0:=by rw[hW0];exact(((Below.refl _ _).alloc (Nat.le_refl _) _).alloc (by simp) _).alloc (by simp;omega) _
 have b4:Blk W0 w.heap.size 101 #[.int .u64 k0,.int .u64 k1]:=by rw[hW0];exact((Blk.new w 101 _).alloc _).alloc _
 have b5:Blk W0 (w.heap.size+1) 99 #[.int .u32 ep,.int .u32 sl,.int .u64 ver]:=by
  rw[hW0]
  have:=(Blk.new (w.alloc (.cells #[.int .u64 k0,.int .u64 k1] 101)) 99 #[.int .u32 ep,.int .u32 sl,.int .u64 ver]).alloc (.cells #[.slice A2 m2 c2,.int .u64 x0,.int .u64 x1] 157)
  rw[World.size_alloc]at this
  exact this
 have b8:Blk W0 (w.heap.size+1+1) 157 #[.slice A2 m2 c2,.int .u64 x0,.int .u64 x1]:=by
  rw[hW0]
  have:=Blk.new ((w.alloc (.cells #[.int .u64 k0,.int .u64 k1] 101)).alloc (.cells #[.int .u32 ep,.int .u32 sl,.int .u64 ver] 99)) 157 #[.slice A2 m2 c2,.int .u64 x0,.int .u64 x1]
  rw[World.size_alloc,World.size_alloc]at this
  exact this
 have HW:=Lib.hid hW0
 have HX:=Lib.hid (And.intro hby (And.intro hxo (And.intro htg (And.intro hcl hfl))))
 have H0:=Lib.hid (And.intro q0 b8)
 have d0:=b4.cell_ 0 rfl
 have d1:=b4.cell_ 1 rfl
 have d2:=b5.cell_ 0 rfl
 have d3:=b5.cell_ 1 rfl
 have d4:=b5.cell_ 2 rfl
 have ld4:=b4.lt
 have ld5:=b5.lt
 clear hby hxo htg hcl hfl hW0 q0 b4 b5 b8 hm1 hm2 hh hd hsub hfb hct hgs ht hk hn hsu hcase hbb
 go_enter Tryz.func52,Tryz.ntmps52
 go_wp2_with fail
 rw[<-HW.out]
 refine(hfs _).mono ?_
 rintro e w1 ⟨rfl,q1⟩
 clear hfs d0 d1 d2 d3 d4 ld4 ld5
 obtain⟨q0,b8⟩:=H0.out
 have q01:=q0.trans (q1.mono q0.size)
 have b81:=b8.below_ q1
 obtain⟨W2,hW2⟩:∃W2,W2=w1.alloc (.cells #[.int .u64 s0,.int .u64 s1] 101):=⟨_,rfl⟩
 have q02:Below w.heap.size w W2.drew:=by rw[hW2];exact(q01.alloc q01.size _).drew
 have b82:Blk W2.drew (w.heap.size+1+1) 157 #[.slice A2 m2 c2,.int .u64 x0,.int .u64 x1]:=by rw[hW2];exact(b81.alloc _).drew
 have bs2:Blk W2.drew w1.heap.size 101 #[.int .u64 s0,.int .u64 s1]:=by rw[hW2];exact(Blk.new w1 101 _).drew
 have HW2:=Lib.hid hW2
 clear q0 b8 q01 b81 q1 hW2
 go_wp2_with fail
 rw[<-HW2.out]
 go_region_held3 (fun w'=>w'.cell? ⟨w.heap.size+1+1,0,none⟩=some (.slice A2 m2 c2)/\w'.cell? ⟨w.heap.size+1+1,1,none⟩=some (.int .u64 x0)/\w'.cell? ⟨w.heap.size+1+1,2,none⟩=some (.int .u64 x1)/\w'.cell? ⟨w1.heap.size,0,none⟩=some (.int .u64 s0)/\w'.cell? ⟨w1.heap.size,1,none⟩=some (.int .u64 s1))
  (with_reducible exact s5g b82 bs2)
  (first
   |(go_at_call 81;refine(hma _).mono ?_;rintro e w3 ⟨rfl,rfl⟩)
   |(go_at_call 85;refine(HX.out.2.2.1 _ q02).mono ?_;rintro e w4 ⟨rfl,q4⟩;replace b82:=b82.below_ q4;replace bs2:=bs2.below_ q4;replace q02:=q02.trans (q4.mono q02.size))
   |fail)
 cases bb with
 |true=>
  have HE:=Lib.hid q02
  clear b82 bs2 q02 q4
  go_wp2_with fail
  go_ret2
  have hRn:R=none:=by have h:=HR.out;simpa using h
  rw[hRn]
  exact GoP.no HE.out
 |false=>
  replace b82:=b82.drew
  replace bs2:=bs2.drew
  replace q02:=q02.drew
  clear q4
  go_wp2_with fail
  go_region_held3 (fun w'=>w'.cell? ⟨w.heap.size+1+1,0,none⟩=some (.slice A2 m2 c2)/\w'.cell? ⟨w.heap.size+1+1,1,none⟩=some (.int .u64 x0)/\w'.cell? ⟨w.heap.size+1+1,2,none⟩=some (.int .u64 x1)/\w'.cell? ⟨w1.heap.size,0,none⟩=some (.int .u64 s0)/\w'.cell? ⟨w1.heap.size,1,none⟩=some (.int .u64 s1))
   (with_reducible exact s5g b82 bs2)
   (first
    |(go_at_call 84;refine(HX.out.1 _).mono ?_;rintro e w5 ⟨v5,rfl,h5,q5⟩;replace b82:=b82.below_ q5;replace bs2:=bs2.below_ q5;replace q02:=q02.trans (q5.mono q02.size))
    |(go_at_call 83;refine(HX.out.2.1 _ _ q02 h5.any).mono ?_;rintro e w6 ⟨v6,rfl,o6,q6⟩;have o7:=o6.weak q02.size;replace b82:=b82.below_ q6;replace bs2:=bs2.below_ q6;replace q02:=q02.trans (q6.mono q02.size))
    |fail)
  have HE:=Lib.hid (And.intro q02 o7)
  clear b82 bs2 q02 q5 q6 o6 o7 h5
  go_wp2_with fail
  go_ret2
  have hRn:R=some ct:=by have h:=HR.out;simpa using h
  rw[hRn]
  exact GoP.yes HE.out.1 HE.out.2
end Go.Proofs.YtggmdjdflaglpaaGreat
