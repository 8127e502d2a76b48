/- wire.Cut: bytes in rows of some sizes. Numbers out of bytes, back; rows that were put together are cut again (no walk). leaf.Get: bytes as a slot's leaf. root.Get, GetRec: bytes as a root, as a sealed root. flow: Sub, Xor, Bytes. -/
import Derived.Test.YtggmdjdflaglpaaGreatR21
import Derived.Test.YtggmdjdflaglpaaGreatR23
import Derived.Test.YtggmdjdflaglpaaGreatR05
import Derived.Maps.AppendAt
import Derived.Test.YtggmdjdflaglpaaGreatR22
import Derived.Test.YtggmdjdflaglpaaGreatR16
namespace Go.Proofs.YtggmdjdflaglpaaGreat
open Go.RowKit
set_option linter.unusedVariables false
def cutS (Z:List Nat) (i:Nat):Nat:=(Z.take i).sum
def cutAt (b:By) (Z:List Nat) (i:Nat):By:=(b.drop (cutS Z i)).take (Z.getD i 0)
theorem cutS_succ {Z:List Nat}{i n:Nat}(h:Z[i]? =some n):cutS Z (i+1)=cutS Z i+n:=by
 unfold cutS
 rw[List.take_add_one,h]
 simp
theorem cutS_le (Z:List Nat) (i:Nat):cutS Z i<=Z.sum:=by
 unfold cutS
 conv=>rhs;rw[<-List.take_append_drop i Z]
 rw[List.sum_append]
 omega
theorem cutS_all (Z:List Nat):cutS Z Z.length=Z.sum:=by unfold cutS;rw[List.take_length]
theorem cutAt_len {b:By}{Z:List Nat}(hs:Z.sum=b.length) {i n:Nat}(h:Z[i]? =some n):(cutAt b Z i).length=n:=by
 have h1:=cutS_le Z (i+1)
 rw[cutS_succ h]at h1
 unfold cutAt
 rw[List.length_take,List.length_drop,List.getD_eq_getElem?_getD,h]
 simp
 omega
def CutR (B:Nat) (w:World) (v:Value) (b:By) (Z:List Nat) (i:Nat):Prop:=
 ∃xs:List Value,w.ownsRow B 32 1 v i xs/\xs.length=i/\∀(j:Nat) (x:Value),xs[j]? =some x->HasP (fun g=>B<=g/\v.ownBlock≠some g) w x (cutAt b Z j)
theorem row_lo {B:Nat}{e:TypeId}{z n:Nat}{w:World}{v:Value}{xs:List Value}(h:w.ownsRow B e z v n xs) {j:Nat}(hj:v.ownBlock=some j):B<=j:=by
 rcases h.2 with⟨rfl,_⟩|⟨r,c,cur,rfl,a2,a3,_⟩
 ·simp[Value.ownBlock]at hj
 ·simp[Value.ownBlock]at hj
  subst hj
  exact a2
set_option maxHeartbeats 2000000 in
set_option maxRecDepth 100000 in
theorem cut_ok (p:Nat->Prop) (v:Value) (b:By) (Z:List Nat) (bs zc:Nat) (w:World) (h:HasP p w v b) (hsum:Z.sum=b.length) (hb1:b.length<=1000) (hb0:b≠[]) (hz0:∀n∈Z,1<=n) (hzl:Z.length<=10) (hzb:bs<w.heap.size)
 (hzs:∀(j n:Nat),Z[j]? =some n->w.cell? ⟨bs,j,none⟩=some (.int .i64 n)):
 Calls Tryz.prog 141 #[v,.slice (some ⟨bs,0,none⟩) Z.length zc] w fun e w'=>∃v',e=.returned (.tuple #[v',.bool true])/\CutR w.heap.size w' v' b Z Z.length/\Below w.heap.size w w':=by
 obtain⟨bb,o,cap,rfl,_,hb,hc1,hc2,hc⟩:=h.spot hb0
 obtain⟨i0,hi,hi0,hi1,hi2⟩:=info_parts info32
 obtain⟨N,hN⟩:∃N,N=b.length:=⟨_,rfl⟩
 rw[<-hN]at hc1 hb1 hsum ⊢
 have H:=Lib.hid (And.intro hN (And.intro hc (And.intro hz0 (And.intro hzs hsum))))
 have hcap:cap<=9223372036854775807:=by unfold maxLen at hc2;omega
 obtain⟨k,hk⟩:∃k,k=Z.length:=⟨_,rfl⟩
 rw[<-hk]at hzl ⊢
 have HK:=Lib.hid hk
 clear h hN hc hz0 hzs hsum hc2 hk hb0
 go_enter Tryz.func141,Tryz.ntmps141
 go_wp2_with fail
 go_loopw [0,6,12] (fun t r x wr=>∃(i s o':Nat) (V:Value),V=r/\x=.int .i64 i/\i<=k/\s=cutS Z i/\(s<cap->o'=o+s)/\t=.slice (some ⟨bb,o',none⟩) (N-s) (cap-s)/\CutR w.heap.size wr V b Z i/\Below w.heap.size w wr) (fun _ _ x _=>k-(intOf x).toNat)
 case atStart=>exact⟨0,0,o,_,rfl,rfl,by omega,rfl,fun _=>rfl,rfl,⟨[],World.ownsRow_lit w #[] 0 (Nat.le_refl _) (by unfold maxLen;omega) rfl,rfl,fun j x hx=>by simp at hx⟩,(Below.refl _ w).alloc (Nat.le_refl _) _⟩
 case round=>
  obtain⟨i,s,o',V,rfl,rfl,hik,hs,hoo,rfl,⟨xs,hrow,hxl,hxs⟩,hq⟩:=hrel
  obtain⟨A,cp,hV⟩:∃A cp,V=.slice A i cp:=row_form hrow
  subst hV
  obtain⟨hN,hc,hz0,hzs,hsum⟩:=H.out
  have hk:=HK.out
  by_cases hlt:i<k
  ·obtain⟨n,hn⟩:∃n,Z[i]? =some n:=⟨_,List.getElem?_eq_getElem (by omega)⟩
   have hn1:=hz0 n (List.mem_of_getElem? hn)
   have hs1:=cutS_le Z (i+1)
   rw[cutS_succ hn,<-hs]at hs1
   have hsn:s+n<=N:=by omega
   have ho':=hoo (by omega)
   subst ho'
   have hnz:=(hq.cell (p:=⟨bs,i,none⟩) hzb).trans (hzs i n hn)
   have hcl:(cutAt b Z i).length=n:=cutAt_len (by omega) hn
   obtain⟨K,hK⟩:∃K,K=cap-s:=⟨_,rfl⟩
   obtain⟨M,hM⟩:∃M,M=N-s:=⟨_,rfl⟩
   rw[<-hK,<-hM]
   have hp:HasP (fun _=>True) wr (.slice (some ⟨bb,o+s,none⟩) n K) (cutAt b Z i):=by
    refine .inr ⟨bb,o+s,K,by rw[hcl],trivial,by have:=hq.size;omega,by omega,by unfold maxLen;omega,fun j u hj=>?_⟩
    unfold cutAt at hj
    rw[List.getElem?_take]at hj
    split at hj
    ·rw[List.getElem?_drop,<-hs]at hj
     rw[Nat.add_assoc]
     exact(hq.cell (p:=⟨bb,o+(s+j),none⟩) hb).trans (hc _ u hj)
    ·cases hj
   have hclo:=clone_ok (fun _=>True) _ (cutAt b Z i) wr hp (by omega)
   have k1:(n:Int)<=(M:Int):=by omega
   have k2:(M:Int)<=(K:Int):=by omega
   have k3:(0:Int)<=(n:Int):=by omega
   have k4:K<=9223372036854775807:=by omega
   have k5:¬((M:Int)<(n:Int)):=by omega
   have k6:(i:Int)<(k:Int):=by omega
   have k7:(0:Int)<=(i:Int):=by omega
   have k8:0<n:=hn1
   have hqs:=hq.size
   have HVR:=Lib.hid (fun g hg=>row_lt hrow hg:∀g,(Value.slice A i cp).ownBlock=some g->g<wr.heap.size)
   have HS:=Lib.hid (And.intro hs (And.intro hoo (And.intro hxl (And.intro hxs (And.intro hq (And.intro hn (And.intro hs1 (And.intro hcl (And.intro hK hM)))))))))
   clear hs hoo hxl hxs hq hn hs1 hcl hK hM hp hN hc hz0 hzs hsum hk hn1
   have HNC:=Lib.hid (And.intro k1 k2)
   go_wp2_with (first
    |(at_builtin;refine wpList_append_own_at _ rfl _ _ 57 rfl w.heap.size 32 i0 (.slice none 0 0) 1 24 Tryz.underlying57 hi hi0 hi1 hi2 rfl (by decide) _ _ _ rfl (World.ownsRow.alloc hr1 _) ⟨w1.heap.size,0,none⟩ 1 1 [.slice A1 n c1] rfl rfl (fun j u hj=>by rw[add_plain,Nat.zero_add];exact(Blk.new w1 32 #[.slice A1 n c1]).cell_ j (by simpa using hj)) (fun u hu=>by simp at hu;subst hu;rfl) (by unfold maxLen;omega) (by omega) (by simp;omega) ?_;intro v3 w3 hown3 hgrow3 hnil3 hob3;obtain⟨A3,c3,rfl⟩:=row_form hown3)
    |(go_at_call 49;refine hclo.mono ?_;rintro e w1 ⟨v1,rfl,o1,l1⟩;clear hclo;have hl:=HS.out.2.2.2.2.2.2.2.1;have o2:w1.ownsRow wr.heap.size 5 1 v1 n (bvals (cutAt b Z i)):=(by rw[<-hl];exact o1);obtain⟨A1,c1,rfl⟩:=row_form o2;have hr1:=row_keep hrow (fun b h1 _=>l1.block b h1);have s1:=l1.size;have HO:=Lib.hid (And.intro o2 l1);clear o1 o2 l1 hl hrow))
   obtain⟨hs,hoo,hxl,hxs,hq,hn,hs1,hcl,hK,hM⟩:=HS.out
   obtain⟨o2,l1⟩:=HO.out
   have hk:=HK.out
   have oB:OwnB wr.heap.size w1 (.slice A1 n c1) (cutAt b Z i):=OwnB.of o2 hcl.symm rfl
   have hq1:Below w.heap.size w (w1.alloc (.cells #[.slice A1 n c1] 32)):=(hq.trans (l1.mono hqs)).alloc (by omega) _
   have hq3:Below w.heap.size w w3:=hq1.grown hgrow3 hq1.size (fun g hg=>(row_lo hr1 hg))
   have hV:∀g,(Value.slice A i cp).ownBlock=some g->g<w1.heap.size:=fun g hg=>row_lt hr1 hg
   have hVr:∀g,(Value.slice A i cp).ownBlock=some g->g<wr.heap.size:=HVR.out
   refine⟨⟨i+1,s+n,if K=n then o+s else o+s+n,_,rfl,by go_num,by omega,by rw[cutS_succ hn,<-hs],fun hlt=>?_,?_,⟨xs++[.slice A1 n c1],hown3,by rw[List.length_append,hxl];rfl,fun j x hj=>?_⟩,hq3⟩,by simp[intOf];omega⟩
   ·rw[if_neg (by omega)];omega
   ·rw[show N-(s+n)=M-n by omega,show cap-(s+n)=K-n by omega]
    split<;>rfl
   ·by_cases c:j<xs.length
    ·rw[List.getElem?_append_left c]at hj
     have h1:=((hxs j x hj).weakB (q:=fun g=>(w.heap.size<=g/\(Value.slice A i cp).ownBlock≠some g)/\g<wr.heap.size) (fun g hg e=>⟨e,hg⟩)).below_ l1
     have h2:=(h1.alloc (.cells #[.slice A1 n c1] 32)).keep hgrow3.size (fun g hg e=>hgrow3.block g hg (fun q=>e.1.2 q.symm))
     refine h2.weak (fun g e=>⟨e.1.1,fun q=>?_⟩)
     rcases hob3 with r|r
     ·exact e.1.2 (r▸q)
     ·rw[r]at q
      injection q with q
      rw[World.size_alloc]at q
      omega
    ·have hjl:=(List.getElem?_eq_some_iff.1 hj).1
     rw[List.length_append,List.length_singleton]at hjl
     obtain rfl:j=i:=by omega
     rw[List.getElem?_append_right (by omega),hxl,Nat.sub_self]at hj
     simp at hj
     subst hj
     have h1:=oB.has.weakB (q:=fun g=>wr.heap.size<=g/\g<w1.heap.size) (fun g hg e=>⟨e,hg⟩)
     have h2:=(h1.alloc (.cells #[.slice A1 n c1] 32)).keep hgrow3.size (fun g hg e=>hgrow3.block g hg (fun q=>by have:=hVr g q.symm;omega))
     refine h2.weak (fun g e=>⟨by omega,fun q=>?_⟩)
     rcases hob3 with r|r
     ·have:=hVr g (r▸q);omega
     ·rw[r]at q
      injection q with q
      rw[World.size_alloc]at q
      omega
  ·obtain rfl:i=k:=by omega
   have hs2:s=N:=by rw[hs,hk,cutS_all];exact hsum
   have hz:N-s=0:=by omega
   rw[hz]
   have HF:=Lib.hid (And.intro hrow (And.intro hxl (And.intro hxs hq)))
   clear hrow hxl hxs hq hN hc hz0 hzs hsum hk hs hoo hs2 hz
   go_wp2_with fail
   go_ret2
   obtain⟨hrow,hxl,hxs,hq⟩:=HF.out
   exact⟨_,rfl,⟨xs,hrow,hxl,hxs⟩,hq⟩
end Go.Proofs.YtggmdjdflaglpaaGreat
namespace Go.Proofs.YtggmdjdflaglpaaGreat
open Go.RowKit
set_option linter.unusedVariables false
theorem byteOf_last (v:Int) (n i:Nat) (hi:i<n):byteOf v (n+1) i=byteOf (v / 256) n i:=by
 unfold byteOf
 congr 2
 by_cases h:0<=v
 ·obtain⟨m,rfl⟩:=Int.eq_ofNat_of_zero_le h
  have e:((m:Int) / 256).toNat=m / 256:=by omega
  rw[e,Int.toNat_natCast,Nat.div_div_eq_div_mul]
  congr 1
  have:8*(n+1-1-i)=8+8*(n-1-i):=by omega
  rw[this,Nat.pow_add]
 ·have e1:v.toNat=0:=by omega
  have e2:(v / 256).toNat=0:=by omega
  rw[e1,e2]
  simp
theorem putB_succ (v:Int) (n:Nat) (h:0<=v):putB v (n+1)=putB (v / 256) n++[byteOf v (n+1) n]:=by
 unfold putB
 rw[List.range_succ,List.map_append]
 congr 1
 exact List.map_congr_left fun j hj=>byteOf_last v n j (List.mem_range.1 hj)
theorem be_putB:∀(n:Nat) (v:Int),0<=v->v<256^n->be (putB v n)=v
 |0,v,h0,h1=>by
  simp at h1
  have:v=0:=by omega
  rw[this];rfl
 |n+1,v,h0,h1=>by
  rw[putB_succ v n h0,be_snoc,be_putB n (v / 256) (by omega) (by rw[Int.pow_succ]at h1;omega),byteOf_int v (n+1) n h0]
  simp
  omega
theorem be_put1 {v:Int}(h0:0<=v) (h1:v<256):be (putB v 1)=v:=be_putB 1 v h0 (by omega)
theorem be_put2 {v:Int}(h0:0<=v) (h1:v<65536):be (putB v 2)=v:=be_putB 2 v h0 (by omega)
theorem be_put4 {v:Int}(h0:0<=v) (h1:v<4294967296):be (putB v 4)=v:=be_putB 4 v h0 (by omega)
theorem be_put8 {v:Int}(h0:0<=v) (h1:v<18446744073709551616):be (putB v 8)=v:=be_putB 8 v h0 (by omega)
theorem pairOf_pairB {a b:Int}(ha:U64 a) (hb:U64 b):pairOf (pairB a b)=(a,b):=by
 unfold pairOf pairB
 have h8:(putB a 8).length=8:=putB_len _ _
 rw[List.take_left' h8,List.drop_left' h8,be_put8 ha.1 ha.2,be_put8 hb.1 hb.2]
theorem cut_flat:∀(Ls:List By) (j:Nat) (l:By),Ls[j]? =some l->cutAt Ls.flatten (Ls.map List.length) j=l
 |[],j,l,h=>by simp at h
 |a::Ls,0,l,h=>by
  simp at h
  subst h
  simp[cutAt,cutS]
 |a::Ls,j+1,l,h=>by
  have ih:=cut_flat Ls j l (by simpa using h)
  unfold cutAt cutS at ih ⊢
  simp only[List.flatten_cons,List.map_cons,List.take_succ_cons,List.sum_cons,List.getD_cons_succ]
  rw[<-List.drop_drop,List.drop_left]
  exact ih
theorem sum_flat (Ls:List By):(Ls.map List.length).sum=Ls.flatten.length:=by rw[List.length_flatten]
theorem CutR.spot {B:Nat}{w:World}{v:Value}{b:By}{Z:List Nat}{n:Nat}(h:CutR B w v b Z n) (hn:0<n):
 ∃r c,v=.slice (some ⟨r,0,none⟩) n c/\B<=r/\r<w.heap.size/\n<=c/\c<=maxLen/\∀j,j<n->∃x,w.cell? ⟨r,j,none⟩=some x/\HasP (fun g=>B<=g) w x (cutAt b Z j):=by
 obtain⟨xs,hrow,hl,hxs⟩:=h
 have hrow':=hrow
 rcases hrow'.2 with⟨_,h0⟩|⟨r,c,cur,rfl,a2,a3,a4,a5,a6,a7⟩
 ·omega
 ·refine⟨r,c,rfl,a2,(Array.getElem?_eq_some_iff.1 a3).1,a4,a5,fun j hj=>?_⟩
  obtain⟨x,hx⟩:∃x,xs[j]? =some x:=⟨_,List.getElem?_eq_getElem (by omega)⟩
  refine⟨x,?_,(hxs j x hx).weak (fun g e=>e.1)⟩
  rw[cell_of_row w r j cur 32 (0,0) a3]
  have e:(cur.toList.take (n*1))[j]? =some x:=by rw[a7];exact hx
  rw[List.getElem?_take,if_pos (by omega)]at e
  simpa using e
end Go.Proofs.YtggmdjdflaglpaaGreat
namespace Go.Proofs.YtggmdjdflaglpaaGreat
open Go.RowKit
set_option linter.unusedVariables false
def leafRows (l:Lf):List By:=[putB l.kind 1,putB (bi l.dirty) 1,putB l.lba 2,putB l.n.ep 4,putB l.n.ver 8,pairB l.tag.1 l.tag.2]
theorem leafRows_flat (l:Lf):(leafRows l).flatten=leafB l:=by simp[leafRows,leafB]
theorem leafRows_len (l:Lf):(leafRows l).map List.length=[1,1,2,4,8,16]:=by simp[leafRows,putB_len,pairB_len]
theorem leaf_cut (l:Lf) (j:Nat) (r:By) (h:(leafRows l)[j]? =some r):cutAt (leafB l) [1,1,2,4,8,16] j=r:=by
 rw[<-leafRows_flat,<-leafRows_len l]
 exact cut_flat _ j r h
def leafN (l:Lf):List Int:=[l.kind,bi l.dirty,l.lba,l.n.ep,l.n.ver]
def leafNB (l:Lf) (j:Nat):By:=(leafRows l).getD j []
def ncells (L:List Int) (i:Nat):List Value:=(List.range 5).map (fun k=>if k<i then .int .u64 (L.getD k 0)else .int .u64 0)
theorem leafN_at (l:Lf) {i:Nat}(hl:l.ok i) (j:Nat) (hj:j<5):∃pc,(leafRows l)[j]? =some pc/\0<pc.length/\pc.length<=8/\be pc=(leafN l).getD j 0:=by
 obtain⟨hk,hb,⟨⟨he0,he1⟩,hs,hv0,hv1⟩,ht⟩:=hl.bd
 rcases j with _|_|_|_|_|j
 ·exact⟨_,rfl,by rw[putB_len];decide,by rw[putB_len];decide,be_put1 (by omega) (by omega)⟩
 ·exact⟨_,rfl,by rw[putB_len];decide,by rw[putB_len];decide,be_put1 (by unfold bi;split<;>decide) (by unfold bi;split<;>decide)⟩
 ·exact⟨_,rfl,by rw[putB_len];decide,by rw[putB_len];decide,be_put2 (by omega) (by omega)⟩
 ·exact⟨_,rfl,by rw[putB_len];decide,by rw[putB_len];decide,be_put4 he0 he1⟩
 ·exact⟨_,rfl,by rw[putB_len];decide,by rw[putB_len];decide,be_put8 hv0 hv1⟩
 ·omega
theorem ncells_set (L:List Int) (j:Nat) (hj:j<5):(ncells L j).toArray.setIfInBounds j (.int .u64 (L.getD j 0))=(ncells L (j+1)).toArray:=by
 rw[List.setIfInBounds_toArray]
 congr 1
 rcases j with _|_|_|_|_|j
 ·rfl
 ·rfl
 ·rfl
 ·rfl
 ·rfl
 ·omega
theorem set8 {w:World}{g t:Nat}{x0 x1 x2 x3 x4 x5 x6 x7:Value}(h:Blk w g t #[x0,x1,x2,x3,x4,x5,x6,x7]) (y0 y1 y2 y3 y4 y5 y6 y7:Value):
 Blk ((((((((w.setCell ⟨g,0,none⟩ y0).setCell ⟨g,1,none⟩ y1).setCell ⟨g,2,none⟩ y2).setCell ⟨g,3,none⟩ y3).setCell ⟨g,4,none⟩ y4).setCell ⟨g,5,none⟩ y5).setCell ⟨g,6,none⟩ y6).setCell ⟨g,7,none⟩ y7) g t [y0,y1,y2,y3,y4,y5,y6,y7].toArray/\
 w.grownBy ((((((((w.setCell ⟨g,0,none⟩ y0).setCell ⟨g,1,none⟩ y1).setCell ⟨g,2,none⟩ y2).setCell ⟨g,3,none⟩ y3).setCell ⟨g,4,none⟩ y4).setCell ⟨g,5,none⟩ y5).setCell ⟨g,6,none⟩ y6).setCell ⟨g,7,none⟩ y7) (some g):=by
 have a1:=h.set_to 0 y0 (cs':=#[y0,x1,x2,x3,x4,x5,x6,x7]) rfl
 have a2:=a1.set_to 1 y1 (cs':=#[y0,y1,x2,x3,x4,x5,x6,x7]) rfl
 have a3:=a2.set_to 2 y2 (cs':=#[y0,y1,y2,x3,x4,x5,x6,x7]) rfl
 have a4:=a3.set_to 3 y3 (cs':=#[y0,y1,y2,y3,x4,x5,x6,x7]) rfl
 have a5:=a4.set_to 4 y4 (cs':=#[y0,y1,y2,y3,y4,x5,x6,x7]) rfl
 have a6:=a5.set_to 5 y5 (cs':=#[y0,y1,y2,y3,y4,y5,x6,x7]) rfl
 have a7:=a6.set_to 6 y6 (cs':=#[y0,y1,y2,y3,y4,y5,y6,x7]) rfl
 have a8:=a7.set_to 7 y7 (cs':=[y0,y1,y2,y3,y4,y5,y6,y7].toArray) rfl
 have o1:=only_set1 w g 0 y0
 have o2:=only_trans o1 (only_set1 _ g 1 y1)
 have o3:=only_trans o2 (only_set1 _ g 2 y2)
 have o4:=only_trans o3 (only_set1 _ g 3 y3)
 have o5:=only_trans o4 (only_set1 _ g 4 y4)
 have o6:=only_trans o5 (only_set1 _ g 5 y5)
 have o7:=only_trans o6 (only_set1 _ g 6 y6)
 have o8:=only_trans o7 (only_set1 _ g 7 y7)
 exact⟨a8,o8⟩
theorem k3n {w:World}{g:Nat}{K D B E T:Value}(b:Blk w g 226 #[K,D,B,E,T]):w.cell? ⟨g,0,none⟩=some K/\w.cell? ⟨g,1,none⟩=some D/\w.cell? ⟨g,2,none⟩=some B:=⟨b.cell_ 0 rfl,b.cell_ 1 rfl,b.cell_ 2 rfl⟩
theorem k2n {w:World}{g:Nat}{K D B E T:Value}(b:Blk w g 226 #[K,D,B,E,T]):w.cell? ⟨g,3,none⟩=some E/\w.cell? ⟨g,4,none⟩=some T:=⟨b.cell_ 3 rfl,b.cell_ 4 rfl⟩
set_option maxHeartbeats 4000000 in
set_option maxRecDepth 100000 in
theorem lget_ok (p:Nat->Prop) (v:Value) (l:Lf) (i:Nat) (hi:i<16) (hl:l.ok i) (w:World) (h:HasP p w v (leafB l)):
 Calls Tryz.prog 102 #[v,.int .i64 i] w fun e w'=>e=.returned (.tuple #[lfv l,.bool true])/\Below w.heap.size w w':=by
 have hcut:=fun W bs zc hq hz=>cut_ok p v (leafB l) [1,1,2,4,8,16] bs zc W (h.below_ (w':=W) hq) (by rw[leafB_len];rfl) (by rw[leafB_len];omega) (fun e=>by have:=leafB_len l;rw[e]at this;simp at this) (by decide) (by decide) hz
 obtain⟨A,cp,hv⟩:=h.slice
 rw[leafB_len]at hv
 subst hv
 obtain⟨W1,hW1⟩:∃W1,W1=(w.alloc (.cells #[.int .i64 0,.bool false,.int .i64 0,.int .u32 0,.int .u32 0,.int .u64 0,.int .u64 0,.int .u64 0] 103)).alloc (.cells #[.int .i64 1,.int .i64 1,.int .i64 2,.int .i64 4,.int .i64 8,.int .i64 16] 3):=⟨_,rfl⟩
 have q1:Below w.heap.size w W1:=by rw[hW1];exact((Below.refl _ _).alloc (Nat.le_refl _) _).alloc (by simp) _
 have b4:Blk W1 w.heap.size 103 #[.int .i64 0,.bool false,.int .i64 0,.int .u32 0,.int .u32 0,.int .u64 0,.int .u64 0,.int .u64 0]:=by rw[hW1];exact(Blk.new w 103 _).alloc _
 have bz:Blk W1 (w.heap.size+1) 3 #[.int .i64 1,.int .i64 1,.int .i64 2,.int .i64 4,.int .i64 8,.int .i64 16]:=by
  have:=Blk.new (w.alloc (.cells #[.int .i64 0,.bool false,.int .i64 0,.int .u32 0,.int .u32 0,.int .u64 0,.int .u64 0,.int .u64 0] 103)) 3 #[.int .i64 1,.int .i64 1,.int .i64 2,.int .i64 4,.int .i64 8,.int .i64 16]
  rw[World.size_alloc]at this
  rw[hW1];exact this
 have hcut1:=hcut W1 (w.heap.size+1) 6 q1 bz.lt (fun j n hj=>bz.cell_ j (by
  rcases j with _|_|_|_|_|_|j<;>simp at hj<;>subst hj<;>rfl))
 have H1:=Lib.hid (And.intro q1 b4)
 clear hcut q1 b4 bz
 go_enter Tryz.func102,Tryz.ntmps102
 go_wp2_with fail
 rw[<-hW1]
 clear hW1
 refine hcut1.mono ?_
 rintro e w2 ⟨V,rfl,hR,q2⟩
 clear hcut1
 have hR6:CutR W1.heap.size w2 V (leafB l) [1,1,2,4,8,16] 6:=hR
 obtain⟨r,c,rfl,hr1,hr2,hc6,hcm,hx⟩:=hR6.spot (by decide)
 have hc63:c<=9223372036854775807:=by unfold maxLen at hcm;omega
 have b5:∀W:World,Blk ((W.alloc (.cells #[.int .i64 0,.bool false,.int .i64 0,.int .u32 0,.int .u32 0,.int .u64 0,.int .u64 0,.int .u64 0] 103)).alloc (.cells #[.int .u64 0,.int .u64 0,.int .u64 0,.int .u64 0,.int .u64 0] 226)) (W.heap.size+1) 226 (ncells (leafN l) 0).toArray:=fun W=>by
  have:=Blk.new (W.alloc (.cells #[.int .i64 0,.bool false,.int .i64 0,.int .u32 0,.int .u32 0,.int .u64 0,.int .u64 0,.int .u64 0] 103)) 226 #[.int .u64 0,.int .u64 0,.int .u64 0,.int .u64 0,.int .u64 0]
  rw[World.size_alloc]at this
  exact this
 have H2:=Lib.hid (And.intro q2 (And.intro hr1 (And.intro hr2 hx)))
 clear hR hR6 q2 hr1 hr2 hx hcm
 go_wp2_with fail
 obtain⟨w3,hw3⟩:∃w3,w3=(w2.alloc (.cells #[.int .i64 0,.bool false,.int .i64 0,.int .u32 0,.int .u32 0,.int .u64 0,.int .u64 0,.int .u64 0] 103)).alloc (.cells #[.int .u64 0,.int .u64 0,.int .u64 0,.int .u64 0,.int .u64 0] 226):=⟨_,rfl⟩
 rw[<-hw3]
 have b5:=b5 w2
 rw[<-hw3]at b5
 have q3:Below w2.heap.size w2 w3:=by rw[hw3];exact((Below.refl _ _).alloc (Nat.le_refl _) _).alloc (by simp) _
 have b8:Blk w3 w2.heap.size 103 #[.int .i64 0,.bool false,.int .i64 0,.int .u32 0,.int .u32 0,.int .u64 0,.int .u64 0,.int .u64 0]:=by rw[hw3];exact(Blk.new w2 103 _).alloc _
 have H3:=Lib.hid (And.intro q3 b8)
 clear hw3 q3 b8
 go_loopw [21] (fun x wr=>∃j:Nat,x=.int .i64 j/\j<=5/\Blk wr (w2.heap.size+1) 226 (ncells (leafN l) j).toArray/\w3.grownBy wr (some (w2.heap.size+1))) (fun x _=>5-(intOf x).toNat)
 case atStart=>exact⟨0,rfl,by omega,b5,only_refl _ _⟩
 case round=>
  obtain⟨j,rfl,hj,hb5,hg⟩:=hrel
  by_cases hlt:j<5
  ·obtain⟨q2,hr1,hr2,hx⟩:=H2.out
   obtain⟨q3,b8⟩:=H3.out
   obtain⟨pc,hpc,hp0,hp8,hbe⟩:=leafN_at l hl j hlt
   obtain⟨x,hxc,hxp⟩:=hx j (by omega)
   rw[leaf_cut l j pc hpc]at hxp
   obtain⟨bj,oj,cj,rfl,_,hbj,_,_,hcj⟩:=hxp.spot (by intro e;rw[e]at hp0;simp at hp0)
   have hk:∀g,g<w2.heap.size->wr.heap[g]? =w2.heap[g]? :=fun g hgl=>(hg.block g (by have:=q3.size;omega) (fun e=>by injection e with e;omega)).trans (q3.block g hgl)
   have hcell:wr.cell? ⟨r,j,none⟩=some (.slice (some ⟨bj,oj,none⟩) pc.length cj):=by rw[<-hxc];simp only[World.cell?,hk r hr2]
   have hgt:=get_ok bj oj cj pc wr hp0 hp8 (by have:=hg.size;have:=q3.size;omega) (fun k u hu=>by rw[<-hcj k u hu];simp only[World.cell?,hk bj hbj])
   obtain⟨m,hm⟩:∃m,m=pc.length:=⟨_,rfl⟩
   rw[<-hm]at hcell hgt
   rw[hbe]at hgt
   obtain⟨z,hz⟩:∃z,z=(leafN l).getD j 0:=⟨_,rfl⟩
   rw[<-hz]at hgt
   have f5:=hb5.frozen j
   have l5:=hb5.lt
   have j0:(0:Int)<=(j:Int):=by omega
   have j1:(j:Int)<5:=by omega
   have j2:(j:Int)<6:=by omega
   have hcur:wr.cell? ⟨w2.heap.size+1,j,none⟩=some (.int .u64 0):=hb5.cell_ j (by
    rcases j with _|_|_|_|_|j
    ·rfl
    ·rfl
    ·rfl
    ·rfl
    ·rfl
    ·omega)
   have HB:=Lib.hid (And.intro hb5 (And.intro hg hz))
   clear hb5 hg hz hm hbe hpc hp0 hp8 hxc hxp hcj hx q2 q3 b8 hk hbj hr1 hr2
   go_wp2_with fail
   refine hgt.mono ?_
   rintro e w4 ⟨rfl,rfl⟩
   clear hgt
   go_wp2_with fail
   obtain⟨hb5,hg,hz⟩:=HB.out
   go_roundw
   case rel=>exact⟨j+1,by go_num,by omega,by rw[hz];exact hb5.set_to j _ (ncells_set _ j hlt),hg.trans (only_set1 _ _ _ _)⟩
   case measure=>simp[intOf];omega
  ·obtain rfl:j=5:=by omega
   obtain⟨q2,hr1,hr2,hx⟩:=H2.out
   obtain⟨q3,b8⟩:=H3.out
   obtain⟨q1,b4⟩:=H1.out
   obtain⟨hk,hlb,⟨⟨he0,he1⟩,hs,hv0,hv1⟩,ht0,ht1⟩:=hl.bd
   obtain⟨x,hxc,hxp⟩:=hx 5 (by omega)
   rw[leaf_cut l 5 _ rfl]at hxp
   have hk5:∀g,g<w2.heap.size->wr.heap[g]? =w2.heap[g]? :=fun g hgl=>(hg.block g (by have:=q3.size;omega) (fun e=>by injection e with e;omega)).trans (q3.block g hgl)
   have b8r:Blk wr w2.heap.size 103 #[.int .i64 0,.bool false,.int .i64 0,.int .u32 0,.int .u32 0,.int .u64 0,.int .u64 0,.int .u64 0]:=b8.grown hg (fun e=>by injection e with e;omega)
   have hb9:Blk wr (w2.heap.size+1) 226 #[.int .u64 l.kind,.int .u64 (bi l.dirty),.int .u64 l.lba,.int .u64 l.n.ep,.int .u64 l.n.ver]:=hb5
   have hcell:wr.cell? ⟨r,5,none⟩=some x:=by rw[<-hxc];simp only[World.cell?,hk5 r hr2]
   have hxp2:HasP (fun g=>g<w2.heap.size) wr x (pairB l.tag.1 l.tag.2):=(hxp.weakB (fun g hgl _=>hgl)).keep (by have:=hg.size;have:=q3.size;omega) (fun g hgl _=>hk5 g hgl)
   have hq0:Below w.heap.size w wr:=below_only (q1.trans ((q2.trans (q3.mono q2.size)).mono q1.size)) hg (by have:=q3.size;have:=q2.size;have:=q1.size;omega) (by have:=q2.size;have:=q1.size;omega)
   have hb4:Blk wr w.heap.size 103 _:=(((b4.below_ q2).below_ q3).grown hg (fun e=>by injection e with e;have:=q2.size;have:=b4.lt;omega))
   have h4l:w.heap.size<w2.heap.size:=by have:=q2.size;have:=b4.lt;omega
   have hvr:HasP (fun g=>g<w2.heap.size) wr (.slice A 32 cp) (leafB l):=(h.weakB (fun g hg _=>by omega)).below_ hq0
   have hlp:=fun W=>lput_ok l i hi hl W
   have hld:(l.kind=1->l.n.slot=i)/\(l.kind≠1->l.n.slot=0):=by
    rcases hl with rfl|⟨k,hk,rfl⟩|hf
    ·exact⟨fun c=>(by cases c),fun _=>rfl⟩
    ·exact⟨fun c=>(by cases c),fun _=>rfl⟩
    ·exact⟨fun _=>hf.2.2.1,fun c=>absurd hf.1 c⟩
   obtain⟨R,hRR⟩:∃R,R=leafB l:=⟨_,rfl⟩
   rw[<-hRR]at hlp hvr
   have hRl:R.length=32:=by rw[hRR];exact leafB_len l
   obtain⟨bx,ox,cx,rfl,_,hbx,_,_,_⟩:=hxp2.eight (pairB_len _ _) (by omega)
   obtain⟨g8,hg8⟩:∃g,g=w2.heap.size:=⟨_,rfl⟩
   rw[<-hg8]at b8r hb9 hxp2 hvr h4l hr2 ⊢
   have HF:=Lib.hid (And.intro hRR (And.intro hg8 (And.intro hvr (And.intro hRl (And.intro hxp2 (And.intro hq0 hb4))))))
   clear hRR hg8 hvr hRl hxp2 hq0 hb4 h H1 H2 H3 b5 hx hxc hxp hk5 hb5 b8 hg q1 q2 q3 b4 hr1 hl
   obtain⟨kd,dr,lb,⟨ep,sl,ver⟩,ta,tb⟩:=l
   simp only at hk hlb he0 he1 hs hv0 hv1 ht0 ht1 hld hb9 hlp HF
   unfold lfv lfc at hlp
   simp only at hlp
   obtain⟨K,hK⟩:∃K:Int,K=kd:=⟨_,rfl⟩
   obtain⟨B,hB⟩:∃B:Int,B=lb:=⟨_,rfl⟩
   obtain⟨D,hD⟩:∃D:Int,D=bi dr:=⟨_,rfl⟩
   rw[<-hK,<-hB,<-hD]at hb9
   rw[<-hK,<-hB]at hlp
   have k0:0<=K/\K<=2:=by omega
   have k1:0<=B/\B<32:=by omega
   obtain⟨K0,K1⟩:=k0
   obtain⟨B0,B1⟩:=k1
   have hdd:(D == 1)=dr:=by rw[hD];cases dr<;>rfl
   have hsl:sl=if K=1 then(i:Int)else 0:=by
    by_cases c:kd=1
    ·rw[if_pos (by omega)];exact hld.1 c
    ·rw[if_neg (by omega)];exact hld.2 c
   have wK:=IntWalk.i64_in K ⟨by omega,by omega⟩
   have wB:=IntWalk.i64_in B ⟨by omega,by omega⟩
   have wi:=IntWalk.u32_in (i:Int) ⟨by omega,by omega⟩
   have wE:=IntWalk.u32_in ep ⟨he0,by omega⟩
   have HKB:=Lib.hid (And.intro hK hB)
   clear hK hB hD hld hk hlb
   have s0:=hb9.cell_ 0 rfl
   have s1:=hb9.cell_ 1 rfl
   have s2:=hb9.cell_ 2 rfl
   have s3:=hb9.cell_ 3 rfl
   have s4:=hb9.cell_ 4 rfl
   have d0:=b8r.cell_ 0 rfl
   have d1:=b8r.cell_ 1 rfl
   have d2:=b8r.cell_ 2 rfl
   have f0:=b8r.frozen 0
   have f1:=b8r.frozen 1
   have f2:=b8r.frozen 2
   have l8:=b8r.lt
   have l9:=hb9.lt
   go_wp2_with fail
   have hne:g8+1≠g8:=by omega
   go_region_held3 (fun w'=>w'.cell? ⟨g8+1,0,none⟩=some (.int .u64 K)/\w'.cell? ⟨g8+1,1,none⟩=some (.int .u64 D)/\w'.cell? ⟨g8+1,2,none⟩=some (.int .u64 B))
    (first|(with_reducible exact k3n hb9)|(with_reducible exact k3n hb9.drew)|(with_reducible exact k3n (hb9.far hne _).drew)|(with_reducible exact k3n ((hb9.far hne _).far hne _).drew)|(with_reducible exact k3n (((hb9.far hne _).far hne _).far hne _).drew))
    (fail)
   obtain⟨w4,hw4⟩:∃w4,w4=(((wr.setCell ⟨g8,0,none⟩ (.int .i64 K)).setCell ⟨g8,1,none⟩ (.bool dr)).setCell ⟨g8,2,none⟩ (.int .i64 B)).drew:=⟨_,rfl⟩
   have hg4:wr.grownBy w4 (some g8):=by rw[hw4];exact only_drew (only_setCell (only_set2 _ _ _ _ _ _) (.inl rfl) _)
   have b84:Blk w4 g8 103 #[.int .i64 K,.bool dr,.int .i64 B,.int .u32 0,.int .u32 0,.int .u64 0,.int .u64 0,.int .u64 0]:=by
    rw[hw4];exact(((b8r.set_to 0 (.int .i64 K) rfl).set_to 1 (.bool dr) rfl).set_to 2 (.int .i64 B) rfl).drew
   have b94:=hb9.grown hg4 (fun e=>hne (by injection e))
   rw[<-hw4]
   have hb9l:=hb9.lt
   have H4:=Lib.hid hg4
   clear hw4 hg4 b8r hb9 s0 s1 s2 s3 s4 d0 d1 d2 f0 f1 f2 l8 l9
   have d0:=b84.cell_ 0 rfl
   have d3:=b84.cell_ 3 rfl
   have d4:=b84.cell_ 4 rfl
   have f4:=b84.frozen 4
   have l8:=b84.lt
   by_cases hK1:K=1
   ·rw[if_pos hK1]at hsl
    subst hK1 hsl
    go_wp2_with fail
    obtain⟨w5,hw5⟩:∃w5,w5=w4.setCell ⟨g8,4,none⟩ (.int .u32 i):=⟨_,rfl⟩
    have h5:w4.grownBy w5 (some g8):=by rw[hw5];exact only_set1 _ _ _ _
    have b85:Blk w5 g8 103 #[.int .i64 1,.bool dr,.int .i64 B,.int .u32 0,.int .u32 i,.int .u64 0,.int .u64 0,.int .u64 0]:=by rw[hw5];exact b84.set_to 4 (.int .u32 i) rfl
    have b95:Blk w5 (g8+1) 226 #[.int .u64 1,.int .u64 D,.int .u64 B,.int .u64 ep,.int .u64 ver]:=by rw[hw5];exact b94.far hne _
    rw[<-hw5]
    clear hw5 b84 b94
    clear d0 d3 d4 f4 l8
    have s3:=b95.cell_ 3 rfl
    have s4:=b95.cell_ 4 rfl
    have d3:=b85.cell_ 3 rfl
    have d5:=b85.cell_ 5 rfl
    have f3:=b85.frozen 3
    have f5:=b85.frozen 5
    have l8:=b85.lt
    go_region_held3 (fun w'=>w'.cell? ⟨g8+1,3,none⟩=some (.int .u64 ep)/\w'.cell? ⟨g8+1,4,none⟩=some (.int .u64 ver))
     (first|(with_reducible exact k2n b95)|(with_reducible exact k2n b95.drew)|(with_reducible exact k2n (b95.far hne _).drew)|(with_reducible exact k2n ((b95.far hne _).far hne _).drew))
     (fail)
    obtain⟨w6,hw6⟩:∃w6,w6=((w5.setCell ⟨g8,3,none⟩ (.int .u32 ep)).setCell ⟨g8,5,none⟩ (.int .u64 ver)).drew:=⟨_,rfl⟩
    have hg6:w5.grownBy w6 (some g8):=by rw[hw6];exact only_drew (only_set2 _ _ _ _ _ _)
    have b86:Blk w6 g8 103 #[.int .i64 1,.bool dr,.int .i64 B,.int .u32 ep,.int .u32 i,.int .u64 ver,.int .u64 0,.int .u64 0]:=by
     rw[hw6];exact((b85.set_to 3 (.int .u32 ep) rfl).set_to 5 (.int .u64 ver) rfl).drew
    rw[<-hw6]
    obtain⟨hRR,hg8,hvr,hRl,hxp2,hq0,hb4⟩:=HF.out
    have hgw:wr.grownBy w6 (some g8):=(H4.out.trans h5).trans hg6
    have hcell6:w6.cell? ⟨r,5,none⟩=some (.slice (some ⟨bx,ox,none⟩) 16 cx):=by rw[<-hcell];simp only[World.cell?,hgw.block r (by have:=hb9l;omega) (fun e=>by injection e with e;omega)]
    have hpr:HasP (fun g=>g<g8) w6 (.slice (some ⟨bx,ox,none⟩) 16 cx) (pairB ta tb):=hxp2.keep hgw.size (fun g hg e=>hgw.block g hg (fun q=>by injection q with q;omega))
    have hwp:=wpair_ok _ _ (pairB ta tb) w6 hpr (pairB_len _ _)
    rw[pairOf_pairB ht0 ht1]at hwp
    unfold pv at hwp
    simp only at hwp
    have H6:=Lib.hid (And.intro hgw b86)
    clear hw6 hg6 b86 hgw hpr b85 b95 s3 s4 d3 d5 f3 f5 l8 hRR hg8 hvr hRl hxp2 hq0 hb4
    go_wp2_with fail
    refine hwp.mono ?_
    rintro e w7 ⟨rfl,q7⟩
    clear hwp hcell6
    obtain⟨hgw,b86⟩:=H6.out
    have b87:=b86.below_ q7
    have c0:=b87.cell_ 0 rfl
    have c1:=b87.cell_ 1 rfl
    have c2:=b87.cell_ 2 rfl
    have c3:=b87.cell_ 3 rfl
    have c4:=b87.cell_ 4 rfl
    have c5:=b87.cell_ 5 rfl
    have c6:=b87.cell_ 6 rfl
    have c7:=b87.cell_ 7 rfl
    have f6:=b87.frozen 6
    have f7:=b87.frozen 7
    have l8:=b87.lt
    have H7:=Lib.hid (And.intro hgw (And.intro q7 b87))
    clear hgw b86 q7 b87
    have hlp2:=hlp
    clear hlp
    go_wp2_with fail
    obtain⟨w8,hw8⟩:∃w8,w8=(w7.setCell ⟨g8,6,none⟩ (.int .u64 ta)).setCell ⟨g8,7,none⟩ (.int .u64 tb):=⟨_,rfl⟩
    obtain⟨hgw,q7,b87⟩:=H7.out
    have hg8':w7.grownBy w8 (some g8):=by rw[hw8];exact only_set2 _ _ _ _ _ _
    have b88:Blk w8 g8 103 #[.int .i64 1,.bool dr,.int .i64 B,.int .u32 ep,.int .u32 i,.int .u64 ver,.int .u64 ta,.int .u64 tb]:=by
     rw[hw8];exact(b87.set_to 6 (.int .u64 ta) rfl).set_to 7 (.int .u64 tb) rfl
    rw[<-hw8]
    clear hw8 b87 c0 c1 c2 c3 c4 c5 c6 c7 f6 f7 l8
    refine(hlp2 w8).mono ?_
    rintro e w9 ⟨v9,rfl,o9,q9⟩
    clear hlp2
    obtain⟨hRR,hg8,hvr,hRl,hxp2,hq0,hb4⟩:=HF.out
    obtain⟨A9,c9,hv9⟩:=o9.has.slice
    rw[hRl]at hv9
    subst hv9
    have hg78:wr.grownBy w8 (some g8):=(only_trans hgw (only_of_below (q7.mono (Nat.le_refl _)) _)).trans hg8'
    have hvr9:HasP (fun g=>g<g8) w9 (.slice A 32 cp) R:=(hvr.keep hg78.size (fun g hg e=>hg78.block g hg (fun q=>by injection q with q;omega))).below_ q9
    have heq:=bequal_ok _ _ (.slice A9 32 c9) (.slice A 32 cp) R R w9 o9.has hvr9
    have hdec:decide (R=R)=true:=by simp
    rw[hdec]at heq
    have b89:=b88.below_ q9
    have c0:=b89.cell_ 0 rfl
    have c1:=b89.cell_ 1 rfl
    have c2:=b89.cell_ 2 rfl
    have c3:=b89.cell_ 3 rfl
    have c4:=b89.cell_ 4 rfl
    have c5:=b89.cell_ 5 rfl
    have c6:=b89.cell_ 6 rfl
    have c7:=b89.cell_ 7 rfl
    have b49:=(hb4.grown hg78 (fun e=>by injection e with e;omega)).below_ q9
    have e0:=b49.cell_ 0 rfl
    have e1:=b49.cell_ 1 rfl
    have e2:=b49.cell_ 2 rfl
    have e3:=b49.cell_ 3 rfl
    have e4:=b49.cell_ 4 rfl
    have e5:=b49.cell_ 5 rfl
    have e6:=b49.cell_ 6 rfl
    have e7:=b49.cell_ 7 rfl
    have f0:=b49.frozen 0
    have f1:=b49.frozen 1
    have f2:=b49.frozen 2
    have f3:=b49.frozen 3
    have f4:=b49.frozen 4
    have f5:=b49.frozen 5
    have f6:=b49.frozen 6
    have f7:=b49.frozen 7
    have l8:=b89.lt
    have l4:=b49.lt
    have hqq:Below w.heap.size w w9:=(below_only hq0 hg78 hq0.size (by omega)).trans (q9.mono (by have:=hg78.size;have:=hq0.size;omega))
    have H9:=Lib.hid (And.intro b49 hqq)
    clear b88 b89 b49 q9 o9 hRR hg8 hvr hRl hxp2 hq0 hb4 hg78 hvr9 hdec hgw q7 hg8' hqq
    go_wp2_with fail
    refine heq.mono ?_
    rintro e w10 ⟨rfl,rfl⟩
    clear heq
    go_wp2_with fail
    obtain⟨b49,hqq⟩:=H9.out
    obtain⟨bf,hof⟩:=set8 b49 (.int .i64 1) (.bool dr) (.int .i64 B) (.int .u32 ep) (.int .u32 i) (.int .u64 ver) (.int .u64 ta) (.int .u64 tb)
    refine ret_cell_tmp 4 103 5 (by rfl) w.heap.size 0 (by rfl) (.bool true) (by rfl) [.int .i64 1,.bool dr,.int .i64 B,.int .u32 ep,.int .u32 i,.int .u64 ver,.int .u64 ta,.int .u64 tb] _ bf.range Tryz.underlying103 rfl sz103 rfl ⟨?_,below_only hqq hof hqq.size (Nat.le_refl _)⟩
    obtain⟨hK,hB⟩:=HKB.out
    rw[hB,show(Value.int .i64 1)=Value.int .i64 (kd:Int)by rw[hK]]
    rfl
   ·rw[if_neg hK1]at hsl
    subst hsl
    go_wp2_with fail
    obtain⟨w5,hw5⟩:∃w5,w5=w4:=⟨_,rfl⟩
    have h5:w4.grownBy w5 (some g8):=by rw[hw5];exact only_refl _ _
    rw[<-hw5]at b84 b94 ⊢
    have b85:=b84
    have b95:=b94
    clear hw5 b84 b94
    clear d0 d3 d4 f4 l8
    have s3:=b95.cell_ 3 rfl
    have s4:=b95.cell_ 4 rfl
    have d3:=b85.cell_ 3 rfl
    have d5:=b85.cell_ 5 rfl
    have f3:=b85.frozen 3
    have f5:=b85.frozen 5
    have l8:=b85.lt
    go_region_held3 (fun w'=>w'.cell? ⟨g8+1,3,none⟩=some (.int .u64 ep)/\w'.cell? ⟨g8+1,4,none⟩=some (.int .u64 ver))
     (first|(with_reducible exact k2n b95)|(with_reducible exact k2n b95.drew)|(with_reducible exact k2n (b95.far hne _).drew)|(with_reducible exact k2n ((b95.far hne _).far hne _).drew))
     (fail)
    obtain⟨w6,hw6⟩:∃w6,w6=((w5.setCell ⟨g8,3,none⟩ (.int .u32 ep)).setCell ⟨g8,5,none⟩ (.int .u64 ver)).drew:=⟨_,rfl⟩
    have hg6:w5.grownBy w6 (some g8):=by rw[hw6];exact only_drew (only_set2 _ _ _ _ _ _)
    have b86:Blk w6 g8 103 #[.int .i64 K,.bool dr,.int .i64 B,.int .u32 ep,.int .u32 0,.int .u64 ver,.int .u64 0,.int .u64 0]:=by
     rw[hw6];exact((b85.set_to 3 (.int .u32 ep) rfl).set_to 5 (.int .u64 ver) rfl).drew
    rw[<-hw6]
    obtain⟨hRR,hg8,hvr,hRl,hxp2,hq0,hb4⟩:=HF.out
    have hgw:wr.grownBy w6 (some g8):=(H4.out.trans h5).trans hg6
    have hcell6:w6.cell? ⟨r,5,none⟩=some (.slice (some ⟨bx,ox,none⟩) 16 cx):=by rw[<-hcell];simp only[World.cell?,hgw.block r (by have:=hb9l;omega) (fun e=>by injection e with e;omega)]
    have hpr:HasP (fun g=>g<g8) w6 (.slice (some ⟨bx,ox,none⟩) 16 cx) (pairB ta tb):=hxp2.keep hgw.size (fun g hg e=>hgw.block g hg (fun q=>by injection q with q;omega))
    have hwp:=wpair_ok _ _ (pairB ta tb) w6 hpr (pairB_len _ _)
    rw[pairOf_pairB ht0 ht1]at hwp
    unfold pv at hwp
    simp only at hwp
    have H6:=Lib.hid (And.intro hgw b86)
    clear hw6 hg6 b86 hgw hpr b85 b95 s3 s4 d3 d5 f3 f5 l8 hRR hg8 hvr hRl hxp2 hq0 hb4
    go_wp2_with fail
    refine hwp.mono ?_
    rintro e w7 ⟨rfl,q7⟩
    clear hwp hcell6
    obtain⟨hgw,b86⟩:=H6.out
    have b87:=b86.below_ q7
    have c0:=b87.cell_ 0 rfl
    have c1:=b87.cell_ 1 rfl
    have c2:=b87.cell_ 2 rfl
    have c3:=b87.cell_ 3 rfl
    have c4:=b87.cell_ 4 rfl
    have c5:=b87.cell_ 5 rfl
    have c6:=b87.cell_ 6 rfl
    have c7:=b87.cell_ 7 rfl
    have f6:=b87.frozen 6
    have f7:=b87.frozen 7
    have l8:=b87.lt
    have H7:=Lib.hid (And.intro hgw (And.intro q7 b87))
    clear hgw b86 q7 b87
    have hlp2:=hlp
    clear hlp
    go_wp2_with fail
    obtain⟨w8,hw8⟩:∃w8,w8=(w7.setCell ⟨g8,6,none⟩ (.int .u64 ta)).setCell ⟨g8,7,none⟩ (.int .u64 tb):=⟨_,rfl⟩
    obtain⟨hgw,q7,b87⟩:=H7.out
    have hg8':w7.grownBy w8 (some g8):=by rw[hw8];exact only_set2 _ _ _ _ _ _
    have b88:Blk w8 g8 103 #[.int .i64 K,.bool dr,.int .i64 B,.int .u32 ep,.int .u32 0,.int .u64 ver,.int .u64 ta,.int .u64 tb]:=by
     rw[hw8];exact(b87.set_to 6 (.int .u64 ta) rfl).set_to 7 (.int .u64 tb) rfl
    rw[<-hw8]
    clear hw8 b87 c0 c1 c2 c3 c4 c5 c6 c7 f6 f7 l8
    refine(hlp2 w8).mono ?_
    rintro e w9 ⟨v9,rfl,o9,q9⟩
    clear hlp2
    obtain⟨hRR,hg8,hvr,hRl,hxp2,hq0,hb4⟩:=HF.out
    obtain⟨A9,c9,hv9⟩:=o9.has.slice
    rw[hRl]at hv9
    subst hv9
    have hg78:wr.grownBy w8 (some g8):=(only_trans hgw (only_of_below (q7.mono (Nat.le_refl _)) _)).trans hg8'
    have hvr9:HasP (fun g=>g<g8) w9 (.slice A 32 cp) R:=(hvr.keep hg78.size (fun g hg e=>hg78.block g hg (fun q=>by injection q with q;omega))).below_ q9
    have heq:=bequal_ok _ _ (.slice A9 32 c9) (.slice A 32 cp) R R w9 o9.has hvr9
    have hdec:decide (R=R)=true:=by simp
    rw[hdec]at heq
    have b89:=b88.below_ q9
    have c0:=b89.cell_ 0 rfl
    have c1:=b89.cell_ 1 rfl
    have c2:=b89.cell_ 2 rfl
    have c3:=b89.cell_ 3 rfl
    have c4:=b89.cell_ 4 rfl
    have c5:=b89.cell_ 5 rfl
    have c6:=b89.cell_ 6 rfl
    have c7:=b89.cell_ 7 rfl
    have b49:=(hb4.grown hg78 (fun e=>by injection e with e;omega)).below_ q9
    have e0:=b49.cell_ 0 rfl
    have e1:=b49.cell_ 1 rfl
    have e2:=b49.cell_ 2 rfl
    have e3:=b49.cell_ 3 rfl
    have e4:=b49.cell_ 4 rfl
    have e5:=b49.cell_ 5 rfl
    have e6:=b49.cell_ 6 rfl
    have e7:=b49.cell_ 7 rfl
    have f0:=b49.frozen 0
    have f1:=b49.frozen 1
    have f2:=b49.frozen 2
    have f3:=b49.frozen 3
    have f4:=b49.frozen 4
    have f5:=b49.frozen 5
    have f6:=b49.frozen 6
    have f7:=b49.frozen 7
    have l8:=b89.lt
    have l4:=b49.lt
    have hqq:Below w.heap.size w w9:=(below_only hq0 hg78 hq0.size (by omega)).trans (q9.mono (by have:=hg78.size;have:=hq0.size;omega))
    have H9:=Lib.hid (And.intro b49 hqq)
    clear b88 b89 b49 q9 o9 hRR hg8 hvr hRl hxp2 hq0 hb4 hg78 hvr9 hdec hgw q7 hg8' hqq
    go_wp2_with fail
    refine heq.mono ?_
    rintro e w10 ⟨rfl,rfl⟩
    clear heq
    go_wp2_with fail
    obtain⟨b49,hqq⟩:=H9.out
    obtain⟨bf,hof⟩:=set8 b49 (.int .i64 K) (.bool dr) (.int .i64 B) (.int .u32 ep) (.int .u32 0) (.int .u64 ver) (.int .u64 ta) (.int .u64 tb)
    refine ret_cell_tmp 4 103 5 (by rfl) w.heap.size 0 (by rfl) (.bool true) (by rfl) [.int .i64 K,.bool dr,.int .i64 B,.int .u32 ep,.int .u32 0,.int .u64 ver,.int .u64 ta,.int .u64 tb] _ bf.range Tryz.underlying103 rfl sz103 rfl ⟨?_,below_only hqq hof hqq.size (Nat.le_refl _)⟩
    obtain⟨hK,hB⟩:=HKB.out
    rw[hB,hK]
    rfl
end Go.Proofs.YtggmdjdflaglpaaGreat
namespace Go.Proofs.YtggmdjdflaglpaaGreat
open Go.RowKit Go.Proofs.YtggmdjdflaglpaaGreat.geo
set_option linter.unusedVariables false
theorem root_cut (c e n:Int) (t:Two) (j:Nat) (r:By) (h:([putB c 8,putB e 4,putB n 4,pairB t.1 t.2]:List By)[j]? =some r):cutAt (rootB c e n t) [8,4,4,16] j=r:=by
 have e1:rootB c e n t=([putB c 8,putB e 4,putB n 4,pairB t.1 t.2]:List By).flatten:=by simp[rootB]
 have e2:([putB c 8,putB e 4,putB n 4,pairB t.1 t.2]:List By).map List.length=[8,4,4,16]:=by simp[putB_len,pairB_len]
 rw[e1,<-e2]
 exact cut_flat _ j r h
theorem rec_cut (ep ver:Int) (b:By) (t:Two) (hb:b.length=32) (j:Nat) (r:By) (h:([putB ep 4,putB ver 8,b,pairB t.1 t.2]:List By)[j]? =some r):cutAt (recB ep ver b t) [4,8,32,16] j=r:=by
 have e1:recB ep ver b t=([putB ep 4,putB ver 8,b,pairB t.1 t.2]:List By).flatten:=by simp[recB]
 have e2:([putB ep 4,putB ver 8,b,pairB t.1 t.2]:List By).map List.length=[4,8,32,16]:=by simp[putB_len,pairB_len,hb]
 rw[e1,<-e2]
 exact cut_flat _ j r h
theorem get_put {p:Nat->Prop}{w:World}{x:Value}{v:Int}{n:Nat}(h:HasP p w x (putB v n)) (hn:1<=n/\n<=8) (h0:0<=v) (h1:v<256^n):
 ∃b o c,x=.slice (some ⟨b,o,none⟩) n c/\b<w.heap.size/\Calls Tryz.prog 130 #[.slice (some ⟨b,o,none⟩) n c] w fun e w'=>e=.returned (.tuple #[.int .u64 v,.bool true])/\w=w':=by
 obtain⟨b,o,c,rfl,_,hb,_,_,hc⟩:=h.eight (putB_len v n) (by omega)
 have:=get_ok b o c (putB v n) w (by rw[putB_len];omega) (by rw[putB_len];omega) hb hc
 rw[putB_len,be_putB n v h0 h1]at this
 exact⟨b,o,c,rfl,hb,this⟩
theorem CutR.blk {B:Nat}{w:World}{r c:Nat}{b:By}{Z:List Nat}{n:Nat}(h:CutR B w (.slice (some ⟨r,0,none⟩) n c) b Z n):∃cur,Blk w r 32 cur:=by
 obtain⟨xs,hrow,hl,hxs⟩:=h
 rcases hrow.2 with⟨e,h0⟩|⟨r',c',cur,e,a2,a3,_⟩
 ·cases e
 ·injection e with e1 e2 e3
  injection e1 with e1
  injection e1 with e1
  subst e1
  exact⟨cur,a3⟩
theorem s3rg {w:World}{r g:Nat}{cur:Array Value}{x a b:Value}(br:Blk w r 32 cur) (hx:cur[2]? =some x) (bg:Blk w g 101 #[a,b]):w.cell? ⟨r,2,none⟩=some x/\w.cell? ⟨g,0,none⟩=some a/\w.cell? ⟨g,1,none⟩=some b:=⟨br.cell_ 2 hx,bg.cell_ 0 rfl,bg.cell_ 1 rfl⟩
theorem set5 {w:World}{g t:Nat}{x0 x1 x2 x3 x4:Value}(h:Blk w g t #[x0,x1,x2,x3,x4]) (y0 y1 y2 y3 y4:Value):
 Blk (((((w.setCell ⟨g,0,none⟩ y0).setCell ⟨g,1,none⟩ y1).setCell ⟨g,2,none⟩ y2).setCell ⟨g,3,none⟩ y3).setCell ⟨g,4,none⟩ y4) g t [y0,y1,y2,y3,y4].toArray/\
 w.grownBy (((((w.setCell ⟨g,0,none⟩ y0).setCell ⟨g,1,none⟩ y1).setCell ⟨g,2,none⟩ y2).setCell ⟨g,3,none⟩ y3).setCell ⟨g,4,none⟩ y4) (some g):=by
 have a1:=h.set_to 0 y0 (cs':=#[y0,x1,x2,x3,x4]) rfl
 have a2:=a1.set_to 1 y1 (cs':=#[y0,y1,x2,x3,x4]) rfl
 have a3:=a2.set_to 2 y2 (cs':=#[y0,y1,y2,x3,x4]) rfl
 have a4:=a3.set_to 3 y3 (cs':=#[y0,y1,y2,y3,x4]) rfl
 have a5:=a4.set_to 4 y4 (cs':=[y0,y1,y2,y3,y4].toArray) rfl
 have o1:=only_set1 w g 0 y0
 have o2:=only_trans o1 (only_set1 _ g 1 y1)
 have o3:=only_trans o2 (only_set1 _ g 2 y2)
 have o4:=only_trans o3 (only_set1 _ g 3 y3)
 have o5:=only_trans o4 (only_set1 _ g 4 y4)
 exact⟨a5,o5⟩
theorem set3 {w:World}{g t:Nat}{x0 x1 x2:Value}(h:Blk w g t #[x0,x1,x2]) (y0 y1 y2:Value):
 Blk (((w.setCell ⟨g,0,none⟩ y0).setCell ⟨g,1,none⟩ y1).setCell ⟨g,2,none⟩ y2) g t [y0,y1,y2].toArray/\
 w.grownBy (((w.setCell ⟨g,0,none⟩ y0).setCell ⟨g,1,none⟩ y1).setCell ⟨g,2,none⟩ y2) (some g):=by
 have a1:=h.set_to 0 y0 (cs':=#[y0,x1,x2]) rfl
 have a2:=a1.set_to 1 y1 (cs':=#[y0,y1,x2]) rfl
 have a3:=a2.set_to 2 y2 (cs':=[y0,y1,y2].toArray) rfl
 have o1:=only_set1 w g 0 y0
 have o2:=only_trans o1 (only_set1 _ g 1 y1)
 have o3:=only_trans o2 (only_set1 _ g 2 y2)
 exact⟨a3,o3⟩
set_option maxHeartbeats 4000000 in
set_option maxRecDepth 100000 in
theorem rget_ok (p:Nat->Prop) (v:Value) (c ep n:Int) (t:Two) (w:World) (hc:U64 c) (he:0<=ep/\ep<4294967296) (hn:V n) (ht:U2 t) (h:HasP p w v (rootB c ep n t)):
 Calls Tryz.prog 138 #[v] w fun e w'=>e=.returned (.tuple #[.agg #[.int .u64 c,.int .u32 ep,.int .i64 n,.int .u64 t.1,.int .u64 t.2],.bool true])/\Below w.heap.size w w':=by
 have hn16:4<=n/\n<=16:=by unfold V at hn;omega
 have hcut:=fun W bs zc hq hz=>cut_ok p v (rootB c ep n t) [8,4,4,16] bs zc W (h.below_ (w':=W) hq) (by rw[rootB_len];rfl) (by rw[rootB_len];omega) (fun e=>by have:=rootB_len c ep n t;rw[e]at this;simp at this) (by decide) (by decide) hz
 obtain⟨A,cp,hv⟩:=h.slice
 rw[rootB_len]at hv
 subst hv
 obtain⟨W1,hW1⟩:∃W1,W1=(w.alloc (.cells #[.int .u64 0,.int .u32 0,.int .i64 0,.int .u64 0,.int .u64 0] 139)).alloc (.cells #[.int .i64 8,.int .i64 4,.int .i64 4,.int .i64 16] 3):=⟨_,rfl⟩
 have q1:Below w.heap.size w W1:=by rw[hW1];exact((Below.refl _ _).alloc (Nat.le_refl _) _).alloc (by simp) _
 have b4:Blk W1 w.heap.size 139 #[.int .u64 0,.int .u32 0,.int .i64 0,.int .u64 0,.int .u64 0]:=by rw[hW1];exact(Blk.new w 139 _).alloc _
 have bz:Blk W1 (w.heap.size+1) 3 #[.int .i64 8,.int .i64 4,.int .i64 4,.int .i64 16]:=by
  have:=Blk.new (w.alloc (.cells #[.int .u64 0,.int .u32 0,.int .i64 0,.int .u64 0,.int .u64 0] 139)) 3 #[.int .i64 8,.int .i64 4,.int .i64 4,.int .i64 16]
  rw[World.size_alloc]at this
  rw[hW1];exact this
 have hcut1:=hcut W1 (w.heap.size+1) 4 q1 bz.lt (fun j n hj=>bz.cell_ j (by
  rcases j with _|_|_|_|j<;>simp at hj<;>subst hj<;>rfl))
 have hsl:=fun W=>slots_ok n W hn
 have H1:=Lib.hid (And.intro q1 b4)
 clear hcut q1 b4 bz hn
 go_enter Tryz.func138,Tryz.ntmps138
 go_wp2_with fail
 rw[<-hW1]
 clear hW1
 refine hcut1.mono ?_
 rintro e w2 ⟨V,rfl,hR,q2⟩
 clear hcut1
 have hR4:CutR W1.heap.size w2 V (rootB c ep n t) [8,4,4,16] 4:=hR
 obtain⟨r,k,rfl,hr1,hr2,hk4,hkm,hx⟩:=hR4.spot (by decide)
 have hk63:k<=9223372036854775807:=by unfold maxLen at hkm;omega
 obtain⟨x0,c0,p0⟩:=hx 0 (by omega)
 obtain⟨x1,c1,p1⟩:=hx 1 (by omega)
 obtain⟨x2,c2,p2⟩:=hx 2 (by omega)
 obtain⟨x3,c3,p3⟩:=hx 3 (by omega)
 rw[root_cut c ep n t 0 _ rfl]at p0
 rw[root_cut c ep n t 1 _ rfl]at p1
 rw[root_cut c ep n t 2 _ rfl]at p2
 rw[root_cut c ep n t 3 _ rfl]at p3
 obtain⟨b0,o0,z0,rfl,l0,g0⟩:=get_put p0 ⟨by decide,by decide⟩ hc.1 (by have:=hc.2;omega)
 obtain⟨b1,o1,z1,rfl,l1,g1⟩:=get_put p1 ⟨by decide,by decide⟩ he.1 (by have:=he.2;omega)
 obtain⟨b2,o2,z2,rfl,l2,g2⟩:=get_put p2 ⟨by decide,by decide⟩ (by omega) (by omega)
 have g3:=wpair_ok _ _ (pairB t.1 t.2) w2 p3 (pairB_len _ _)
 rw[pairOf_pairB ht.1 ht.2]at g3
 obtain⟨b3,o3,z3,rfl,_,l3,_,_,_⟩:=p3.eight (pairB_len _ _) (by omega)
 obtain⟨ta,tb⟩:=t
 unfold pv at g3
 simp only at g3
 have H2:=Lib.hid q2
 clear hR hR4 q2 hx p0 p1 p2 p3 hkm hr1 h ht
 go_wp2_with fail
 refine g0.mono ?_
 rintro e w3 ⟨rfl,rfl⟩
 clear g0
 go_wp2_with fail
 refine g1.mono ?_
 rintro e w3 ⟨rfl,rfl⟩
 clear g1
 go_wp2_with fail
 refine g2.mono ?_
 rintro e w3 ⟨rfl,rfl⟩
 clear g2
 go_wp2_with fail
 refine g3.mono ?_
 rintro e w3 ⟨rfl,q3⟩
 clear g3
 have wn:=IntWalk.i64_in n ⟨by omega,by omega⟩
 have we:=IntWalk.u32_in ep ⟨he.1,by have:=he.2;omega⟩
 obtain⟨q1,b4⟩:=H1.out
 have b43:=(b4.below_ H2.out).below_ q3
 have e0:=b43.cell_ 0 rfl
 have e1:=b43.cell_ 1 rfl
 have e2:=b43.cell_ 2 rfl
 have e3:=b43.cell_ 3 rfl
 have e4:=b43.cell_ 4 rfl
 have f0:=b43.frozen 0
 have f1:=b43.frozen 1
 have f2:=b43.frozen 2
 have f3:=b43.frozen 3
 have f4:=b43.frozen 4
 have lb:=b43.lt
 have H3:=Lib.hid (And.intro (q1.trans ((H2.out.trans (q3.mono H2.out.size)).mono q1.size)) b43)
 clear q1 b4 b43 q3 c0 c1 c2 c3
 go_wp2_with fail
 refine(hsl _).mono ?_
 rintro e w4 ⟨rfl,rfl⟩
 clear hsl
 go_wp2_with fail
 obtain⟨hq,b43⟩:=H3.out
 obtain⟨bf,hof⟩:=set5 b43 (.int .u64 c) (.int .u32 ep) (.int .i64 n) (.int .u64 ta) (.int .u64 tb)
 have hq2:=below_only hq hof hq.size (Nat.le_refl _)
 exact ret_cell_tmp 2 139 3 (by rfl) w.heap.size 0 (by rfl) (.bool true) (by rfl) [.int .u64 c,.int .u32 ep,.int .i64 n,.int .u64 ta,.int .u64 tb] _ (bf.alloc _).range Tryz.underlying139 rfl sz139 rfl ⟨rfl,hq2.alloc hq2.size _⟩
set_option maxHeartbeats 4000000 in
set_option maxRecDepth 100000 in
theorem recget_ok (p:Nat->Prop) (v:Value) (ep ver:Int) (b:By) (t:Two) (w:World) (he:0<=ep/\ep<4294967296) (hver:U64 ver) (hb:b.length=32) (ht:U2 t) (h:HasP p w v (recB ep ver b t)):
 Calls Tryz.prog 133 #[v] w fun e w'=>∃x,e=.returned (.tuple #[.agg #[.int .u32 ep,.int .u32 65535,.int .u64 ver],.agg #[x,.int .u64 t.1,.int .u64 t.2],.bool true])/\HasP (fun _=>True) w' x b/\Below w.heap.size w w':=by
 have hcut:=fun W bs zc hq hz=>cut_ok p v (recB ep ver b t) [4,8,32,16] bs zc W (h.below_ (w':=W) hq) (by rw[recB_len _ _ _ _ hb];rfl) (by rw[recB_len _ _ _ _ hb];omega) (fun e=>by have:=recB_len ep ver b t hb;rw[e]at this;simp at this) (by decide) (by decide) hz
 obtain⟨A,cp,hv⟩:=h.slice
 rw[recB_len _ _ _ _ hb]at hv
 subst hv
 obtain⟨W1,hW1⟩:∃W1,W1=((w.alloc (.cells #[.int .u32 0,.int .u32 0,.int .u64 0] 99)).alloc (.cells #[.slice none 0 0,.int .u64 0,.int .u64 0] 157)).alloc (.cells #[.int .i64 4,.int .i64 8,.int .i64 32,.int .i64 16] 3):=⟨_,rfl⟩
 have q1:Below w.heap.size w W1:=by rw[hW1];exact(((Below.refl _ _).alloc (Nat.le_refl _) _).alloc (by simp) _).alloc (by simp;omega) _
 have b2:Blk W1 w.heap.size 99 #[.int .u32 0,.int .u32 0,.int .u64 0]:=by rw[hW1];exact((Blk.new w 99 _).alloc _).alloc _
 have b3:Blk W1 (w.heap.size+1) 157 #[.slice none 0 0,.int .u64 0,.int .u64 0]:=by
  have:=(Blk.new (w.alloc (.cells #[.int .u32 0,.int .u32 0,.int .u64 0] 99)) 157 #[.slice none 0 0,.int .u64 0,.int .u64 0]).alloc (.cells #[.int .i64 4,.int .i64 8,.int .i64 32,.int .i64 16] 3)
  rw[World.size_alloc]at this
  rw[hW1];exact this
 have bz:Blk W1 (w.heap.size+1+1) 3 #[.int .i64 4,.int .i64 8,.int .i64 32,.int .i64 16]:=by
  have:=Blk.new ((w.alloc (.cells #[.int .u32 0,.int .u32 0,.int .u64 0] 99)).alloc (.cells #[.slice none 0 0,.int .u64 0,.int .u64 0] 157)) 3 #[.int .i64 4,.int .i64 8,.int .i64 32,.int .i64 16]
  rw[World.size_alloc,World.size_alloc]at this
  rw[hW1];exact this
 have hcut1:=hcut W1 (w.heap.size+1+1) 4 q1 bz.lt (fun j n hj=>bz.cell_ j (by
  rcases j with _|_|_|_|j<;>simp at hj<;>subst hj<;>rfl))
 have H1:=Lib.hid (And.intro q1 (And.intro b2 b3))
 clear hcut q1 b2 b3 bz
 go_enter Tryz.func133,Tryz.ntmps133
 go_wp2_with fail
 rw[<-hW1]
 clear hW1
 refine hcut1.mono ?_
 rintro e w2 ⟨V,rfl,hR,q2⟩
 clear hcut1
 have hR4:CutR W1.heap.size w2 V (recB ep ver b t) [4,8,32,16] 4:=hR
 obtain⟨r,k,rfl,hr1,hr2,hk4,hkm,hx⟩:=hR4.spot (by decide)
 have hk63:k<=9223372036854775807:=by unfold maxLen at hkm;omega
 obtain⟨cur,hcur⟩:=hR4.blk
 obtain⟨x0,c0,p0⟩:=hx 0 (by omega)
 obtain⟨x1,c1,p1⟩:=hx 1 (by omega)
 obtain⟨x2,c2,p2⟩:=hx 2 (by omega)
 obtain⟨x3,c3,p3⟩:=hx 3 (by omega)
 rw[rec_cut ep ver b t hb 0 _ rfl]at p0
 rw[rec_cut ep ver b t hb 1 _ rfl]at p1
 rw[rec_cut ep ver b t hb 2 _ rfl]at p2
 rw[rec_cut ep ver b t hb 3 _ rfl]at p3
 obtain⟨b0,o0,z0,rfl,l0,g0⟩:=get_put p0 ⟨by decide,by decide⟩ he.1 (by have:=he.2;omega)
 obtain⟨b1,o1,z1,rfl,l1,g1⟩:=get_put p1 ⟨by decide,by decide⟩ hver.1 (by have:=hver.2;omega)
 have g3:=wpair_ok _ _ (pairB t.1 t.2) w2 p3 (pairB_len _ _)
 rw[pairOf_pairB ht.1 ht.2]at g3
 obtain⟨b3,o3,z3,rfl,_,l3,_,_,_⟩:=p3.eight (pairB_len _ _) (by omega)
 obtain⟨b2,o2,z2,rfl,_,l2,_,_,_⟩:=p2.eight hb (by omega)
 obtain⟨ta,tb⟩:=t
 unfold pv at g3
 simp only at g3
 have hx2:cur[2]? =some (.slice (some ⟨b2,o2,none⟩) 32 z2):=by rw[<-hcur.cell];exact c2
 have H2:=Lib.hid (And.intro q2 (And.intro p2 (And.intro hcur (And.intro hx2 hr1))))
 clear hR hR4 q2 hx p0 p1 p2 p3 hkm hr1 h ht hb hcur hx2
 go_wp2_with fail
 refine g0.mono ?_
 rintro e w3 ⟨rfl,rfl⟩
 clear g0
 go_wp2_with fail
 refine g1.mono ?_
 rintro e w3 ⟨rfl,rfl⟩
 clear g1
 go_wp2_with fail
 refine g3.mono ?_
 rintro e w3 ⟨rfl,q3⟩
 clear g3
 have we:=IntWalk.u32_in ep ⟨he.1,by have:=he.2;omega⟩
 clear c0 c1 c2 c3
 go_wp2_with fail
 obtain⟨w4,hw4⟩:∃w4,w4=w3.alloc (.cells #[.int .u64 ta,.int .u64 tb] 101):=⟨_,rfl⟩
 obtain⟨g,hg⟩:∃g,g=w3.heap.size:=⟨_,rfl⟩
 have bg:Blk w4 g 101 #[.int .u64 ta,.int .u64 tb]:=by rw[hw4,hg];exact Blk.new w3 101 _
 have q4:Below w3.heap.size w3 w4:=by rw[hw4];exact(Below.refl _ _).alloc (Nat.le_refl _) _
 rw[<-hw4,<-hg]
 clear hw4
 obtain⟨q1,b2_,b3_⟩:=H1.out
 obtain⟨q2,p2,hcur,hx2,hr1⟩:=H2.out
 have bt:=((b2_.below_ q2).below_ q3).below_ q4
 have bu:=((b3_.below_ q2).below_ q3).below_ q4
 have br:=(hcur.below_ q3).below_ q4
 have hq4:Below w.heap.size w w4:=q1.trans ((q2.trans ((q3.trans (q4.mono q3.size)).mono q2.size)).mono q1.size)
 have l2w:=b2_.lt
 have l3w:=b3_.lt
 have sz2:=q2.size
 have sz3:=q3.size
 have n1:r≠w.heap.size:=by omega
 have n2:g≠w.heap.size:=by omega
 have n3:r≠w.heap.size+1:=by omega
 have n4:g≠w.heap.size+1:=by omega
 have n5:w.heap.size+1≠w.heap.size:=by omega
 have p4:HasP (fun i=>i<w2.heap.size/\W1.heap.size<=i) w4 (.slice (some ⟨b2,o2,none⟩) 32 z2) b:=((p2.weakB (fun i hi e=>⟨hi,e⟩)).below_ q3).below_ q4
 have HF:=Lib.hid (And.intro p4 (And.intro hq4 (And.intro bt (And.intro bu (And.intro l2w l3w)))))
 have c2:=br.cell_ 2 hx2
 have e0:=bg.cell_ 0 rfl
 have e1:=bg.cell_ 1 rfl
 have lg:=bg.lt
 have lr:=br.lt
 have t0:=bt.cell_ 0 rfl
 have t1:=bt.cell_ 1 rfl
 have t2:=bt.cell_ 2 rfl
 have ft0:=bt.frozen 0
 have ft1:=bt.frozen 1
 have ft2:=bt.frozen 2
 have u0:=bu.cell_ 0 rfl
 have u1:=bu.cell_ 1 rfl
 have u2:=bu.cell_ 2 rfl
 have fu0:=bu.frozen 0
 have fu1:=bu.frozen 1
 have fu2:=bu.frozen 2
 have lt_:=bt.lt
 have lu_:=bu.lt
 clear q1 q2 q3 q4 b2_ b3_ hcur p2 hr1 hg p4 hq4
 go_region_held3 (fun w'=>w'.cell? ⟨r,2,none⟩=some (.slice (some ⟨b2,o2,none⟩) 32 z2)/\w'.cell? ⟨g,0,none⟩=some (.int .u64 ta)/\w'.cell? ⟨g,1,none⟩=some (.int .u64 tb))
  (first|(with_reducible exact s3rg br hx2 bg)|(with_reducible exact s3rg br.drew hx2 bg.drew)|(with_reducible exact s3rg (((br.far n1 _).far n1 _).far n1 _).drew hx2 (((bg.far n2 _).far n2 _).far n2 _).drew)|(with_reducible exact s3rg ((((((br.far n1 _).far n1 _).far n1 _).far n3 _).far n3 _).far n3 _).drew hx2 ((((((bg.far n2 _).far n2 _).far n2 _).far n4 _).far n4 _).far n4 _).drew))
  (fail)
 go_wp2_with fail
 obtain⟨p4,hq4,bt,bu,l2w,l3w⟩:=HF.out
 obtain⟨bt2,ot⟩:=set3 bt (.int .u32 ep) (.int .u32 65535) (.int .u64 ver)
 have bu2:=bu.grown ot (fun e=>n5 (Option.some.inj e))
 obtain⟨bu3,ou⟩:=set3 bu2 (.slice (some ⟨b2,o2,none⟩) 32 z2) (.int .u64 ta) (.int .u64 tb)
 have bt3:=bt2.grown ou (fun e=>n5 (Option.some.inj e).symm)
 have hq5:=below_only hq4 ot hq4.size (Nat.le_refl _)
 have hq6:=below_only hq5 ou hq5.size (Nat.le_succ _)
 have p5:=p4.keep ot.size (fun i hi e=>ot.block i hi (fun q=>by have:=Option.some.inj q;omega))
 have p6:=p5.keep ou.size (fun i hi e=>ou.block i hi (fun q=>by have:=Option.some.inj q;omega))
 exact ret_cell_cell_tmp 2 99 3 157 4 (by rfl) w.heap.size 0 (by rfl) (w.heap.size+1) 0 (by rfl) (.bool true) (by rfl) [.int .u32 ep,.int .u32 65535,.int .u64 ver] _ bt3.drew.range Tryz.underlying99 rfl sz99 [.slice (some ⟨b2,o2,none⟩) 32 z2,.int .u64 ta,.int .u64 tb] _ bu3.drew.range Tryz.underlying157 rfl sz157 rfl
  ⟨_,rfl,(p6.weak (fun _ _=>trivial)).drew,below_drewN hq6 1⟩
end Go.Proofs.YtggmdjdflaglpaaGreat
namespace Go.Proofs.YtggmdjdflaglpaaGreat
open Go.RowKit
set_option linter.unusedVariables false
theorem u2_mk {a b:Int}(h:U64 a) (k:U64 b):U2 (a,b):=⟨h,k⟩
set_option maxHeartbeats 2000000 in
set_option maxRecDepth 100000 in
theorem fsub_ok (key:Two) (n:Nce) (w:World) (hk:U2 key) (hn:n.ok):
 Calls Tryz.prog 82 #[pv key,nv n] w fun e w'=>e=.returned (pv (fsub key n))/\Below w.heap.size w w':=by
 have he:=fun W=>enc_ok key (bits .or .u64 (n.ep*4294967296) n.slot,n.ver) W hk (u2_mk (u64_bits _ _ _) hn.2.2)
 have hF:fsub key n=enc key (bits .or .u64 (n.ep*4294967296) n.slot,n.ver):=rfl
 obtain⟨⟨e0,e1⟩,⟨s0,s1⟩,⟨v0,v1⟩⟩:=hn
 obtain⟨k0,k1⟩:=key
 obtain⟨ep,sl,ver⟩:=n
 simp only at e0 e1 s0 s1 v0 v1 he
 obtain⟨x,hx⟩:∃x,x=(fsub (k0,k1) ⟨ep,sl,ver⟩).1:=⟨_,rfl⟩
 obtain⟨y,hy⟩:∃y,y=(fsub (k0,k1) ⟨ep,sl,ver⟩).2:=⟨_,rfl⟩
 unfold pv
 rw[<-hx,<-hy]
 rw[hF]at hx hy
 simp only at hx hy
 rw[<-hx,<-hy]at he
 unfold nv
 simp only
 clear hF hx hy hk
 obtain⟨W0,hW0⟩:∃W0,W0=((w.alloc (.cells #[.int .u64 k0,.int .u64 k1] 101)).alloc (.cells #[.int .u32 ep,.int .u32 sl,.int .u64 ver] 99)).alloc (.cells #[.int .u64 0,.int .u64 0] 101):=⟨_,rfl⟩
 have q0:Below w.heap.size w W0:=by rw[hW0];exact(((Below.refl _ _).alloc (Nat.le_refl _) _).alloc (by simp) _).alloc (by simp;omega) _
 have hB:Blk W0 (w.heap.size+1+1) 101 #[.int .u64 0,.int .u64 0]:=by
  rw[hW0]
  have:=Blk.new ((w.alloc (.cells #[.int .u64 k0,.int .u64 k1] 101)).alloc (.cells #[.int .u32 ep,.int .u32 sl,.int .u64 ver] 99)) 101 #[.int .u64 0,.int .u64 0]
  rw[World.size_alloc,World.size_alloc]at this
  exact this
 have HW:=Lib.hid hW0
 have H0:=Lib.hid (And.intro q0 hB)
 clear hW0 q0 hB
 go_enter Tryz.func82,Tryz.ntmps82
 go_wp2_with fail
 rw[<-HW.out]
 refine(he _).mono ?_
 rintro e w1 ⟨rfl,q1⟩
 clear he
 obtain⟨q0,hB⟩:=H0.out
 have q2:=q0.trans (q1.mono q0.size)
 have hB1:=hB.below_ q1
 have f0:=hB1.frozen 0
 have f1:=hB1.frozen 1
 have c0:=hB1.cell_ 0 rfl
 have c1:=hB1.cell_ 1 rfl
 have lb:=hB1.lt
 have H1:=Lib.hid (And.intro q2 hB1)
 clear q0 hB q1 q2 hB1
 go_wp2_with fail
 obtain⟨q2,hB1⟩:=H1.out
 have hf:=(hB1.set_to 0 (.int .u64 x) (cs':=#[.int .u64 x,.int .u64 0]) rfl).set_to 1 (.int .u64 y) (cs':=[.int .u64 x,.int .u64 y].toArray) rfl
 exact ret_cell 4 101 (by rfl) (w.heap.size+1+1) 0 (by rfl) [.int .u64 x,.int .u64 y] _ hf.range Tryz.underlying101 rfl sz101 rfl ⟨rfl,below_only q2 (only_set2 _ _ _ _ _ _) q2.size (by omega)⟩
theorem fsub_u (key:Two) (n:Nce) (hk:U2 key) (hn:n.ok):U2 (fsub key n):=enc_u _ _ (u2_mk (u64_bits _ _ _) hn.2.2)
theorem xor_u8 (x y:UInt8):bits .xor .u8 (x.toNat:Int) (y.toNat:Int)=(((x ^^^ y).toNat:Nat):Int):=by
 have hx:=x.toNat_lt
 have hy:=y.toNat_lt
 have e:(BitVec.ofInt 8 (x.toNat:Int) ^^^ BitVec.ofInt 8 (y.toNat:Int)).toNat=(x ^^^ y).toNat:=by
  rw[BitVec.toNat_xor,BitVec.toNat_ofInt,BitVec.toNat_ofInt,UInt8.toNat_xor]
  have e1:((x.toNat:Int)%((2^8:Nat):Int)).toNat=x.toNat:=by omega
  have e2:((y.toNat:Int)%((2^8:Nat):Int)).toNat=y.toNat:=by omega
  rw[e1,e2]
 show IntKind.u8.wrap ((BitVec.ofInt 8 (x.toNat:Int) ^^^ BitVec.ofInt 8 (y.toNat:Int)).toNat:Int)=_
 rw[e]
 have hz:=(x ^^^ y).toNat_lt
 exact IntWalk.u8_in _ ⟨by omega,by omega⟩
def xpart (c:By) (i:Nat):By:=c.take i++List.replicate (c.length-i) 0
theorem xpart_zero (c:By):xpart c 0=List.replicate c.length 0:=by simp[xpart]
theorem xpart_all (c:By):xpart c c.length=c:=by simp[xpart]
theorem xpart_len (c:By) (i:Nat) (h:i<=c.length):(xpart c i).length=c.length:=by simp[xpart];omega
theorem xpart_set (c:By) (i:Nat) (u:UInt8) (h:c[i]? =some u):(bvals (xpart c i)).toArray.setIfInBounds i (.int .u8 (u.toNat:Int))=(bvals (xpart c (i+1))).toArray:=by
 have hi:i<c.length:=(List.getElem?_eq_some_iff.1 h).1
 have e:(xpart c i).set i u=xpart c (i+1):=by
  unfold xpart
  have e1:c.length-i=(c.length-(i+1))+1:=by omega
  have hl:(c.take i).length=i:=by rw[List.length_take];omega
  rw[List.set_append_right _ _ (by omega),hl,Nat.sub_self,e1,List.replicate_succ,List.set_cons_zero,List.take_add_one,h]
  simp
 rw[<-e]
 unfold bvals
 rw[List.map_set]
 simp
theorem fxor_at {a b:By}{i:Nat}{x y:UInt8}(ha:a[i]? =some x) (hb:b[i]? =some y):(fxor a b)[i]? =some (x ^^^ y):=by
 unfold fxor
 rw[List.getElem?_zipWith,ha,hb]
theorem fxor_len (a b:By):(fxor a b).length=min a.length b.length:=by simp[fxor]
theorem HasP.atN {p:Nat->Prop}{w:World}{A:Option Addr}{n c:Nat}{l:By}(h:HasP p w (.slice A n c) l) {i:Nat}{u:UInt8}(hi:l[i]? =some u):∃b o,A=some ⟨b,o,none⟩/\p b/\b<w.heap.size/\w.cell? ⟨b,o+i,none⟩=some (.int .u8 (u.toNat:Int)):=by
 rcases h with⟨_,rfl⟩|⟨b,o,cap,h1,h2,h3,_,_,h6⟩
 ·simp at hi
 ·injection h1 with h1 _ _
  exact⟨b,o,h1,h2,h3,h6 i u hi⟩
set_option maxHeartbeats 2000000 in
set_option maxRecDepth 100000 in
theorem fxor_ok (p q:Nat->Prop) (va vb:Value) (a b:By) (w:World) (ha:HasP p w va a) (hb:HasP q w vb b) (hl:a.length=b.length) (hl2:a.length<=4000):
 Calls Tryz.prog 83 #[va,vb] w fun e w'=>∃v,e=.returned v/\OwnB w.heap.size w' v (fxor a b)/\Below w.heap.size w w':=by
 obtain⟨A,ca,rfl⟩:=ha.slice
 obtain⟨B,cb,rfl⟩:=hb.slice
 obtain⟨n,hn⟩:∃n,n=a.length:=⟨_,rfl⟩
 have hnb:b.length=n:=by omega
 have hc:(fxor a b).length=n:=by rw[fxor_len];omega
 obtain⟨c,hcc⟩:∃c,c=fxor a b:=⟨_,rfl⟩
 have hm:=fun W=>make_bytes n (by omega) W
 have hz:=xpart_zero c
 rw[hcc,hc,<-hcc]at hz
 rw[<-hz]at hm
 rw[hnb]at hb
 rw[<-hn]at ha
 rw[<-hcc]at hc ⊢
 rw[<-hn,hnb]
 have hst:Blk (w.alloc (.cells (bvals (xpart c 0)).toArray 5)) w.heap.size 5 (bvals (xpart c 0)).toArray:=Blk.new w 5 _
 have q0:Below w.heap.size w (w.alloc (.cells (bvals (xpart c 0)).toArray 5)):=(Below.refl _ _).alloc (Nat.le_refl _) _
 have H:=Lib.hid (And.intro ha (And.intro hb (And.intro hcc (And.intro hc (And.intro hn hnb)))))
 have H0:=Lib.hid (And.intro hst q0)
 have hn4:n<=4000:=by omega
 clear ha hb hcc hc hz hn hnb hst q0 hl hl2
 go_enter Tryz.func83,Tryz.ntmps83
 go_wp2_with fail
 go_loopw [6,15] (fun _ t wr=>∃i:Nat,t=.int .i64 i/\i<=n/\Blk wr w.heap.size 5 (bvals (xpart c i)).toArray/\Below w.heap.size w wr) (fun _ t _=>n-(intOf t).toNat)
 case atStart=>exact⟨0,rfl,by omega,H0.out.1,H0.out.2⟩
 case round=>
  obtain⟨i,rfl,hi,hB,hq⟩:=hrel
  by_cases hlt:i<n
  ·obtain⟨ha,hb,hcc,hc,hn,hnb⟩:=H.out
   have i0:(0:Int)<=(i:Int):=by omega
   have i1:(i:Int)<(n:Int):=by omega
   obtain⟨x,hx⟩:∃x,a[i]? =some x:=⟨_,List.getElem?_eq_getElem (by omega)⟩
   obtain⟨y,hy⟩:∃y,b[i]? =some y:=⟨_,List.getElem?_eq_getElem (by omega)⟩
   have hcx:c[i]? =some (x ^^^ y):=by rw[hcc];exact fxor_at hx hy
   obtain⟨ab,ao,rfl,_,al,ac⟩:=ha.atN hx
   obtain⟨bb,bo,rfl,_,bl,bc⟩:=hb.atN hy
   have ac2:=(hq.cell (p:=⟨ab,ao+i,none⟩) al).trans ac
   have bc2:=(hq.cell (p:=⟨bb,bo+i,none⟩) bl).trans bc
   have hxy:=xor_u8 x y
   have hset:=xpart_set c i _ hcx
   obtain⟨x0,hx0⟩:∃x0,(xpart c i)[i]? =some x0:=⟨_,List.getElem?_eq_getElem (by rw[xpart_len c i (by omega)];omega)⟩
   have oc:wr.cell? ⟨w.heap.size,i,none⟩=some (.int .u8 (x0.toNat:Int)):=hB.cell_ i (by rw[List.getElem?_toArray,bvals_at,hx0];rfl)
   have of:=hB.frozen i
   have ol:=hB.lt
   have al2:=Nat.lt_of_lt_of_le al hq.size
   have bl2:=Nat.lt_of_lt_of_le bl hq.size
   obtain⟨X,hX⟩:∃X:Int,X=(x.toNat:Int):=⟨_,rfl⟩
   obtain⟨Y,hY⟩:∃Y:Int,Y=(y.toNat:Int):=⟨_,rfl⟩
   obtain⟨Z,hZ⟩:∃Z:Int,Z=(((x ^^^ y).toNat:Nat):Int):=⟨_,rfl⟩
   rw[<-hX,<-hY,<-hZ]at hxy
   rw[<-hX]at ac ac2
   rw[<-hY]at bc bc2
   rw[<-hZ]at hset
   have HR:=Lib.hid (And.intro hset (And.intro hB hq))
   clear ha hb hcc hc hn hnb hx hy hcx hset hx0 hX hY hZ hB hq
   go_wp2_with fail
   go_region
   obtain⟨hset,hB,hq⟩:=HR.out
   have hB2:Blk (wr.setCell ⟨w.heap.size,i,none⟩ (.int .u8 Z)) w.heap.size 5 (bvals (xpart c (i+1))).toArray:=hB.set_to i _ hset
   have hq2:=below_only hq (only_setCell (p:=⟨w.heap.size,i,none⟩) (only_refl wr (some w.heap.size)) (.inl rfl) (.int .u8 Z)) hq.size (Nat.le_refl _)
   clear hset hB hq
   go_wp2_with fail
   go_roundw
   case rel=>exact⟨i+1,by go_num,by omega,hB2.drew,hq2.drew⟩
   case measure=>simp[intOf];omega
  ·have hin:i=n:=by omega
   subst hin
   have hall:xpart c i=c:=by rw[<-H.out.2.2.2.1];exact xpart_all c
   rw[hall]at hB
   go_wp2_with fail
   go_ret
   have:=OwnB.of_blk (B:=w.heap.size) hB (by rw[H.out.2.2.2.1];unfold maxLen;omega) (Nat.le_refl _)
   rw[H.out.2.2.2.1]at this
   exact⟨_,rfl,this,hq⟩
theorem fbytesTo_succ (sub:Two) (i:Nat):fbytesTo sub (i+1)=fbytesTo sub i++pairB (enc sub ((i:Int)+1,0)).1 (enc sub ((i:Int)+1,0)).2:=by
 unfold fbytesTo
 rw[List.range_succ,List.flatMap_append]
 simp
theorem u2_i (j:Nat) (hj:j<=1000000):U2 ((j:Int)+1,0):=⟨⟨by simp only;omega,by simp only;omega⟩,⟨by simp only;omega,by simp only;omega⟩⟩
set_option maxHeartbeats 4000000 in
set_option maxRecDepth 100000 in
theorem fbytes_ok (sub:Two) (n:Nat) (w:World) (hs:U2 sub) (hn:n<=4000):
 Calls Tryz.prog 84 #[pv sub,.int .i64 n] w fun e w'=>∃v,e=.returned v/\HasP (w.heap.size<=·) w' v (fbytes sub n)/\Below w.heap.size w w':=by
 obtain⟨i0,hi,hz0,hz1,hz2⟩:=info_parts info5
 obtain⟨s0,s1⟩:=sub
 have he:=fun(j:Nat) (hj:j<=1000000) W=>enc_ok (s0,s1) ((j:Int)+1,0) W hs (u2_i j hj)
 have hu:=fun(j:Nat) (hj:j<=1000000)=>enc_u (s0,s1) ((j:Int)+1,0) (u2_i j hj)
 have hby:=fun(x y:Int) (hx:U64 x) (hy:U64 y) W=>bytes_ok x y W hx.1 hx.2 hy.1 hy.2
 have HE:=Lib.hid (And.intro he (And.intro hu hby))
 have t1:decide ((n:Int)<0)=false:=by simp
 have t2:decide ((4000:Int)<(n:Int))=false:=by simp;omega
 unfold pv
 simp only
 clear he hu hby hs
 have hB0:Blk (w.alloc (.cells #[.int .u64 s0,.int .u64 s1] 101)) w.heap.size 101 #[.int .u64 s0,.int .u64 s1]:=Blk.new w 101 _
 have q0:Below w.heap.size w (w.alloc (.cells #[.int .u64 s0,.int .u64 s1] 101)):=(Below.refl _ _).alloc (Nat.le_refl _) _
 have H0:=Lib.hid (And.intro hB0 q0)
 clear hB0 q0
 go_enter Tryz.func84,Tryz.ntmps84
 go_wp2_with fail
 go_loopw [5,6] (fun r t wr=>∃(j:Nat) (V:Value),V=r/\t=.int .u64 ((j:Int)+1)/\j<=(n+15) / 16/\OwnB (w.heap.size+1) wr V (fbytesTo (s0,s1) j)/\Blk wr w.heap.size 101 #[.int .u64 s0,.int .u64 s1]/\Below w.heap.size w wr) (fun _ t _=>1000-(intOf t).toNat)
 case atStart=>exact⟨0,_,rfl,by go_num,by omega,OwnB.nil _ _,H0.out.1,H0.out.2⟩
 case round=>
  obtain⟨j,V,rfl,rfl,hj,hO,hB,hq⟩:=hrel
  have hlen:=fbytesTo_len (s0,s1) j
  obtain⟨A,cp,hV⟩:=hO.has.slice
  subst hV
  obtain⟨L,hL⟩:∃L,L=(fbytesTo (s0,s1) j).length:=⟨_,rfl⟩
  have hL16:L=16*j:=hL.trans hlen
  rw[<-hL]
  by_cases hlt:L<n
  ·obtain⟨he,hu,hby⟩:=HE.out
   have hj6:j<=1000000:=by omega
   have he':=he j hj6
   have hu':=hu j hj6
   have hsucc:=fbytesTo_succ (s0,s1) j
   obtain⟨X,hX⟩:∃X,X=(enc (s0,s1) ((j:Int)+1,0)).1:=⟨_,rfl⟩
   obtain⟨Y,hY⟩:∃Y,Y=(enc (s0,s1) ((j:Int)+1,0)).2:=⟨_,rfl⟩
   have hx1:U64 X:=by rw[hX];exact hu'.1
   have hy1:U64 Y:=by rw[hY];exact hu'.2
   rw[<-hX,<-hY]at he' hsucc
   have hby':=hby X Y hx1 hy1
   have hLn:(L:Int)<(n:Int):=by omega
   have c0:=hB.cell_ 0 rfl
   have c1:=hB.cell_ 1 rfl
   have lb:=hB.lt
   have jw:(j:Int)+1<1000:=by omega
   rw[<-hL]at hO
   have HO2:=Lib.hid (And.intro hO (And.intro hB (And.intro hq (And.intro hsucc (And.intro hL hL16)))))
   clear he hu hby hu' hX hY hx1 hy1 hsucc hO hB hq hlen hL hL16 hlt
   go_wp2_with fail
   refine(he' _).mono ?_
   rintro e w1 ⟨rfl,q1⟩
   clear he'
   have HQ1:=Lib.hid q1
   clear q1
   go_wp2_with fail
   refine(hby' _).mono ?_
   rintro e w2 ⟨v2,rfl,o2,q2⟩
   clear hby' c0 c1 lb
   obtain⟨hO,hB,hq,hsucc,hL,hL16⟩:=HO2.out
   have q1:=HQ1.out
   obtain⟨mm,hmm⟩:∃mm,mm=(pairB X Y).length:=⟨_,rfl⟩
   have hm1:mm<=16:=by rw[hmm,pairB_len];omega
   obtain⟨b1,p1,cap1,rfl,_,hb1,_,_,hc1⟩:=o2.has.eight hmm.symm (by rw[hmm,pairB_len];omega)
   have HM:=Lib.hid hmm
   clear hmm
   have hO2:=(hO.below_ q1).below_ q2
   have hB2:=(hB.below_ q1).below_ q2
   have hq2:=(hq.trans (q1.mono hq.size)).trans (q2.mono ((hq.trans (q1.mono hq.size)).size))
   clear o2
   have hszz:=hB2.lt
   have hll:(fbytesTo (s0,s1) j).length<=100000:=by rw[<-hL,hL16];omega
   clear hL16 hL hsucc hO hB hq q1 q2
   go_wp2_with (at_builtin;go_loud (refine wpList_append_own _ rfl _ _ 32 rfl (w.heap.size+1) 5 i0 (.int .u8 0) 1 1 Tryz.underlying32 hi hz0 hz1 hz2 rfl (by decide) _ _ _ rfl hO2 ⟨b1,p1,none⟩ mm cap1 (bvals (pairB X Y)) rfl (by rw[bvals_len,HM.out];simp) (ex_slice (fun _=>True) _ b1 p1 cap1 (pairB X Y) hc1) (bvals_one (pairB X Y)) (by unfold maxLen;omega) (by omega) (Nat.succ_le_of_lt hszz) ?_;intro v' w3 hown3 hgrow3 hnil3;go_frame))
   obtain⟨_,_,_,hsucc,hL,_⟩:=HO2.out
   have hO3:OwnB (w.heap.size+1) w3 v' (fbytesTo (s0,s1) (j+1)):=by rw[hsucc];exact OwnB.of hown3 (by rw[List.length_append,HM.out]) (by rw[bvals_app])
   have hq3:=hq2.grown hgrow3 hq2.size (fun k hk=>by have:=(hO2.ge hk).1;omega)
   have hB3:=hB2.grown hgrow3 (fun e=>by have:=(hO2.ge e.symm).1;omega)
   clear hown3 hgrow3 hnil3 hsucc hL hO2 hB2 hq2 hll
   go_wp2_with fail
   go_roundw
   case rel=>exact⟨j+1,_,rfl,by go_num,by omega,hO3,hB3,hq3⟩
   case measure=>simp[intOf];omega
  ·have hje:j=(n+15) / 16:=by omega
   have hnL:n<=L:=by omega
   have m1:¬((L:Int)<(n:Int)):=by omega
   have m2:(n:Int)<=(L:Int):=by omega
   rw[<-hL]at hO
   have hfb:fbytes (s0,s1) n=(fbytesTo (s0,s1) j).take n:=by unfold fbytes;rw[hje]
   have hfl:(fbytes (s0,s1) n).length=n:=fbytes_len _ _
   have hh:=hO.has
   have HF:=Lib.hid (And.intro hfb (And.intro hfl (And.intro hL hq)))
   rcases hh with⟨h1,h2⟩|⟨b,o,cap,h1,hb1,hb2,h3,h4,h5⟩
   ·injection h1 with e1 e2 e3
    subst e1
    have hn0:n=0:=by omega
    clear HF hfl hfb
    subst hn0
    have hL0:L=0:=by omega
    subst hL0
    subst e3
    have HQ:=Lib.hid hq
    clear hO hL hlen hje hB hq h2 e2 hL16 hlt hnL hn hj m1 m2 H0 HE
    go_wp2_with fail
    go_ret
    exact⟨_,rfl,.inl ⟨rfl,List.eq_nil_of_length_eq_zero (fbytes_len _ _)⟩,HQ.out⟩
   ·injection h1 with e1 e2 e3
    subst e1
    subst e3
    rw[<-hL]at h3
    have hcp:cp<=9223372036854775807:=by unfold maxLen at h4;omega
    have hLcp:L<=cp:=h3
    have HQ:=Lib.hid (And.intro hq (And.intro hb1 (And.intro hb2 (And.intro h4 h5))))
    have hnc:n<=cp:=by omega
    clear hO hfb hfl hL hlen hje hB hq h5 hb1 e2
    go_wp2_with fail
    go_ret
    obtain⟨hq,hb1,hb2,h4,h5⟩:=HQ.out
    obtain⟨hfb,hfl,hL,_⟩:=HF.out
    refine⟨_,rfl,.inr ⟨b,o,cp,by rw[hfl];rfl,by show w.heap.size<=b;omega,hb2,by rw[hfl];exact hnc,h4,fun i u hi=>?_⟩,hq⟩
    refine h5 i u ?_
    rw[hfb,List.getElem?_take]at hi
    split at hi
    ·exact hi
    ·cases hi
end Go.Proofs.YtggmdjdflaglpaaGreat
