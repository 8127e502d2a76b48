/- Either lock as plain functions (no walk). Either lock in memory; what its calls answer, as it is asked above. The tree's sums: a leaf's, two nodes'. The tree's sums: two nodes'. The lock: Seal by the ideal sealer; the ideal lock's calls as they are asked above. -/
import Derived.Test.YtggmdjdflaglpaaGreatR18
import Derived.Test.YtggmdjdflaglpaaGreatR11
import Derived.Test.YtggmdjdflaglpaaGreatR16
namespace Go.Proofs.YtggmdjdflaglpaaGreat
open Go.RowKit
set_option linter.unusedVariables false
inductive Lk where
 |ideal (O:Orc)
 |real
namespace Lk
def shut:Lk->Two->Nce->By->By->By×Two
 |.ideal O,_,_,_,_=>(oout (O.iss.length+1),(kSeal,(O.iss.length:Int)+1))
 |.real,key,n,head,data=>gseal key n head data
def shutd:Lk->Two->Nce->By->By->Lk
 |.ideal O,key,n,head,data=>.ideal (oseal O key n head data)
 |.real,_,_,_,_=>.real
def opens:Lk->Two->Nce->By->By->Two->Option By
 |.ideal O,key,n,head,b,tag=>oopen O.iss key n head b tag
 |.real,key,n,head,b,tag=>gopen key n head b tag
def sum:Lk->By->Two
 |.ideal O,s=>(kSum,(O.sums.idxOf s:Int)+1)
 |.real,s=>dsum s
def summed:Lk->By->Lk
 |.ideal O,s=>.ideal (osum O s)
 |.real,_=>.real
def lim (k:Nat):Lk->Prop
 |.ideal O=>O.iss.length<=k/\O.sums.length<=k
 |.real=>True
end Lk
theorem sumsOf_len (L:List By) (s:By):(sumsOf L s).length<=L.length+1:=by
 unfold sumsOf
 split<;>simp
theorem Lk.lim_shutd {L:Lk}{k:Nat}(h:L.lim k) (key:Two) (n:Nce) (head data:By):(L.shutd key n head data).lim (k+1):=by
 cases L with
 |ideal O=>obtain⟨h1,h2⟩:=h;exact⟨by simp[oseal];omega,by simp[oseal];omega⟩
 |real=>trivial
theorem Lk.lim_summed {L:Lk}{k:Nat}(h:L.lim k) (s:By):(L.summed s).lim (k+1):=by
 cases L with
 |ideal O=>obtain⟨h1,h2⟩:=h;have:=sumsOf_len O.sums s;exact⟨by simp[osum];omega,by simp[osum];omega⟩
 |real=>trivial
theorem Lk.lim_mono {L:Lk}{k j:Nat}(h:L.lim k) (hj:k<=j):L.lim j:=by
 cases L with
 |ideal O=>exact⟨by have:=h.1;omega,by have:=h.2;omega⟩
 |real=>trivial
theorem Lk.sum_u {L:Lk}{k:Nat}(h:L.lim k) (hk:k<=1000000) (s:By):U2 (L.sum s):=by
 cases L with
 |ideal O=>
  have:=List.idxOf_le_length (a:=s) (l:=O.sums)
  have h2:=h.2
  exact⟨by show U64 kSum;unfold U64 kSum;decide,⟨by simp only[Lk.sum];omega,by simp only[Lk.sum];omega⟩⟩
 |real=>
  show U2 (dsum s)
  unfold dsum
  generalize (List.range ((dfill s).length / 16))=R
  have:∀(R:List Nat) (st:Two),U2 st->U2 (R.foldl (fun st j=>dstepS st (pairOf (((dfill s).drop (16*j)).take 16))) st):=by
   intro R
   induction R with
   |nil=>exact fun st h=>h
   |cons a R ih=>exact fun st h=>ih _ (dstepS_u _ _)
  exact this R _ (by unfold U2 U64;decide)
theorem Lk.shut_u {L:Lk}{k:Nat}(h:L.lim k) (hk:k<=1000000) (key:Two) (n:Nce) (head data:By):U2 (L.shut key n head data).2:=by
 cases L with
 |ideal O=>
  have h1:=h.1
  exact⟨by show U64 kSeal;unfold U64 kSeal;decide,⟨by simp only[Lk.shut];omega,by simp only[Lk.shut];omega⟩⟩
 |real=>exact fadd_u _ _
theorem Lk.shut_len (L:Lk) (key:Two) (n:Nce) (head data:By) (hd:data.length=32):(L.shut key n head data).1.length=32:=by
 cases L with
 |ideal O=>exact oout_len _
 |real=>simp[Lk.shut,gseal,fxor,fbytes_len,hd]
end Go.Proofs.YtggmdjdflaglpaaGreat
namespace Go.Proofs.YtggmdjdflaglpaaGreat
open Go.RowKit
set_option linter.unusedVariables false
def rcells:Array Value:=#[.func (.func 51) #[] #[],.func (.func 52) #[] #[],.func (.func 53) #[] #[],.func (.func 54) #[.pointer none] #[],.func (.func 55) #[.pointer none] #[]]
def LkR (ρ:Rl) (w:World) (l:Nat):Lk->Prop
 |.ideal O=>∃o,LckR ρ w l o O
 |.real=>Blk w l 130 rcells/\ρ l=rLck
theorem LkR.keep {ρ ρ':Rl}{w w':World}{l:Nat}{L:Lk}(h:LkR ρ w l L) (hs:w.heap.size<=w'.heap.size) (hk:∀b,b<w.heap.size->rsLck (ρ b)->w'.heap[b]? =w.heap[b]? /\ρ' b=ρ b):LkR ρ' w' l L:=by
 cases L with
 |ideal O=>obtain⟨o,h⟩:=h;exact⟨o,h.keep hs hk⟩
 |real=>
  obtain⟨h1,h2⟩:=h
  have:=hk l h1.lt (.inl h2)
  exact⟨this.1.trans h1,this.2.trans h2⟩
theorem LkR.lt {ρ:Rl}{w:World}{l:Nat}{L:Lk}(h:LkR ρ w l L):l<w.heap.size:=by
 cases L with
 |ideal O=>obtain⟨o,h⟩:=h;exact h.1.lt
 |real=>exact h.1.lt
theorem LkR.role {ρ:Rl}{w:World}{l:Nat}{L:Lk}(h:LkR ρ w l L):ρ l=rLck:=by
 cases L with
 |ideal O=>obtain⟨o,h⟩:=h;exact h.2.1
 |real=>exact h.2
theorem LkR.below_ {ρ:Rl}{w w':World}{l:Nat}{L:Lk}(h:LkR ρ w l L) (hb:Below w.heap.size w w'):LkR ρ w' l L:=h.keep hb.size (fun b hx _=>⟨hb.block b hx,rfl⟩)
def SumOk:Prop:=∀(ρ:Rl) (l:Nat) (L:Lk) (v:Value) (Ls:List By) (w:World),Fresh ρ w->LkR ρ w l L->Rows w v Ls->total Ls<=1000->L.lim 900000->
 Calls Tryz.prog 168 #[.pointer (some ⟨l,0,none⟩),v] w fun e w'=>e=.returned (pv (L.sum Ls.flatten))/\LkR ρ w' l (L.summed Ls.flatten)/\Ste rtOrc ρ w ρ w'
def OpenOk:Prop:=∀(ρ:Rl) (p q:Nat->Prop) (l:Nat) (L:Lk) (key:Two) (n:Nce) (vh:Value) (head:By) (vb:Value) (b:By) (tag:Two) (w:World),LkR ρ w l L->U2 key->n.ok->U2 tag->HasP p w vh head->HasP q w vb b->head.length<=4000->b.length<=4000->
 Calls Tryz.prog 137 #[.pointer (some ⟨l,0,none⟩),pv key,nv n,vh,.agg #[vb,.int .u64 tag.1,.int .u64 tag.2]] w fun e w'=>
  ∃v,e=.returned (.tuple #[v,.bool (L.opens key n head b tag).isSome])/\OwnB w.heap.size w' v ((L.opens key n head b tag).getD [])/\Below w.heap.size w w'
def ShutOk:Prop:=∀(ρ:Rl) (p q:Nat->Prop) (l:Nat) (L:Lk) (key:Two) (n:Nce) (vh:Value) (head:By) (vd:Value) (data:By) (w:World),Fresh ρ w->LkR ρ w l L->U2 key->n.ok->HasP p w vh head->HasP q w vd data->head.length<=4000->data.length=32->L.lim 900000->
 Calls Tryz.prog 156 #[.pointer (some ⟨l,0,none⟩),pv key,nv n,vh,vd] w fun e w'=>
  ∃v,e=.returned (.tuple #[.agg #[v,.int .u64 (L.shut key n head data).2.1,.int .u64 (L.shut key n head data).2.2],.bool true])/\
   ∃ρ',HasP (fun b=>w.heap.size<=b/\ρ' b=0) w' v (L.shut key n head data).1/\LkR ρ' w' l (L.shutd key n head data)/\Ste rtOrc ρ w ρ' w'
def leafS (b:By):By:=0::b
def nodeS (a b:Two):By:=1::(pairB a.1 a.2++pairB b.1 b.2)
theorem Rows.nil_of {w:World}:True:=trivial
end Go.Proofs.YtggmdjdflaglpaaGreat
namespace Go.Proofs.YtggmdjdflaglpaaGreat
open Go.RowKit
set_option linter.unusedVariables false
theorem has_one (w:World) (c:UInt8):Has (w.alloc (.cells #[.int .u8 (c.toNat:Int)] 5)) (.slice (some ⟨w.heap.size,0,none⟩) 1 1) [c]:=
 .inr ⟨w.heap.size,0,1,rfl,trivial,by simp,by simp,by unfold maxLen;omega,fun j u hj=>by
  rw[World.cell?_alloc_new,Nat.zero_add]
  cases j with
  |zero=>simp at hj;subst hj;rfl
  |succ j=>simp at hj⟩
theorem ste_back {T:Nat->Prop}{ρ:Rl}{w W w1 w2:World}{g:Nat}(hb:Below w.heap.size w W) (hs:Ste T ρ W ρ w1) (hg:w1.grownBy w2 (some g)) (hl:w.heap.size<=g):Ste T ρ w ρ w2:=by
 have hch:Ch (fun i=>T (ρ i)) w w2:=((Ch.of_below hb).trans hs.ch).then_only hg hl
 exact⟨hch,fun _ _=>rfl,fun i hi=>hs.fresh i (Nat.le_trans hg.size hi)⟩
theorem lk_back {ρ:Rl}{w1 w2:World}{g l:Nat}{L:Lk}(h:LkR ρ w1 l L) (hg:w1.grownBy w2 (some g)) (h0:ρ g=0):LkR ρ w2 l L:=
 h.keep hg.size (fun b hb e=>⟨hg.block b hb (fun c=>by injection c with c;rw[c,h0]at e;unfold rsLck rsOrc at e;revert e;decide),rfl⟩)
set_option maxHeartbeats 4000000 in
set_option maxRecDepth 100000 in
theorem tleaf_ok (HS:SumOk) (ρ:Rl) (p:Nat->Prop) (l:Nat) (L:Lk) (v:Value) (leaf:By) (w:World) (hf:Fresh ρ w) (h:LkR ρ w l L) (hv:HasP p w v leaf) (hne:leaf≠[]) (hl:leaf.length<=900) (hlim:L.lim 900000):
 Calls Tryz.prog 139 #[.pointer (some ⟨l,0,none⟩),v] w fun e w'=>e=.returned (pv (L.sum (leafS leaf)))/\LkR ρ w' l (L.summed (leafS leaf))/\Ste rtOrc ρ w ρ w':=by
 obtain⟨A,cap,rfl⟩:=hv.slice
 obtain⟨n,hn⟩:∃n,n=leaf.length:=⟨_,rfl⟩
 rw[<-hn]at hv ⊢
 obtain⟨W,hW⟩:∃W,W=((w.alloc (.cells #[.int .u64 0,.int .u64 0] 101)).alloc (.cells #[.int .u8 0] 5)).alloc (.cells #[.slice (some ⟨w.heap.size+1,0,none⟩) 1 1,.slice A n cap] 32):=⟨_,rfl⟩
 have hbw:Below w.heap.size w W:=by rw[hW];exact(((Below.refl _ _).alloc (Nat.le_refl _) _).alloc (by simp) _).alloc (by simp;omega) _
 have hB:Blk W w.heap.size 101 #[.int .u64 0,.int .u64 0]:=by rw[hW];exact((Blk.new w 101 _).alloc _).alloc _
 have hR:Rows W (.slice (some ⟨w.heap.size+1+1,0,none⟩) 2 2) [[0],leaf]:=by
  have hA:Acc W [(.slice (some ⟨w.heap.size+1,0,none⟩) 1 1,[0]),(.slice A n cap,leaf)]:=by
   intro x hx
   simp at hx
   rcases hx with rfl|rfl
   ·rw[hW]
    have:=has_one (w.alloc (.cells #[.int .u64 0,.int .u64 0] 101)) 0
    rw[World.size_alloc]at this
    exact this.alloc _
   ·exact hv.any.below_ hbw
  have hb2:Blk W (w.heap.size+1+1) 32 #[.slice (some ⟨w.heap.size+1,0,none⟩) 1 1,.slice A n cap]:=by
   rw[hW]
   have:=Blk.new ((w.alloc (.cells #[.int .u64 0,.int .u64 0] 101)).alloc (.cells #[.int .u8 0] 5)) 32 #[.slice (some ⟨w.heap.size+1,0,none⟩) 1 1,.slice A n cap]
   rw[World.size_alloc,World.size_alloc]at this
   exact this
  exact Acc.rows hA hb2 rfl (by simp[hne]) (by simp)
 have hc:=HS ρ l L _ _ W (fun i hi=>hf i (Nat.le_trans hbw.size hi)) (h.below_ hbw) hR (by simp[total];omega) hlim
 have hfl:([[0],leaf]:List By).flatten=leafS leaf:=by simp[leafS]
 rw[hfl]at hc
 obtain⟨s,hs⟩:∃s,s=leafS leaf:=⟨_,rfl⟩
 rw[<-hs]at hc ⊢
 obtain⟨ta,hta⟩:∃t,t=L.sum s:=⟨_,rfl⟩
 rw[<-hta]at hc ⊢
 unfold pv at hc ⊢
 obtain⟨ta,tb⟩:=ta
 simp only at hc ⊢
 have h0:ρ w.heap.size=0:=hf _ (Nat.le_refl _)
 have HK:=Lib.hid (And.intro hbw (And.intro hB h0))
 clear hfl hs hta hR hbw hB hv hn
 subst hW
 go_enter Tryz.func139,Tryz.ntmps139
 go_wp2_with fail
 refine hc.mono ?_
 rintro e w1 ⟨rfl,h1,s1⟩
 obtain⟨hbw,hB,h0⟩:=HK.out
 have hB1:Blk w1 w.heap.size 101 #[.int .u64 0,.int .u64 0]:=hB.ch s1.ch (by rw[h0];unfold rtOrc;decide)
 have f0:=hB1.frozen 0
 have f1:=hB1.frozen 1
 have b0:=hB1.cell_ 0 rfl
 have b1:=hB1.cell_ 1 rfl
 have lb:=hB1.lt
 have HB1:=Lib.hid hB1
 have HO:=Lib.hid (And.intro h1 (And.intro s1 hbw))
 clear hB1 h1 s1 hbw hc hB
 go_wp2_with fail
 have bR:=(HB1.out.set_to 0 (.int .u64 ta) (cs':=#[.int .u64 ta,.int .u64 0]) rfl).set_to 1 (.int .u64 tb) (cs':=[.int .u64 ta,.int .u64 tb].toArray) rfl
 have g2:=only_set2 w1 w.heap.size 0 1 (.int .u64 ta) (.int .u64 tb)
 obtain⟨h1,s1,hbw⟩:=HO.out
 exact ret_cell 4 101 (by rfl) w.heap.size 0 (by rfl) _ _ bR.range Tryz.underlying101 rfl sz101 rfl ⟨rfl,lk_back h1 g2 h0,ste_back hbw s1 g2 (Nat.le_refl _)⟩
end Go.Proofs.YtggmdjdflaglpaaGreat
namespace Go.Proofs.YtggmdjdflaglpaaGreat
open Go.RowKit
set_option linter.unusedVariables false
theorem k4of {w:World}{h:Nat}{a b c d:Int}(b0:Blk w h 101 #[.int .u64 a,.int .u64 b]) (b1:Blk w (h+1) 101 #[.int .u64 c,.int .u64 d]):
 w.cell? ⟨h,0,none⟩=some (.int .u64 a)/\w.cell? ⟨h,1,none⟩=some (.int .u64 b)/\w.cell? ⟨h+1,0,none⟩=some (.int .u64 c)/\w.cell? ⟨h+1,1,none⟩=some (.int .u64 d):=
 ⟨b0.cell_ 0 rfl,b0.cell_ 1 rfl,b1.cell_ 0 rfl,b1.cell_ 1 rfl⟩
theorem k4set {w:World}{h x i:Nat}{v:Value}{a b c d:Int}(hx:h+1<x)
 (k:w.cell? ⟨h,0,none⟩=some (.int .u64 a)/\w.cell? ⟨h,1,none⟩=some (.int .u64 b)/\w.cell? ⟨h+1,0,none⟩=some (.int .u64 c)/\w.cell? ⟨h+1,1,none⟩=some (.int .u64 d)):
 (w.setCell ⟨x,i,none⟩ v).cell? ⟨h,0,none⟩=some (.int .u64 a)/\(w.setCell ⟨x,i,none⟩ v).cell? ⟨h,1,none⟩=some (.int .u64 b)/\(w.setCell ⟨x,i,none⟩ v).cell? ⟨h+1,0,none⟩=some (.int .u64 c)/\(w.setCell ⟨x,i,none⟩ v).cell? ⟨h+1,1,none⟩=some (.int .u64 d):=by
 have e:∀(b j:Nat),b≠x->(w.setCell ⟨x,i,none⟩ v).cell? ⟨b,j,none⟩=w.cell? ⟨b,j,none⟩:=fun b j hb=>by
  have:=Below.heap_setCell w ⟨x,i,none⟩ v b hb
  simp only[World.cell?,this]
 rw[e h 0 (by omega),e h 1 (by omega),e (h+1) 0 (by omega),e (h+1) 1 (by omega)]
 exact k
theorem acc3 {w:World}{v1 v2 v3:Value}{l1 l2 l3:By}(h1:Has w v1 l1) (h2:Has w v2 l2) (h3:Has w v3 l3) (n1:l1≠[]) (n2:l2≠[]) (n3:l3≠[]):
 Rows (w.alloc (.cells #[v1,v2,v3] 32)) (.slice (some ⟨w.heap.size,0,none⟩) 3 3) [l1,l2,l3]:=by
 have hA:Acc (w.alloc (.cells #[v1,v2,v3] 32)) [(v1,l1),(v2,l2),(v3,l3)]:=by
  intro x hx
  simp at hx
  rcases hx with rfl|rfl|rfl
  ·exact h1.alloc _
  ·exact h2.alloc _
  ·exact h3.alloc _
 exact Acc.rows hA (Blk.new w 32 _) rfl (by simp[n1,n2,n3]) (by simp)
theorem bytes_at (a b:Int) (w:World) (a0:0<=a) (a1:a<18446744073709551616) (b0:0<=b) (b1:b<18446744073709551616):
 Calls Tryz.prog 124 #[.agg #[.int .u64 a,.int .u64 b]] w fun e w'=>∃A z,e=.returned (.slice A 16 z)/\Has w' (.slice A 16 z) (pairB a b)/\Below w.heap.size w w':=by
 refine(bytes_ok a b w a0 a1 b0 b1).mono ?_
 rintro e w1 ⟨v,rfl,o,q⟩
 obtain⟨A,z,rfl⟩:=o.has.slice
 have:=o.has.any
 rw[pairB_len]at this ⊢
 exact⟨A,z,rfl,this,q⟩
set_option maxHeartbeats 8000000 in
set_option maxRecDepth 100000 in
theorem tnode_ok (HS:SumOk) (ρ:Rl) (l:Nat) (L:Lk) (x y:Two) (w:World) (hf:Fresh ρ w) (h:LkR ρ w l L) (hx:U2 x) (hy:U2 y) (hlim:L.lim 900000):
 Calls Tryz.prog 140 #[.pointer (some ⟨l,0,none⟩),pv x,pv y] w fun e w'=>e=.returned (pv (L.sum (nodeS x y)))/\LkR ρ w' l (L.summed (nodeS x y))/\Ste rtOrc ρ w ρ w':=by
 have hfl:([[1],pairB x.1 x.2,pairB y.1 y.2]:List By).flatten=nodeS x y:=by simp[nodeS]
 obtain⟨a,b⟩:=x
 obtain⟨c,d⟩:=y
 obtain⟨⟨a0,a1⟩,b0,b1⟩:=hx
 obtain⟨⟨c0,c1⟩,d0,d1⟩:=hy
 simp only at a0 a1 b0 b1 c0 c1 d0 d1 hfl
 obtain⟨s,hs⟩:∃s,s=nodeS (a,b) (c,d):=⟨_,rfl⟩
 rw[<-hs]at hfl ⊢
 have hcs:∀v W,Fresh ρ W->LkR ρ W l L->Rows W v [[1],pairB a b,pairB c d]->Calls Tryz.prog 168 #[.pointer (some ⟨l,0,none⟩),v] W fun e w'=>e=.returned (pv (L.sum s))/\LkR ρ w' l (L.summed s)/\Ste rtOrc ρ W ρ w':=fun v W h1 h2 h3=>by
  have:=HS ρ l L v _ W h1 h2 h3 (by simp[total,pairB_len]) hlim
  rw[hfl]at this
  exact this
 obtain⟨t,ht⟩:∃t,t=L.sum s:=⟨_,rfl⟩
 rw[<-ht]at hcs ⊢
 unfold pv at hcs ⊢
 obtain⟨ta,tb⟩:=t
 simp only at hcs ⊢
 obtain⟨W,hW⟩:∃W,W=((w.alloc (.cells #[.int .u64 a,.int .u64 b] 101)).alloc (.cells #[.int .u64 c,.int .u64 d] 101)).alloc (.cells #[.int .u64 0,.int .u64 0] 101):=⟨_,rfl⟩
 have hbw:Below w.heap.size w W:=by rw[hW];exact(((Below.refl _ _).alloc (Nat.le_refl _) _).alloc (by simp) _).alloc (by simp;omega) _
 have hB0:Blk W w.heap.size 101 #[.int .u64 a,.int .u64 b]:=by rw[hW];exact((Blk.new w 101 _).alloc _).alloc _
 have hB1:Blk W (w.heap.size+1) 101 #[.int .u64 c,.int .u64 d]:=by
  rw[hW]
  have:=Blk.new (w.alloc (.cells #[.int .u64 a,.int .u64 b] 101)) 101 #[.int .u64 c,.int .u64 d]
  rw[World.size_alloc]at this
  exact this.alloc _
 have hB2:Blk W (w.heap.size+1+1) 101 #[.int .u64 0,.int .u64 0]:=by
  rw[hW]
  have:=Blk.new ((w.alloc (.cells #[.int .u64 a,.int .u64 b] 101)).alloc (.cells #[.int .u64 c,.int .u64 d] 101)) 101 #[.int .u64 0,.int .u64 0]
  rw[World.size_alloc,World.size_alloc]at this
  exact this
 have hL:LkR ρ W l L:=h.below_ hbw
 have hfr:∀b,w.heap.size<=b->ρ b=0:=hf
 clear hfl hs ht h
 go_enter Tryz.func140,Tryz.ntmps140
 go_wp2_with fail
 rw[<-hW]
 clear hW
 go_region_held3 (fun w'=>w'.cell? ⟨w.heap.size,0,none⟩=some (.int .u64 a)/\w'.cell? ⟨w.heap.size,1,none⟩=some (.int .u64 b)/\w'.cell? ⟨w.heap.size+1,0,none⟩=some (.int .u64 c)/\w'.cell? ⟨w.heap.size+1,1,none⟩=some (.int .u64 d))
  (first|(with_reducible exact k4of hB0 hB1)|(with_reducible exact k4of hB0.drew hB1.drew)|(with_reducible exact k4of (hB0.alloc _) (hB1.alloc _))|(with_reducible exact k4of (hB0.alloc _).drew (hB1.alloc _).drew)|(with_reducible exact k4of ((hB0.alloc _).alloc _) ((hB1.alloc _).alloc _))|(with_reducible exact k4set (Nat.lt_succ_self _) (k4set (Nat.lt_succ_self _) (k4of hB0 hB1))))
  (first
   |(go_at_call 124;(with_reducible refine(bytes_at a b W.drew a0 a1 b0 b1).mono ?_);rintro e w3 ⟨A3,z3,rfl,o3,q3⟩;replace hB0:=hB0.drew.below_ q3;replace hB1:=hB1.drew.below_ q3;replace hB2:=hB2.drew.below_ q3;replace hL:=(hL.below_ (Below.refl _ _).drew).below_ q3;replace hbw:=hbw.drew.trans (q3.mono hbw.drew.size))
   |(go_at_call 124;(with_reducible refine(bytes_at a b (W.alloc (.cells #[.int .u8 1] 5)).drew a0 a1 b0 b1).mono ?_);rintro e w3 ⟨A3,z3,rfl,o3,q3⟩;have hOne:Has w3 (.slice (some ⟨W.heap.size,0,none⟩) 1 1) [1]:=(has_one W 1).drew.below_ q3;replace hB0:=(hB0.alloc _).drew.below_ q3;replace hB1:=(hB1.alloc _).drew.below_ q3;replace hB2:=(hB2.alloc _).drew.below_ q3;replace hL:=(hL.below_ (((Below.refl _ _).alloc (Nat.le_refl _) _).drew)).below_ q3;replace hbw:=(hbw.alloc hbw.size _).drew.trans (q3.mono (by have:=hbw.size;simp;omega)))
   |(go_at_call 124;(with_reducible refine(bytes_at c d w3 c0 c1 d0 d1).mono ?_);rintro e w4 ⟨A4,z4,rfl,o4,q4⟩;replace hB0:=hB0.below_ q4;replace hB1:=hB1.below_ q4;replace hB2:=hB2.below_ q4;replace hL:=hL.below_ q4;replace o3:=o3.below_ q4;replace hbw:=hbw.trans (q4.mono hbw.size);try(replace hOne:=hOne.below_ q4))
   |(go_at_call 124;(with_reducible refine(bytes_at c d (w3.alloc (.cells #[.int .u8 1] 5)) c0 c1 d0 d1).mono ?_);rintro e w4 ⟨A4,z4,rfl,o4,q4⟩;have hOne:Has w4 (.slice (some ⟨w3.heap.size,0,none⟩) 1 1) [1]:=(has_one w3 1).below_ q4;replace hB0:=(hB0.alloc _).below_ q4;replace hB1:=(hB1.alloc _).below_ q4;replace hB2:=(hB2.alloc _).below_ q4;replace hL:=(hL.below_ ((Below.refl _ _).alloc (Nat.le_refl _) _)).below_ q4;replace o3:=(o3.alloc _).below_ q4;replace hbw:=(hbw.alloc hbw.size _).trans (q4.mono (by have:=hbw.size;simp;omega)))
   |(go_at_call 168;have hq1:Has w4 (.slice (some ⟨W.heap.size,0,none⟩) 1 1) [1]:=hOne;have hRw:=acc3 hq1 o3 o4 (by simp) (pairB_ne _ _) (pairB_ne _ _);replace hB0:=hB0.alloc (.cells #[.slice (some ⟨W.heap.size,0,none⟩) 1 1,.slice A3 16 z3,.slice A4 16 z4] 32);replace hB1:=hB1.alloc (.cells #[.slice (some ⟨W.heap.size,0,none⟩) 1 1,.slice A3 16 z3,.slice A4 16 z4] 32);replace hB2:=hB2.alloc (.cells #[.slice (some ⟨W.heap.size,0,none⟩) 1 1,.slice A3 16 z3,.slice A4 16 z4] 32);replace hL:=hL.below_ ((Below.refl _ _).alloc (Nat.le_refl _) (.cells #[.slice (some ⟨W.heap.size,0,none⟩) 1 1,.slice A3 16 z3,.slice A4 16 z4] 32));replace hbw:=hbw.alloc hbw.size (.cells #[.slice (some ⟨W.heap.size,0,none⟩) 1 1,.slice A3 16 z3,.slice A4 16 z4] 32);have hfW:Fresh ρ _:=fun i hi=>hfr i (Nat.le_trans hbw.size hi);(with_reducible refine(hcs _ _ hfW hL hRw).mono ?_);rintro e w5 ⟨rfl,h5,s5⟩;replace hB0:=hB0.ch s5.ch (by rw[hfr _ (Nat.le_refl _)];unfold rtOrc;decide);replace hB1:=hB1.ch s5.ch (by rw[hfr (w.heap.size+1) (by omega)];unfold rtOrc;decide);replace hB2:=hB2.ch s5.ch (by rw[hfr (w.heap.size+1+1) (by omega)];unfold rtOrc;decide);have x0:=hB2.cell_ 0 rfl;have x1:=hB2.cell_ 1 rfl;have y0:=hB2.frozen 0;have y1:=hB2.frozen 1;have yl:=hB2.lt)
   |(go_at_call 168;have hq1:Has w4 (.slice (some ⟨w3.heap.size,0,none⟩) 1 1) [1]:=hOne;have hRw:=acc3 hq1 o3 o4 (by simp) (pairB_ne _ _) (pairB_ne _ _);replace hB0:=hB0.alloc (.cells #[.slice (some ⟨w3.heap.size,0,none⟩) 1 1,.slice A3 16 z3,.slice A4 16 z4] 32);replace hB1:=hB1.alloc (.cells #[.slice (some ⟨w3.heap.size,0,none⟩) 1 1,.slice A3 16 z3,.slice A4 16 z4] 32);replace hB2:=hB2.alloc (.cells #[.slice (some ⟨w3.heap.size,0,none⟩) 1 1,.slice A3 16 z3,.slice A4 16 z4] 32);replace hL:=hL.below_ ((Below.refl _ _).alloc (Nat.le_refl _) (.cells #[.slice (some ⟨w3.heap.size,0,none⟩) 1 1,.slice A3 16 z3,.slice A4 16 z4] 32));replace hbw:=hbw.alloc hbw.size (.cells #[.slice (some ⟨w3.heap.size,0,none⟩) 1 1,.slice A3 16 z3,.slice A4 16 z4] 32);have hfW:Fresh ρ _:=fun i hi=>hfr i (Nat.le_trans hbw.size hi);(with_reducible refine(hcs _ _ hfW hL hRw).mono ?_);rintro e w5 ⟨rfl,h5,s5⟩;replace hB0:=hB0.ch s5.ch (by rw[hfr _ (Nat.le_refl _)];unfold rtOrc;decide);replace hB1:=hB1.ch s5.ch (by rw[hfr (w.heap.size+1) (by omega)];unfold rtOrc;decide);replace hB2:=hB2.ch s5.ch (by rw[hfr (w.heap.size+1+1) (by omega)];unfold rtOrc;decide);have x0:=hB2.cell_ 0 rfl;have x1:=hB2.cell_ 1 rfl;have y0:=hB2.frozen 0;have y1:=hB2.frozen 1;have yl:=hB2.lt)
   |(go_at_call 168;have h1w:Has (w4.alloc (.cells #[.int .u8 1] 5)) (.slice (some ⟨w4.heap.size,0,none⟩) 1 1) [1]:=has_one w4 1;have hRw:=acc3 h1w (o3.alloc (.cells #[.int .u8 1] 5)) (o4.alloc (.cells #[.int .u8 1] 5)) (by simp) (pairB_ne _ _) (pairB_ne _ _);rw[World.size_alloc]at hRw;replace hB0:=(hB0.alloc (.cells #[.int .u8 1] 5)).alloc (.cells #[.slice (some ⟨w4.heap.size,0,none⟩) 1 1,.slice A3 16 z3,.slice A4 16 z4] 32);replace hB1:=(hB1.alloc (.cells #[.int .u8 1] 5)).alloc (.cells #[.slice (some ⟨w4.heap.size,0,none⟩) 1 1,.slice A3 16 z3,.slice A4 16 z4] 32);replace hB2:=(hB2.alloc (.cells #[.int .u8 1] 5)).alloc (.cells #[.slice (some ⟨w4.heap.size,0,none⟩) 1 1,.slice A3 16 z3,.slice A4 16 z4] 32);replace hL:=(hL.below_ ((Below.refl _ _).alloc (Nat.le_refl _) (.cells #[.int .u8 1] 5))).below_ ((Below.refl _ _).alloc (Nat.le_refl _) (.cells #[.slice (some ⟨w4.heap.size,0,none⟩) 1 1,.slice A3 16 z3,.slice A4 16 z4] 32));replace hbw:=(hbw.alloc hbw.size (.cells #[.int .u8 1] 5)).alloc (Nat.le_trans hbw.size (by simp)) (.cells #[.slice (some ⟨w4.heap.size,0,none⟩) 1 1,.slice A3 16 z3,.slice A4 16 z4] 32);have hfW:Fresh ρ _:=fun i hi=>hfr i (Nat.le_trans hbw.size hi);(with_reducible refine(hcs _ _ hfW hL hRw).mono ?_);rintro e w5 ⟨rfl,h5,s5⟩;replace hB0:=hB0.ch s5.ch (by rw[hfr _ (Nat.le_refl _)];unfold rtOrc;decide);replace hB1:=hB1.ch s5.ch (by rw[hfr (w.heap.size+1) (by omega)];unfold rtOrc;decide);replace hB2:=hB2.ch s5.ch (by rw[hfr (w.heap.size+1+1) (by omega)];unfold rtOrc;decide);have x0:=hB2.cell_ 0 rfl;have x1:=hB2.cell_ 1 rfl;have y0:=hB2.frozen 0;have y1:=hB2.frozen 1;have yl:=hB2.lt))
 all_goals
  have bR:=(hB2.set_to 0 (.int .u64 ta) (cs':=#[.int .u64 ta,.int .u64 0]) rfl).set_to 1 (.int .u64 tb) (cs':=[.int .u64 ta,.int .u64 tb].toArray) rfl
  have g2:=only_set2 w5 (w.heap.size+1+1) 0 1 (.int .u64 ta) (.int .u64 tb)
  have h0:=hfr (w.heap.size+1+1) (by omega)
  have HF:=Lib.hid (And.intro bR (And.intro (lk_back h5 g2 h0) (ste_back hbw s5 g2 (by omega))))
  clear hB0 hB1 hB2 bR g2 h0 h5 s5 x0 x1 y0 y1 hL hbw hRw o3 o4
  go_wp2_with fail
  obtain⟨bR,r1,r2⟩:=HF.out
  exact ret_cell 6 101 (by rfl) (w.heap.size+1+1) 0 (by rfl) _ _ bR.range Tryz.underlying101 rfl sz101 rfl ⟨rfl,r1,r2⟩
end Go.Proofs.YtggmdjdflaglpaaGreat
namespace Go.Proofs.YtggmdjdflaglpaaGreat
open Go.RowKit
set_option linter.unusedVariables false
theorem lcells0 (o:Nat):(lcells o)[0]? =some (.func (.func 57) #[.pointer (some ⟨o,0,none⟩)] #[]):=rfl
set_option maxHeartbeats 4000000 in
set_option maxRecDepth 100000 in
theorem lshut_ok (ρ:Rl) (p q:Nat->Prop) (l o:Nat) (O:Orc) (key:Two) (n:Nce) (vh:Value) (head:By) (vd:Value) (data:By) (w:World) (hf:Fresh ρ w) (h:LckR ρ w l o O) (hk:U2 key) (hn:n.ok)
 (hh:HasP p w vh head) (hd:HasP q w vd data) (hl:head.length<=4000) (hl32:data.length=32) (hc:O.iss.length<1000000):
 Calls Tryz.prog 156 #[.pointer (some ⟨l,0,none⟩),pv key,nv n,vh,vd] w fun e w'=>
  ∃v,e=.returned (.tuple #[.agg #[v,.int .u64 kSeal,.int .u64 ((O.iss.length:Int)+1)],.bool true])/\
   ∃ρ',HasP (fun b=>w.heap.size<=b/\ρ' b=0) w' v (oout (O.iss.length+1))/\LckR ρ' w' l o (oseal O key n head data)/\Ste rtOrc ρ w ρ' w':=by
 have hcall:=fun W h1 h2 h3 h4=>oseal_ok ρ p q o O key n vh head vd data W h1 h2 hk hn h3 h4 hl hl32 hc
 obtain⟨Ah,ch,rfl⟩:=hh.slice
 obtain⟨Ad,cd,rfl⟩:=hd.slice
 rw[hl32]at hcall hd ⊢
 clear hl32
 unfold pv nv kSeal at hcall ⊢
 obtain⟨ka,kb⟩:=key
 obtain⟨ne,ns,nr⟩:=n
 simp only at hcall ⊢
 obtain⟨m,hm⟩:∃m,m=O.iss.length:=⟨_,rfl⟩
 rw[<-hm]at hcall ⊢
 obtain⟨W,hW⟩:∃W,W=((w.alloc (.cells #[.int .u64 ka,.int .u64 kb] 101)).alloc (.cells #[.int .u32 ne,.int .u32 ns,.int .u64 nr] 99)).alloc (.cells #[.slice none 0 0,.int .u64 0,.int .u64 0] 157):=⟨_,rfl⟩
 have hbw:Below w.heap.size w W:=by rw[hW];exact(((Below.refl _ _).alloc (Nat.le_refl _) _).alloc (by simp) _).alloc (by simp;omega) _
 have hB0:Blk W w.heap.size 101 #[.int .u64 ka,.int .u64 kb]:=by rw[hW];exact((Blk.new w 101 _).alloc _).alloc _
 have hB1:Blk W (w.heap.size+1) 99 #[.int .u32 ne,.int .u32 ns,.int .u64 nr]:=by
  rw[hW]
  have:=Blk.new (w.alloc (.cells #[.int .u64 ka,.int .u64 kb] 101)) 99 #[.int .u32 ne,.int .u32 ns,.int .u64 nr]
  rw[World.size_alloc]at this
  exact this.alloc _
 have hB2:Blk W (w.heap.size+1+1) 157 #[.slice none 0 0,.int .u64 0,.int .u64 0]:=by
  rw[hW]
  have:=Blk.new ((w.alloc (.cells #[.int .u64 ka,.int .u64 kb] 101)).alloc (.cells #[.int .u32 ne,.int .u32 ns,.int .u64 nr] 99)) 157 #[.slice none 0 0,.int .u64 0,.int .u64 0]
  rw[World.size_alloc,World.size_alloc]at this
  exact this
 have hL:LckR ρ W l o O:=h.keep hbw.size (fun b hb _=>⟨hbw.block b hb,rfl⟩)
 have hfW:Fresh ρ W:=fun i hi=>hf i (Nat.le_trans hbw.size hi)
 have hc1:=hcall W.drew hfW (hL.2.2.keep (Nat.le_refl _) (fun _ _ _=>⟨rfl,rfl⟩)) (hh.below_ hbw.drew) (hd.below_ hbw.drew)
 have hLb:=hL.1.drew
 have hl0:=hL.2.1
 have hl:=hL.1.lt
 have hll:l<w.heap.size:=h.1.lt
 have hws:=hbw.size
 have hfr:∀b,w.heap.size<=b->ρ b=0:=hf
 clear hcall h hh hd hL hm
 go_enter Tryz.func156,Tryz.ntmps156
 go_wp2_with fail
 rw[<-hW]
 clear hW
 replace hB0:=hB0.drew
 replace hB1:=hB1.drew
 replace hB2:=hB2.drew
 replace hbw:=hbw.drew
 have hbw0:=hbw
 have hB2l:w.heap.size+1+1<W.heap.size:=hB2.lt
 go_region_held3 (fun w'=>w'.cell? ⟨l,0,none⟩=some (.func (.func 57) #[.pointer (some ⟨o,0,none⟩)] #[])/\w'.cell? ⟨w.heap.size,0,none⟩=some (.int .u64 ka)/\w'.cell? ⟨w.heap.size,1,none⟩=some (.int .u64 kb)/\
  w'.cell? ⟨w.heap.size+1,0,none⟩=some (.int .u32 ne)/\w'.cell? ⟨w.heap.size+1,1,none⟩=some (.int .u32 ns)/\w'.cell? ⟨w.heap.size+1,2,none⟩=some (.int .u64 nr))
  (first|(with_reducible exact And.intro (hLb.cell_ 0 (lcells0 _)) (kof hB0 hB1))|(with_reducible exact And.intro ((((hLb.far (p:=⟨w.heap.size+1+1,0,none⟩) hlne _).far (p:=⟨w.heap.size+1+1,1,none⟩) hlne _).far (p:=⟨w.heap.size+1+1,2,none⟩) hlne _).cell_ 0 (lcells0 _)) (kset (Nat.lt_succ_self _) (kset (Nat.lt_succ_self _) (kset (Nat.lt_succ_self _) (kof hB0 hB1))))))
  (first
   |(go_at_call 57;refine hc1.mono ?_;rintro e w1 ⟨v1,rfl,ρ1,o1,O1,s1⟩;obtain⟨A1,z1,rfl⟩:=o1.slice;have hlne:l≠w.heap.size+1+1:=(by omega);have hkp:∀b,b<W.heap.size->(w.heap.size<=b\/b=l)->w1.heap[b]? =W.heap[b]? :=(fun b hb e=>s1.ch.keep b hb (by rcases e with e|e;rw[hfr b e];unfold rtOrc;decide;rw[e,hl0];unfold rtOrc;decide));replace hLb:Blk w1 l 130 (lcells o):=(hkp l hl (.inr rfl)).trans hLb;replace hB0:Blk w1 w.heap.size 101 #[.int .u64 ka,.int .u64 kb]:=(hkp _ hB0.lt (.inl (Nat.le_refl _))).trans hB0;replace hB1:Blk w1 (w.heap.size+1) 99 #[.int .u32 ne,.int .u32 ns,.int .u64 nr]:=(hkp _ hB1.lt (.inl (by omega))).trans hB1;replace hB2:Blk w1 (w.heap.size+1+1) 157 #[.slice none 0 0,.int .u64 0,.int .u64 0]:=(hkp _ hB2.lt (.inl (by omega))).trans hB2;have x0:=hB2.cell_ 0 rfl;have x1:=hB2.cell_ 1 rfl;have x2:=hB2.cell_ 2 rfl;have y0:=hB2.frozen 0;have y1:=hB2.frozen 1;have y2:=hB2.frozen 2;have yl:=hB2.lt))
 go_wp2_with fail
 have bR:=((hB2.set_to 0 (.slice A1 (oout (m+1)).length z1) (cs':=#[.slice A1 (oout (m+1)).length z1,.int .u64 0,.int .u64 0]) rfl).set_to 1 (.int .u64 18446744073709551615) (cs':=#[.slice A1 (oout (m+1)).length z1,.int .u64 18446744073709551615,.int .u64 0]) rfl).set_to 2 (.int .u64 ((m:Int)+1)) (cs':=[.slice A1 (oout (m+1)).length z1,.int .u64 18446744073709551615,.int .u64 ((m:Int)+1)].toArray) rfl
 have g1:w1.grownBy (w1.setCell ⟨w.heap.size+1+1,0,none⟩ (.slice A1 (oout (m+1)).length z1)) (some (w.heap.size+1+1)):=only_setCell (only_refl _ _) (.inl rfl) _
 have g2:=only_setCell g1 (p:=⟨w.heap.size+1+1,1,none⟩) (.inl rfl) (.int .u64 18446744073709551615)
 have g3:=only_setCell g2 (p:=⟨w.heap.size+1+1,2,none⟩) (.inl rfl) (.int .u64 ((m:Int)+1))
 have hz:ρ1 (w.heap.size+1+1)=0:=(s1.old (w.heap.size+1+1) hB2l).trans (hfr _ (by omega))
 have hk8:=fun b (hb:b<w1.heap.size) (e:b≠w.heap.size+1+1)=>g3.block b hb (fun c=>e (by injection c))
 have hsg:=g3.size
 have hs1:=s1.size
 refine ret_cell_tmp 10 157 11 (by rfl) (w.heap.size+1+1) 0 (by rfl) (.bool true) (by rfl) _ _ bR.range Tryz.underlying157 rfl sz157 rfl ⟨.slice A1 (oout (m+1)).length z1,rfl,ρ1,?_,⟨?_,(s1.old l hl).trans hl0,?_⟩,?_⟩
 ·refine((o1.weak (q:=fun b=>(w.heap.size<=b/\ρ1 b=0)/\b≠w.heap.size+1+1) (fun b e=>⟨⟨Nat.le_trans hws e.1,e.2⟩,fun c=>by have:=e.1;have:=hB2l;simp at *;omega⟩)).keep hsg (fun b hb e=>hk8 b hb e.2)).weak (fun b e=>e.1)
 ·exact(hk8 l hLb.lt (by omega)).trans hLb
 ·exact O1.keep hsg (fun b hb e=>⟨hk8 b hb (fun c=>by rw[c,hz]at e;unfold rsOrc at e;revert e;decide),rfl⟩)
 ·have hch:Ch (fun i=>rtOrc (ρ i)) w _:=((Ch.of_below hbw0).trans s1.ch).then_only g3 (by omega)
  exact⟨hch,fun i hi=>s1.old i (Nat.lt_of_lt_of_le hi hws),fun i hi=>s1.fresh i (Nat.le_trans hsg hi)⟩
def SumOf (L:Lk):Prop:=∀(ρ:Rl) (l:Nat) (v:Value) (Ls:List By) (w:World),Fresh ρ w->LkR ρ w l L->Rows w v Ls->total Ls<=1000->L.lim 900000->
 Calls Tryz.prog 168 #[.pointer (some ⟨l,0,none⟩),v] w fun e w'=>e=.returned (pv (L.sum Ls.flatten))/\LkR ρ w' l (L.summed Ls.flatten)/\Ste rtOrc ρ w ρ w'
theorem sum_ideal (O:Orc):SumOf (.ideal O):=by
 intro ρ l v Ls w hf h hR ht hlim
 obtain⟨o,h⟩:=h
 refine(lsum_ok ρ l o O v Ls w hf h hR (by omega) (by have:=hlim.2;omega)).mono ?_
 rintro e w1 ⟨rfl,h1,h2⟩
 exact⟨rfl,⟨o,h1⟩,h2⟩
theorem open_ideal (O:Orc) (ρ:Rl) (p q:Nat->Prop) (l:Nat) (key:Two) (n:Nce) (vh:Value) (head:By) (vb:Value) (b:By) (tag:Two) (w:World) (h:LkR ρ w l (.ideal O)) (hh:HasP p w vh head) (hb:HasP q w vb b):
 Calls Tryz.prog 137 #[.pointer (some ⟨l,0,none⟩),pv key,nv n,vh,.agg #[vb,.int .u64 tag.1,.int .u64 tag.2]] w fun e w'=>
  ∃v,e=.returned (.tuple #[v,.bool ((Lk.ideal O).opens key n head b tag).isSome])/\OwnB w.heap.size w' v (((Lk.ideal O).opens key n head b tag).getD [])/\Below w.heap.size w w':=by
 obtain⟨o,h⟩:=h
 exact lopen_ok ρ p q l o O key n vh head vb b tag w h hh hb
theorem shut_ideal (O:Orc) (ρ:Rl) (p q:Nat->Prop) (l:Nat) (key:Two) (n:Nce) (vh:Value) (head:By) (vd:Value) (data:By) (w:World) (hf:Fresh ρ w) (h:LkR ρ w l (.ideal O)) (hk:U2 key) (hn:n.ok) (hh:HasP p w vh head) (hd:HasP q w vd data) (hl:head.length<=4000) (hl32:data.length=32) (hlim:(Lk.ideal O).lim 900000):
 Calls Tryz.prog 156 #[.pointer (some ⟨l,0,none⟩),pv key,nv n,vh,vd] w fun e w'=>
  ∃v,e=.returned (.tuple #[.agg #[v,.int .u64 ((Lk.ideal O).shut key n head data).2.1,.int .u64 ((Lk.ideal O).shut key n head data).2.2],.bool true])/\
   ∃ρ',HasP (fun b=>w.heap.size<=b/\ρ' b=0) w' v ((Lk.ideal O).shut key n head data).1/\LkR ρ' w' l ((Lk.ideal O).shutd key n head data)/\Ste rtOrc ρ w ρ' w':=by
 obtain⟨o,h⟩:=h
 refine(lshut_ok ρ p q l o O key n vh head vd data w hf h hk hn hh hd hl hl32 (by have:=hlim.1;omega)).mono ?_
 rintro e w1 ⟨v,rfl,ρ1,h1,h2,h3⟩
 exact⟨v,rfl,ρ1,h1,⟨o,h2⟩,h3⟩
end Go.Proofs.YtggmdjdflaglpaaGreat
