/- Two boxes in one memory. -/
import Derived.Test.YtggmdjdflaglpaaGreatR41
namespace Go.Proofs.YtggmdjdflaglpaaGreat
open Go.RowKit Go.Proofs.YtggmdjdflaglpaaGreat.geo
set_option linter.unusedVariables false
def Tr (r:Nat):Prop:=r=0\/r=30
instance (r:Nat):Decidable (Tr r):=by unfold Tr;infer_instance
structure Two2 (w:World) (bx:Nat) (a:Ads) (bx2:Nat) (a2:Ads) (wr:World) (ρ ρ2:Rl) (S S2:Bst):Prop where
 box:BstR ρ wr bx a S
 box2:BstR ρ2 wr bx2 a2 S2
 old:∀b,b<w.heap.size->ρ b=0/\ρ2 b=0
 dis:∀b,Tr (ρ b)\/Tr (ρ2 b)
 fresh:Fresh ρ wr
 fresh2:Fresh ρ2 wr
 bel:Below w.heap.size w wr
def mark (ρ ρ2:Rl):Rl:=fun b=>if Tr (ρ2 b)then ρ b else 30
theorem mark_fresh {ρ ρ2:Rl}{w:World}(h:Fresh ρ w) (h2:Fresh ρ2 w):Fresh (mark ρ ρ2) w:=fun i hi=>by
 unfold mark
 rw[if_pos (by rw[h2 i hi];exact .inl rfl)]
 exact h i hi
theorem BstR.keepT {ρ ρ':Rl}{w w':World}{bx:Nat}{a:Ads}{S:Bst}(h:BstR ρ w bx a S) (hs:w.heap.size<=w'.heap.size) (hk:∀b,b<w.heap.size->¬Tr (ρ b)->w'.heap[b]? =w.heap[b]? /\ρ' b=ρ b):BstR ρ' w' bx a S:=by
 obtain⟨A,sv,h1,h2,h3,h4,h5⟩:=h
 have nt:∀r,1<=r->r<=25->¬Tr r:=fun r e1 e2 c=>by unfold Tr at c;omega
 have k:=hk bx h1.lt (by rw[h2];exact nt _ (by decide) (by decide))
 refine⟨A,sv,k.1.trans h1,k.2.trans h2,h3.keep hs (fun b hb e=>hk b hb (nt _ e.1 (Nat.le_trans e.2 (by decide)))),h4.keep (fun b hb e=>hk b hb (by rw[e];exact nt _ (by decide) (by decide))),?_⟩
 rcases h5 with h5|⟨h5,cc,m,ag,h6,h7⟩
 ·exact .inl h5
 ·exact .inr ⟨h5,cc,m,ag,h6,h7.keep hs (fun b hb e=>hk b hb (nt _ e.1 (Nat.le_trans e.2 (by decide))))⟩
theorem rtXT {r:Nat}(h:Tr r):¬rtX r:=by
 rcases h with h|h<;>rw[h]<;>unfold rtX rtC<;>decide
section
variable {w:World}{bx:Nat}{a:Ads}{bx2:Nat}{a2:Ads}{wr:World}{ρ ρ2:Rl}{S S2:Bst}
theorem Two2.swap (h:Two2 w bx a bx2 a2 wr ρ ρ2 S S2):Two2 w bx2 a2 bx a wr ρ2 ρ S2 S:=⟨h.box2,h.box,fun b hb=>(h.old b hb).symm,fun b=>(h.dis b).symm,h.fresh2,h.fresh,h.bel⟩
theorem Two2.below_ (h:Two2 w bx a bx2 a2 wr ρ ρ2 S S2) {w':World}(q:Below wr.heap.size wr w'):Two2 w bx a bx2 a2 w' ρ ρ2 S S2:=
 ⟨h.box.below_ q,h.box2.below_ q,h.old,h.dis,fun i hi=>h.fresh i (Nat.le_trans q.size hi),fun i hi=>h.fresh2 i (Nat.le_trans q.size hi),h.bel.trans (q.mono h.bel.size)⟩
theorem Two2.mark_box (h:Two2 w bx a bx2 a2 wr ρ ρ2 S S2):BstR (mark ρ ρ2) wr bx a S:=
 h.box.keepT (Nat.le_refl _) (fun b hb e=>⟨rfl,by unfold mark;rw[if_pos ((h.dis b).resolve_left e)]⟩)
theorem Two2.act (h:Two2 w bx a bx2 a2 wr ρ ρ2 S S2) {w':World}{ρ':Rl}{S':Bst}(hb:BstR ρ' w' bx a S') (hs:Ste rtX (mark ρ ρ2) wr ρ' w'):Two2 w bx a bx2 a2 w' ρ' ρ2 S' S2:=by
 have hlt:∀b,¬Tr (ρ2 b)->b<wr.heap.size:=fun b e=>by
  rcases Nat.lt_or_ge b wr.heap.size with c|c
  ·exact c
  ·exact absurd (.inl (h.fresh2 b c)) e
 have h30:∀b,¬Tr (ρ2 b)->ρ' b=30:=fun b e=>by
  rw[hs.old b (hlt b e)];unfold mark;rw[if_neg e]
 refine⟨hb,h.box2.keepT hs.size (fun b hb2 e=>⟨hs.ch.keep b hb2 ?_,rfl⟩),fun b hb2=>⟨?_,(h.old b hb2).2⟩,fun b=>?_,hs.fresh,fun i hi=>h.fresh2 i (Nat.le_trans hs.size hi),h.bel.trans (hs.below h.bel.size (fun b hb2=>?_))⟩
 ·unfold mark;rw[if_neg e];exact rtXT (.inr rfl)
 ·rw[hs.old b (Nat.lt_of_lt_of_le hb2 h.bel.size)];unfold mark;rw[if_pos (.inl (h.old b hb2).2)];exact(h.old b hb2).1
 ·by_cases e:Tr (ρ2 b)
  ·exact .inr e
  ·exact .inl (.inr (h30 b e))
 ·unfold mark;rw[if_pos (.inl (h.old b hb2).2),(h.old b hb2).1];exact rtXT (.inl rfl)
theorem Two2.told (h:Two2 w bx a bx2 a2 wr ρ ρ2 S S2) {w':World}{ρ':Rl}(hs:Ste rtX (mark ρ ρ2) wr ρ' w') {v:Value}{l:By}(hv:HasP (ρ' · =0) w' v l):HasP (fun b=>Tr (ρ2 b)) w' v l:=by
 refine hv.weakB (fun b hb e=>?_)
 by_cases c:Tr (ρ2 b)
 ·exact c
 ·rcases Nat.lt_or_ge b wr.heap.size with q|q
  ·have:=hs.old b q
   have h2:ρ' b=0:=e
   rw[h2]at this
   unfold mark at this
   rw[if_neg c]at this
   cases this
  ·exact .inl (h.fresh2 b q)
theorem told_keep {wr w':World}{ρ ρ2 ρ':Rl}(hs:Ste rtX (mark ρ2 ρ) wr ρ' w') {v:Value}{l:By}(hv:HasP (fun b=>Tr (ρ2 b)) wr v l):HasP (fun _=>True) w' v l:=by
 refine(hv.keep hs.size (fun b hb e=>hs.ch.keep b hb ?_)).weak (fun _ _=>trivial)
 unfold mark
 split
 ·exact rtXT e
 ·exact rtXT (.inr rfl)
end
theorem Two2.data {w:World}{bx:Nat}{a:Ads}{bx2:Nat}{a2:Ads}{wr:World}{ρ ρ2:Rl}{S S2:Bst}(h:Two2 w bx a bx2 a2 wr ρ ρ2 S S2) {v:Value}{l:By}(hv:HasD (fun _=>True) w v l):HasD (fun b=>¬rtX (mark ρ ρ2 b)) wr v l:=
 (hv.weakB (q:=fun b=>¬rtX (mark ρ ρ2 b)) (fun b hb _=>by unfold mark;rw[if_pos (.inl (h.old b hb).2),(h.old b hb).1];exact rtXT (.inl rfl))).below_ h.bel
theorem Two2.keeps {w:World}{bx:Nat}{a:Ads}{bx2:Nat}{a2:Ads}{wr:World}{ρ ρ2:Rl}{S S2:Bst}(h:Two2 w bx a bx2 a2 wr ρ ρ2 S S2) {v:Value}{ks:List Bool}(hv:HasK (fun _=>True) w v ks):HasK (fun b=>¬rtX (mark ρ ρ2 b)) wr v ks:=
 (hv.weakB (q:=fun b=>¬rtX (mark ρ ρ2 b)) (fun b hb _=>by unfold mark;rw[if_pos (.inl (h.old b hb).2),(h.old b hb).1];exact rtXT (.inl rfl))).below_ h.bel
theorem Two2.call (HO:OpenOk) (HS:SumOk) (HT:ShutOk) {w:World}{bx:Nat}{a:Ads}{bx2:Nat}{a2:Ads}{wr:World}{ρ ρ2:Rl}{S S2:Bst}(h:Two2 w bx a bx2 a2 wr ρ ρ2 S S2) {k t b o:Nat}{x:ActV}{ks:List Bool}(hx:ActX w b o x ks)
 (hP:∃E,Per S.C E) (hC:Cok S.C k t) (htw:S.dead=false->S.C.tw) (hdo:S.C.W.dsk.ok) (hn:S.n<=1000) (hk:k<=200000) (ht:t<=900) (h4:x.k≠4) (h6:x.k≠6) (hk1:x.kn<=1000):
 Calls Tryz.prog 9 #[.pointer (some ⟨bx,0,none⟩),.agg x.cells.toArray] wr fun e w'=>∃v,e=.returned (.agg #[.int .i64 (bact S x.k x.kd x.l x.N x.data ks).1,v])/\∃ρ',HasP (fun b=>Tr (ρ2 b)) w' v (bact S x.k x.kd x.l x.N x.data ks).2.1/\Two2 w bx a bx2 a2 w' ρ' ρ2 (bact S x.k x.kd x.l x.N x.data ks).2.2 S2/\Ste rtX (mark ρ ρ2) wr ρ' w':=by
 have hd:=h.data hx.at_.data
 have hkk:=h.keeps hx.keep
 have hkl:=hx.klen
 have hnm:=hx.nmax
 obtain⟨k',kd,l,N,F,data,V,vn,vc,Dd,dn,dc,K,kn,kc⟩:=x
 refine(bs_act HO HS HT (mark ρ ρ2) bx a S k t k' kd l N F data V Dd K vn dn kn vc dc kc ks wr (mark_fresh h.fresh h.fresh2) h.mark_box hP hC htw hdo hn hk ht h4 h6 hnm hd hkk hkl hk1).mono ?_
 rintro e w' ⟨v,rfl,ρ',hv,hb,hs⟩
 exact⟨v,rfl,ρ',h.told hs hv,h.act hb hs,hs⟩
end Go.Proofs.YtggmdjdflaglpaaGreat
