/- The untrusted device: Barrier, New. The slow disk: its piece of the world. The slow disk: Write. The slow disk: Barrier, New. The slow disk: New. -/
import Derived.Test.YtggmdjdflaglpaaGreatR05
import Derived.Test.YtggmdjdflaglpaaGreatR07
import Derived.Deep.RegionLaw
namespace Go.Proofs.YtggmdjdflaglpaaGreat
open Go.RowKit
set_option linter.unusedVariables false
def rtSsd (r:Nat):Prop:=rtDev r\/r=rLas
def settled (S:Ssd):Ssd:=⟨snap S,[],S.cnt+1⟩
set_option maxHeartbeats 4000000 in
theorem sbarrier_ok (ρ:Rl) (p s:Nat) (P:Pow) (S:Ssd) (w:World) (hf:Fresh ρ w) (hP:PowR w p P) (hp:ρ p=rPow) (h:SsdR ρ w p s S) (hc:S.cnt<=1000000) (hne:S.lasts≠[]):
 Calls Tryz.prog 171 #[.pointer (some ⟨s,0,none⟩)] w fun e w'=>e=.returned (.bool (spend P).2)/\PowR w' p (spend P).1/\∃ρ',SsdR ρ' w' p s (if(spend P).2 then settled S else S)/\Ste rtSsd ρ w ρ' w':=by
 have hsp:=spend_ok p P w hP
 have H:=Lib.hid h
 have hs0:=h.role
 obtain⟨bl,vW,vT,T,h1,h2,_⟩:=h
 have c0:=h1.cell_ 0 rfl
 have hl:=h1.lt
 have hpl:=hP.lt
 clear h1
 cases hs:(spend P).2 with
 |false=>
  rw[hs]at hsp
  go_enter Tryz.func171,Tryz.ntmps171
  go_wp2_with fail
  refine hsp.mono ?_
  rintro e w1 ⟨rfl,hp1,hg⟩
  go_wp2_with fail
  go_ret
  have hst:Ste rtSsd ρ w ρ w1:=Ste.of_grown hg (by rw[hp];exact .inl (.inl rfl)) hf
  refine⟨by simp,hp1,ρ,?_,hst⟩
  exact H.out.keep hg.size (fun b hb hr=>⟨hg.block b hb (fun e=>by injection e with e;rw[e,hp]at hr;exact not_rs_pow hr),rfl⟩)
 |true=>
  rw[hs]at hsp
  go_enter Tryz.func171,Tryz.ntmps171
  go_wp2_with fail
  refine hsp.mono ?_
  rintro e w1 ⟨rfl,hp1,hg⟩
  have hst:Ste rtSsd ρ w ρ w1:=Ste.of_grown hg (by rw[hp];exact .inl (.inl rfl)) hf
  have hS1:SsdR ρ w1 p s S:=H.out.keep hg.size (fun b hb hr=>⟨hg.block b hb (fun e=>by injection e with e;rw[e,hp]at hr;exact not_rs_pow hr),rfl⟩)
  have hse:=settles_all ρ p s S w1 hst.fresh hS1 hc hne
  have HP1:=Lib.hid hp1
  clear hsp c0 hp1 hS1
  go_wp2_with fail
  refine hse.mono ?_
  rintro e w2 ⟨rfl,hS2,hch2⟩
  have hst2:Ste rtSsd ρ w ρ w2:=hst.trans (Ste.of_ch (hch2.mono (fun i e=>by rcases e with e|e<;>rw[e]<;>simp[rtSsd,rtDev])) hst.fresh)
  have hp2:PowR w2 p (spend P).1:=HP1.out.keep (hch2.keep p HP1.out.lt (by rw[hp];decide))
  obtain⟨bl,vW,vT,T,h1,h2',h3,h4,h5,⟨csT,r1,r2,r3⟩,h7⟩:=hS2
  obtain⟨At,ct,rfl⟩:∃At ct,vT=.slice At T.length ct:=OpRow.form ⟨csT,r1,r2,r3⟩
  replace r2:∀b,(Value.slice At T.length ct).ownBlock=some b->ρ b=rStr:=r2
  obtain⟨i0,hi,hz0,hz1,hz2⟩:=info_parts info119
  have hlt':=h7.1
  simp only at hlt'
  have c3:=h1.cell_ 3 rfl
  have hl3:=h1.lt
  have H1:=Lib.hid h1
  have HP2:=Lib.hid hp2
  have HS:=Lib.hid hst2
  have HH:=Lib.hid (And.intro h3 (And.intro h5 h7))
  clear hse hst HP1 hch2 h1 hp2 hst2 h3 h5 h7
  have hrow:(w2.alloc (.cells #[.int .i64 (-1),.slice none 0 0] 119)).ownsRow 0 119 2 (.slice At T.length ct) T.length csT:=World.ownsRow.alloc r1 _
  go_wp2_with (at_builtin;go_loud (refine wpList_append_own_at _ rfl _ _ 114 rfl 0 119 i0 _ 2 32 Tryz.underlying114 hi hz0 hz1 hz2 rfl (by decide) _ _ _ rfl hrow ⟨w2.heap.size,0,none⟩ 1 1 [.int .i64 (-1),.slice none 0 0] rfl (by simp) (cell_two_new _ _ _ _) (fun v hv=>by simp at hv;rcases hv with rfl|rfl<;>rfl) (by unfold maxLen;omega) (by omega) (by omega) ?_))
  intro v2 w3 hown2 hgrow2 hnil2 hor2
  clear hnil2
  obtain⟨A2,cap2,rfl⟩:=row_form hown2
  have hS3:=(H1.out.alloc (.cells #[.int .i64 (-1),.slice none 0 0] 119)).grown hgrow2 (fun e=>by have:=r2 s e.symm;rw[hs0]at this;exact absurd this (by decide))
  have d3:=hS3.cell_ 3 rfl
  have e3:=hS3.frozen 3
  have hl4:=hS3.lt
  have HO:=Lib.hid (And.intro hown2 (And.intro hgrow2 hor2))
  have HR:=Lib.hid (And.intro r1 (And.intro r2 r3))
  clear hown2 hgrow2 hor2 hS3 r1 r2 r3 hrow hi hz0 hz1 hz2 c3 hlt' h2'
  go_wp2_with fail
  go_ret
  obtain⟨hown2,hgrow2,hor2⟩:=HO.out
  obtain⟨r1,r2,r3⟩:=HR.out
  obtain⟨h3,h5,h7⟩:=HH.out
  have hBb:Below w2.heap.size w2 (w2.alloc (.cells #[.int .i64 (-1),.slice none 0 0] 119)):=(Below.refl _ _).alloc (Nat.le_refl _) _
  obtain⟨ρ4,k1,k2,k3,hS4,hch4⟩:=SsdR.pushT (S:=⟨snap S,[],S.cnt⟩) (o:=⟨-1,[]⟩) (u:=.slice none 0 0) (H1.out.alloc (.cells #[.int .i64 (-1),.slice none 0 0] 119)) hs0 (h3.alloc _) h4 (World.ownsRow.alloc r1 _) r2 (r3.keep hBb.size (fun b hb _=>hBb.block b hb)) (h5.keep hBb.size (fun b hb _=>hBb.block b hb)) h7
   (.inl ⟨rfl,rfl⟩) hown2 hgrow2 (by simpa using hor2) (fun i hi=>HS.out.fresh i (Nat.le_trans hBb.size hi))
  have hst4:Ste rtSsd ρ w ρ4 _:=Ste.of_push HS.out hBb (fun i hi=>by
   rcases k2 i hi with e|e
   ·simp[Value.ownBlock]at e
   ·rw[e];exact hBb.size) k3 (hch4.mono (fun i e=>.inl e))
  refine⟨rfl,HP2.out.keep ?_,ρ4,hS4,hst4⟩
  rw[Below.heap_setCell _ _ _ _ (fun e=>by simp only at e;rw[e,hs0]at hp;exact absurd hp (by decide)),hgrow2.block p (Nat.lt_of_lt_of_le HP2.out.lt hBb.size) (fun e=>by have:=r2 p e.symm;rw[hp]at this;exact absurd this (by decide))]
  exact hBb.block p HP2.out.lt
theorem snew_ok (p n:Nat) (w:World) (h0:0<n) (h1:n<=65536) (ρ:Rl) (hf:Fresh ρ w):
 Calls Tryz.prog 30 #[.int .i64 n,.pointer (some ⟨p,0,none⟩)] w fun e w'=>e=.returned (.pointer (some ⟨w.heap.size+1,0,none⟩))/\SsdR ((ρ.set w.heap.size rLas).set (w.heap.size+1) rSsd) w' p (w.heap.size+1) ⟨List.replicate n 0,[],0⟩/\w'.heap.size=w.heap.size+2/\Below w.heap.size w w':=by
 have hm:=fun W=>make_bytes n (by omega) W
 have t1:decide ((n:Int)<0)=false:=by simp
 have t2:decide ((65536:Int)<(n:Int))=false:=by simp;omega
 go_enter Tryz.func30,Tryz.ntmps30
 go_wp2_with fail
 go_ret
 have hb1:=Blk.new w 5 (bvals (List.replicate n 0)).toArray
 refine⟨by simp,⟨w.heap.size,.slice none 0 0,.slice none 0 0,[],?_,Rl.set_same _ _ _,?_,?_,OpRow.nil _ _ _,OpRow.nil _ _ _,by simp,by simp,by simpa using h1,by simp⟩,by simp,?_⟩
 ·have:=Blk.new (w.alloc (.cells (bvals (List.replicate n 0)).toArray 5)) 116 #[.pointer (some ⟨p,0,none⟩),.slice (some ⟨w.heap.size,0,none⟩) n n,.slice none 0 0,.slice none 0 0]
  simpa using this
 ·exact hb1.alloc _
 ·rw[Rl.set_other _ (by omega)];exact Rl.set_same _ _ _
 ·exact((Below.refl _ _).alloc (Nat.le_refl _) _).alloc (by simp) _
end Go.Proofs.YtggmdjdflaglpaaGreat
namespace Go.Proofs.YtggmdjdflaglpaaGreat
open Go.RowKit
set_option linter.unusedVariables false
structure Dsk where
 lasts:Nat->By
 waits:List Opn
 refuses:Bool
 cnt:Nat
def dcells (p:Nat) (vs:Nat->Value) (vW vT:Value) (r:Bool):Array Value:=(.pointer (some ⟨p,0,none⟩)::((List.range 32).map vs++[vW,vT,.bool r])).toArray
section
variable {p:Nat}{vs:Nat->Value}{vW vT:Value}{r:Bool}
theorem dc0:(dcells p vs vW vT r)[0]? =some (.pointer (some ⟨p,0,none⟩)):=by simp[dcells]
theorem dc33:(dcells p vs vW vT r)[33]? =some vW:=by
 unfold dcells
 rw[List.getElem?_toArray,List.getElem?_cons_succ,List.getElem?_append_right (by simp)]
 simp
theorem dc34:(dcells p vs vW vT r)[34]? =some vT:=by
 unfold dcells
 rw[List.getElem?_toArray,List.getElem?_cons_succ,List.getElem?_append_right (by simp)]
 simp
theorem dc35:(dcells p vs vW vT r)[35]? =some (.bool r):=by
 unfold dcells
 rw[List.getElem?_toArray,List.getElem?_cons_succ,List.getElem?_append_right (by simp)]
 simp
theorem dck {k:Nat}(hk:k<32):(dcells p vs vW vT r)[1+k]? =some (vs k):=by
 unfold dcells
 rw[List.getElem?_toArray,Nat.add_comm 1 k,List.getElem?_cons_succ,List.getElem?_append_left (by simpa using hk)]
 simp[hk]
theorem ds33 (v:Value):(dcells p vs vW vT r).setIfInBounds 33 v=dcells p vs v vT r:=by
 unfold dcells
 rw[List.setIfInBounds_toArray]
 rfl
theorem ds34 (v:Value):(dcells p vs vW vT r).setIfInBounds 34 v=dcells p vs vW v r:=by
 unfold dcells
 rw[List.setIfInBounds_toArray]
 rfl
theorem ds35 (b:Bool):(dcells p vs vW vT r).setIfInBounds 35 (.bool b)=dcells p vs vW vT b:=by
 unfold dcells
 rw[List.setIfInBounds_toArray]
 rfl
theorem dsk_ {k:Nat}(hk:k<32) (v:Value):(dcells p vs vW vT r).setIfInBounds (1+k) v=dcells p (fun i=>if i=k then v else vs i) vW vT r:=by
 unfold dcells
 rw[List.setIfInBounds_toArray,Nat.add_comm 1 k,List.set_cons_succ,List.set_append_left _ _ (by simpa using hk)]
 congr 3
 apply List.ext_getElem?
 intro i
 rw[List.getElem?_set]
 by_cases e:k=i
 ·subst e
  rw[if_pos rfl,if_pos (by simpa using hk)]
  simp[hk]
 ·rw[if_neg e]
  simp only[List.getElem?_map]
  by_cases hi:i<32
  ·simp[hi,Ne.symm e]
  ·simp[hi]
end
def Opn.dk (o:Opn):Prop:=0<=o.off/\o.off<32/\o.bytes.length=32
def DskR (ρ:Rl) (w:World) (p d:Nat) (D:Dsk):Prop:=
 ∃(vs:Nat->Value) (vW vT:Value) (T:List Opn),Blk w d 123 (dcells p vs vW vT D.refuses)/\ρ d=rDsk/\(∀k,k<32->HasP (ρ · =rImm) w (vs k) (D.lasts k)/\(D.lasts k).length=32)/\
  OpRow (ρ · =rImm) (ρ · =rDwt) w vW D.waits/\OpRow (ρ · =rImm) (ρ · =rDtr) w vT T/\T.length<=D.cnt/\D.waits.length<=D.cnt/\∀o∈D.waits,o.dk
def rsDsk (r:Nat):Prop:=r=rImm\/r=rDsk\/r=rDwt\/r=rDtr
theorem HasP.keepR {ρ ρ':Rl}{w w':World}{v:Value}{l:By}(h:HasP (ρ · =rImm) w v l) (hs:w.heap.size<=w'.heap.size) (hk:∀b,b<w.heap.size->ρ b=rImm->w'.heap[b]? =w.heap[b]? /\ρ' b=ρ b):HasP (ρ' · =rImm) w' v l:=by
 rcases h with h|⟨b,o,cap,h1,h2,h3,h4,h5,h6⟩
 ·exact .inl h
 ·have k:=hk b h3 h2
  refine .inr ⟨b,o,cap,h1,k.2.trans h2,Nat.lt_of_lt_of_le h3 hs,h4,h5,fun j u hj=>?_⟩
  rw[<-h6 j u hj]
  simp only[World.cell?,k.1]
theorem OpRow.keepR {ρ ρ':Rl}{r:Nat}{w w':World}{v:Value}{L:List Opn}(h:OpRow (ρ · =rImm) (ρ · =r) w v L) (hs:w.heap.size<=w'.heap.size) (hk:∀b,b<w.heap.size->(ρ b=rImm\/ρ b=r)->w'.heap[b]? =w.heap[b]? /\ρ' b=ρ b):OpRow (ρ' · =rImm) (ρ' · =r) w' v L:=by
 have h':OpRow (fun b=>ρ b=rImm/\ρ' b=rImm) (fun b=>ρ b=r/\ρ' b=r) w v L:=h.weak (fun b hb e=>⟨e,(hk b hb (.inl e)).2.trans e⟩) (fun b hb e=>⟨e,(hk b hb (.inr e)).2.trans e⟩)
 exact(h'.keep hs (fun b hb e=>(hk b hb (by rcases e with e|e;exact .inl e.1;exact .inr e.1)).1)).weak (fun b _ e=>e.2) (fun b _ e=>e.2)
theorem DskR.keep {ρ ρ':Rl}{w w':World}{p d:Nat}{D:Dsk}(h:DskR ρ w p d D) (hs:w.heap.size<=w'.heap.size) (hk:∀b,b<w.heap.size->rsDsk (ρ b)->w'.heap[b]? =w.heap[b]? /\ρ' b=ρ b):DskR ρ' w' p d D:=by
 obtain⟨vs,vW,vT,T,h1,h2,h3,h4,h5,h6⟩:=h
 have k1:=hk d h1.lt (by rw[h2];simp[rsDsk])
 refine⟨vs,vW,vT,T,k1.1.trans h1,k1.2.trans h2,fun k hk'=>⟨(h3 k hk').1.keepR hs (fun b hb e=>hk b hb (.inl e)),(h3 k hk').2⟩,h4.keepR hs (fun b hb e=>hk b hb ?_),h5.keepR hs (fun b hb e=>hk b hb ?_),h6⟩
 ·rcases e with e|e<;>rw[e]<;>simp[rsDsk]
 ·rcases e with e|e<;>rw[e]<;>simp[rsDsk]
theorem DskR.lt {ρ:Rl}{w:World}{p d:Nat}{D:Dsk}(h:DskR ρ w p d D):d<w.heap.size:=by obtain⟨_,_,_,_,h1,_⟩:=h;exact h1.lt
theorem DskR.role {ρ:Rl}{w:World}{p d:Nat}{D:Dsk}(h:DskR ρ w p d D):ρ d=rDsk:=by obtain⟨_,_,_,_,_,h1,_⟩:=h;exact h1
def dstep (k:Nat) (b:By) (o:Opn):By:=if o.off=(k:Int)then o.bytes else b
def dread (D:Dsk) (k:Nat):By:=D.waits.foldl (dstep k) (D.lasts k)
def dreadTo (D:Dsk) (i k:Nat):By:=(D.waits.take i).foldl (dstep k) (D.lasts k)
theorem dreadTo_succ (D:Dsk) (i k:Nat) (o:Opn) (h:D.waits[i]? =some o):dreadTo D (i+1) k=dstep k (dreadTo D i k) o:=by
 unfold dreadTo
 rw[List.take_add_one,h]
 simp
theorem dreadTo_all (D:Dsk) (k:Nat):dreadTo D D.waits.length k=dread D k:=by unfold dreadTo dread;rw[List.take_length]
def rtDsk (r:Nat):Prop:=r=rPow\/r=rDsk\/r=rDwt\/r=rDtr
theorem refuse_ok (ρ:Rl) (p d:Nat) (D:Dsk) (b:Bool) (w:World) (hf:Fresh ρ w) (h:DskR ρ w p d D):
 Calls Tryz.prog 23 #[.pointer (some ⟨d,0,none⟩),.bool b] w fun e w'=>e=.returned (.tuple #[])/\DskR ρ w' p d {D with refuses:=b}/\Ste rtDsk ρ w ρ w':=by
 obtain⟨vs,vW,vT,T,h1,h2,h3,h4,h5,h6⟩:=h
 have c:=h1.cell_ 35 dc35
 have f:=h1.frozen 35
 have hl:=h1.lt
 have H1:=Lib.hid h1
 clear h1
 go_enter Tryz.func23,Tryz.ntmps23
 go_wp2_with fail
 go_end0
 have hk:∀i,ρ i≠rDsk->(w.setCell ⟨d,35,none⟩ (.bool b)).heap[i]? =w.heap[i]? :=fun i hi=>Below.heap_setCell w _ _ i (fun e=>hi (by simp only at e;rw[e];exact h2))
 have hs:w.heap.size<=(w.setCell ⟨d,35,none⟩ (.bool b)).heap.size:=by simp[World.setCell]
 refine⟨rfl,⟨vs,vW,vT,T,H1.out.set_to 35 _ (ds35 b),h2,fun k hk'=>⟨(h3 k hk').1.keepR hs (fun i _ e=>⟨hk i (by rw[e];decide),rfl⟩),(h3 k hk').2⟩,h4.keepR hs (fun i _ e=>⟨hk i (by rcases e with e|e<;>rw[e]<;>decide),rfl⟩),h5.keepR hs (fun i _ e=>⟨hk i (by rcases e with e|e<;>rw[e]<;>decide),rfl⟩),h6⟩,Ste.of_ch (Ch.set_ (p:=⟨d,35,none⟩) (by simp only;rw[h2];simp[rtDsk]) _ _) hf⟩
theorem dis_ok (d:Nat) (k:Int) (w:World) (h0:0<=k) (h1:k<32):Calls Tryz.prog 152 #[.pointer (some ⟨d,0,none⟩),.int .i64 k] w fun e w'=>e=.returned (.bool true)/\w=w':=by
 go_enter Tryz.func152,Tryz.ntmps152
 go_wp2_with fail
 go_ret
 exact⟨rfl,rfl⟩
end Go.Proofs.YtggmdjdflaglpaaGreat
namespace Go.Proofs.YtggmdjdflaglpaaGreat
open Go.RowKit
set_option linter.unusedVariables false
theorem DskR.pushW {ρ:Rl}{W W':World}{p d:Nat}{D:Dsk}{vs:Nat->Value}{v vT v' u:Value}{T:List Opn}{cs:List Value}{o:Opn}
 (h1:Blk W d 123 (dcells p vs v vT D.refuses)) (h2:ρ d=rDsk) (h3:∀k,k<32->HasP (ρ · =rImm) W (vs k) (D.lasts k)/\(D.lasts k).length=32)
 (hrow:W.ownsRow 0 119 2 v D.waits.length cs) (hrole:∀b,v.ownBlock=some b->ρ b=rDwt) (hops:OpsV (ρ · =rImm) W cs D.waits) (h6:OpRow (ρ · =rImm) (ρ · =rDtr) W vT T)
 (h7:T.length<=D.cnt/\D.waits.length<=D.cnt/\∀o∈D.waits,o.dk)
 (hin:o.dk)
 (hu:HasP (fun b=>ρ b=0) W u o.bytes) (hnew:W'.ownsRow 0 119 2 v' (D.waits.length+1) (cs++[.int .i64 o.off,u])) (hg:W.grownBy W' v.ownBlock)
 (hor:v'.ownBlock=v.ownBlock\/v'.ownBlock=some W.heap.size) (hf:Fresh ρ W):
 ∃ρ',(∀b,ρ b≠0->ρ' b=ρ b)/\(∀b,ρ' b≠ρ b->u.ownBlock=some b\/b=W.heap.size)/\Fresh ρ' (W'.setCell ⟨d,33,none⟩ v')/\DskR ρ' (W'.setCell ⟨d,33,none⟩ v') p d ⟨D.lasts,D.waits++[o],D.refuses,D.cnt+1⟩/\
  Ch (fun i=>rtDsk (ρ i)) W (W'.setCell ⟨d,33,none⟩ v'):=by
 obtain⟨ρ',k1,k2,k3,k4⟩:=OpRow.push (r:=rDwt) (by decide) (by decide) hrow hrole hops hu hnew hg hor hf
 have hch:Ch (fun i=>rtDsk (ρ i)) W (W'.setCell ⟨d,33,none⟩ v'):=by
  refine Ch.trans (w':=W') ⟨hg.os,hg.tape,hg.output,hg.size,fun i hi hn=>hg.block i hi (fun e=>hn ?_)⟩ ⟨rfl,rfl,rfl,by simp[World.setCell],fun i hi hn=>Below.heap_setCell W' _ v' i (fun e=>hn ?_)⟩
  ·rw[hrole i e.symm];simp[rtDsk]
  ·simp only at e;rw[e,h2];simp[rtDsk]
 have hsz:=hch.size
 have hsne:some d≠v.ownBlock:=fun e=>by
  have:=hrole d e.symm
  rw[h2]at this
  exact absurd this (by decide)
 have hset:∀i,ρ' i≠rDsk->(W'.setCell ⟨d,33,none⟩ v').heap[i]? =W'.heap[i]? :=fun i hi=>Below.heap_setCell W' _ v' i (fun e=>hi (by simp only at e;rw[e,k1 d (by rw[h2];decide)];exact h2))
 refine⟨ρ',k1,fun b hb=>?_,fun i hi=>k3 i (by simpa[World.setCell]using hi),⟨vs,v',vT,T,?_,(k1 d (by rw[h2];decide)).trans h2,fun k hk=>⟨(h3 k hk).1.keepR hsz (fun b hb e=>?_),(h3 k hk).2⟩,?_,?_,?_,?_,?_⟩,hch⟩
 ·rcases k2 b hb with⟨_,h⟩|⟨_,h⟩
  ·exact .inl h
  ·exact .inr h
 ·exact(h1.grown hg hsne).set_to 33 v' (ds33 v')
 ·exact⟨hch.keep b hb (by rw[e];unfold rtDsk;decide),k1 b (by rw[e];decide)⟩
 ·refine k4.keep (by simp[World.setCell]) (fun b hb e=>hset b ?_)
  rcases e with e|e<;>rw[e]<;>decide
 ·refine h6.keepR hsz (fun b hb e=>?_)
  have hr:ρ b≠0/\ρ b≠rDsk/\ρ b≠rDwt:=by rcases e with e|e<;>rw[e]<;>decide
  exact⟨(hset b (by rw[k1 b hr.1];exact hr.2.1)).trans (hg.block b hb (fun c=>hr.2.2 (hrole b c.symm))),k1 b hr.1⟩
 ·have:=h7.1;simp only;omega
 ·have:=h7.2.1;simp only[List.length_append,List.length_singleton];omega
 ·intro o' ho'
  rcases List.mem_append.1 ho' with h|h
  ·exact h7.2.2 o' h
  ·rw[List.mem_singleton.1 h];exact hin
theorem DskR.pushT {ρ:Rl}{W W':World}{p d:Nat}{D:Dsk}{vs:Nat->Value}{v vT v' u:Value}{T:List Opn}{cs:List Value}{o:Opn}
 (h1:Blk W d 123 (dcells p vs vT v D.refuses)) (h2:ρ d=rDsk) (h3:∀k,k<32->HasP (ρ · =rImm) W (vs k) (D.lasts k)/\(D.lasts k).length=32)
 (hrow:W.ownsRow 0 119 2 v T.length cs) (hrole:∀b,v.ownBlock=some b->ρ b=rDtr) (hops:OpsV (ρ · =rImm) W cs T) (h6:OpRow (ρ · =rImm) (ρ · =rDwt) W vT D.waits)
 (h7:T.length<=D.cnt/\D.waits.length<=D.cnt/\∀o∈D.waits,o.dk)
 (hu:HasP (fun b=>ρ b=0) W u o.bytes) (hnew:W'.ownsRow 0 119 2 v' (T.length+1) (cs++[.int .i64 o.off,u])) (hg:W.grownBy W' v.ownBlock)
 (hor:v'.ownBlock=v.ownBlock\/v'.ownBlock=some W.heap.size) (hf:Fresh ρ W):
 ∃ρ',(∀b,ρ b≠0->ρ' b=ρ b)/\(∀b,ρ' b≠ρ b->u.ownBlock=some b\/b=W.heap.size)/\Fresh ρ' (W'.setCell ⟨d,34,none⟩ v')/\DskR ρ' (W'.setCell ⟨d,34,none⟩ v') p d ⟨D.lasts,D.waits,D.refuses,D.cnt+1⟩/\
  Ch (fun i=>rtDsk (ρ i)) W (W'.setCell ⟨d,34,none⟩ v'):=by
 obtain⟨ρ',k1,k2,k3,k4⟩:=OpRow.push (r:=rDtr) (by decide) (by decide) hrow hrole hops hu hnew hg hor hf
 have hch:Ch (fun i=>rtDsk (ρ i)) W (W'.setCell ⟨d,34,none⟩ v'):=by
  refine Ch.trans (w':=W') ⟨hg.os,hg.tape,hg.output,hg.size,fun i hi hn=>hg.block i hi (fun e=>hn ?_)⟩ ⟨rfl,rfl,rfl,by simp[World.setCell],fun i hi hn=>Below.heap_setCell W' _ v' i (fun e=>hn ?_)⟩
  ·rw[hrole i e.symm];simp[rtDsk]
  ·simp only at e;rw[e,h2];simp[rtDsk]
 have hsz:=hch.size
 have hsne:some d≠v.ownBlock:=fun e=>by
  have:=hrole d e.symm
  rw[h2]at this
  exact absurd this (by decide)
 have hset:∀i,ρ' i≠rDsk->(W'.setCell ⟨d,34,none⟩ v').heap[i]? =W'.heap[i]? :=fun i hi=>Below.heap_setCell W' _ v' i (fun e=>hi (by simp only at e;rw[e,k1 d (by rw[h2];decide)];exact h2))
 refine⟨ρ',k1,fun b hb=>?_,fun i hi=>k3 i (by simpa[World.setCell]using hi),⟨vs,vT,v',T++[o],?_,(k1 d (by rw[h2];decide)).trans h2,fun k hk=>⟨(h3 k hk).1.keepR hsz (fun b hb e=>?_),(h3 k hk).2⟩,?_,?_,?_,?_,?_⟩,hch⟩
 ·rcases k2 b hb with⟨_,h⟩|⟨_,h⟩
  ·exact .inl h
  ·exact .inr h
 ·exact(h1.grown hg hsne).set_to 34 v' (ds34 v')
 ·exact⟨hch.keep b hb (by rw[e];unfold rtDsk;decide),k1 b (by rw[e];decide)⟩
 ·refine h6.keepR hsz (fun b hb e=>?_)
  have hr:ρ b≠0/\ρ b≠rDsk/\ρ b≠rDtr:=by rcases e with e|e<;>rw[e]<;>decide
  exact⟨(hset b (by rw[k1 b hr.1];exact hr.2.1)).trans (hg.block b hb (fun c=>hr.2.2 (hrole b c.symm))),k1 b hr.1⟩
 ·refine k4.keep (by simp[World.setCell]) (fun b hb e=>hset b ?_)
  rcases e with e|e<;>rw[e]<;>decide
 ·have:=h7.1;simp only[List.length_append,List.length_singleton];omega
 ·have:=h7.2.1;simp only;omega
 ·exact h7.2.2
def dpush (D:Dsk) (k:Int) (b:By):Dsk:=⟨D.lasts,D.waits++[⟨k,b⟩],D.refuses,D.cnt+2⟩
theorem not_rd_pow:¬rsDsk rPow:=by unfold rsDsk;decide
def dwok (P:Pow) (D:Dsk):Bool:=!D.refuses&&(spend P).2
theorem dwrite_no (ρ:Rl) (p d:Nat) (D:Dsk) (k:Int) (vb:Value) (b:By) (w:World) (h:DskR ρ w p d D) (hv:HasP (fun _=>True) w vb b) (k0:0<=k) (k1:k<32) (hl:b.length=32) (hr:D.refuses=true):
 Calls Tryz.prog 144 #[.pointer (some ⟨d,0,none⟩),.int .i64 k,vb] w fun e w'=>e=.returned (.bool false)/\w=w':=by
 have his:=dis_ok d k w k0 k1
 obtain⟨A,cap,rfl⟩:=hv.slice
 rw[hl]
 obtain⟨vs,vW,vT,T,h1,h2,_⟩:=h
 rw[hr]at h1
 have c:=h1.cell_ 35 dc35
 have hd:=h1.lt
 clear h1
 go_enter Tryz.func144,Tryz.ntmps144
 go_wp2_with fail
 refine his.mono ?_
 rintro e w1 ⟨rfl,rfl⟩
 go_wp2_with fail
 go_ret
 exact⟨rfl,rfl⟩
set_option maxHeartbeats 4000000 in
set_option maxRecDepth 100000 in
theorem dwrite_ok (ρ:Rl) (p d:Nat) (P:Pow) (D:Dsk) (k:Int) (vb:Value) (b:By) (w:World) (hf:Fresh ρ w) (hP:PowR w p P) (hp:ρ p=rPow) (h:DskR ρ w p d D) (hv:HasP (fun i=>¬rtDsk (ρ i)) w vb b)
 (k0:0<=k) (k1:k<32) (hl32:b.length=32) (hr:D.refuses=false) (hc:D.cnt<=1000000):
 Calls Tryz.prog 144 #[.pointer (some ⟨d,0,none⟩),.int .i64 k,vb] w fun e w'=>e=.returned (.bool (spend P).2)/\PowR w' p (spend P).1/\∃ρ',DskR ρ' w' p d (if(spend P).2 then dpush D k b else D)/\Ste rtDsk ρ w ρ' w':=by
 have his:=dis_ok d k w k0 k1
 have hsp:=spend_ok p P w hP
 obtain⟨A,cap,rfl⟩:=hv.slice
 have H:=Lib.hid h
 have hd0:=h.role
 have hPl:=hP.lt
 have HL:=Lib.hid hl32
 have hbl:b.length<=100000:=by omega
 rw[hl32]at hv ⊢
 obtain⟨vs,vW,vT,T,h1,h2,_⟩:=h
 rw[hr]at h1
 have c:=h1.cell_ 35 dc35
 have c0:=h1.cell_ 0 dc0
 have hd:=h1.lt
 clear h1 hl32
 cases hs:(spend P).2 with
 |false=>
  rw[hs]at hsp
  go_enter Tryz.func144,Tryz.ntmps144
  go_wp2_with fail
  refine his.mono ?_
  rintro e w1 ⟨rfl,rfl⟩
  go_wp2_with fail
  refine hsp.mono ?_
  rintro e w1 ⟨rfl,hp1,hg⟩
  go_wp2_with fail
  go_ret
  have hst:Ste rtDsk ρ w ρ w1:=Ste.of_grown hg (by rw[hp];exact .inl rfl) hf
  refine⟨by simp,hp1,ρ,?_,hst⟩
  exact H.out.keep hg.size (fun b hb hr=>⟨hg.block b hb (fun e=>by injection e with e;rw[e,hp]at hr;exact not_rd_pow hr),rfl⟩)
 |true=>
  rw[hs]at hsp
  go_enter Tryz.func144,Tryz.ntmps144
  go_wp2_with fail
  refine his.mono ?_
  rintro e w1 ⟨rfl,rfl⟩
  go_wp2_with fail
  refine hsp.mono ?_
  rintro e w1 ⟨rfl,hp1,hg⟩
  have hst:Ste rtDsk ρ w ρ w1:=Ste.of_grown hg (by rw[hp];exact .inl rfl) hf
  have hS1:DskR ρ w1 p d D:=H.out.keep hg.size (fun b hb hr=>⟨hg.block b hb (fun e=>by injection e with e;rw[e,hp]at hr;exact not_rd_pow hr),rfl⟩)
  have hv1:HasP (fun i=>¬rtDsk (ρ i)) w1 (.slice A 32 cap) b:=hv.keep hg.size (fun i hi hn=>hst.ch.keep i hi hn)
  have hpw:=hp1
  clear his hsp c0 c hv hp1
  obtain⟨vs,vW,vT,T,h1,h2,h3,⟨csW,r1,r2,r3⟩,h6,h7⟩:=hS1
  obtain⟨Aw,cw,rfl⟩:∃Aw cw,vW=.slice Aw D.waits.length cw:=OpRow.form ⟨csW,r1,r2,r3⟩
  obtain⟨i0,hi,hz0,hz1,hz2⟩:=info_parts info119
  have hf2:=hst.fresh
  have hl2:=h1.lt
  have hcl:=fun(W':World) (hh:HasP (fun i=>¬rtDsk (ρ i)) W' (.slice A 32 cap) b)=>clone_ok _ _ b W' hh (by omega)
  go_wp2_with fail
  have hB:=(Below.refl w1.heap.size w1).drew
  have hB0:=hB
  replace h1:=h1.drew
  replace hv1:=hv1.drew
  have c2:w1.drew.cell? ⟨d,33,none⟩=some (.slice Aw D.waits.length cw):=h1.cell_ 33 dc33
  replace r1:w1.drew.ownsRow 0 119 2 (.slice Aw D.waits.length cw) D.waits.length csW:=r1
  replace r2:∀b,(Value.slice Aw D.waits.length cw).ownBlock=some b->ρ b=rDwt:=r2
  have hnw:=h7.2.1
  go_region_law
   (first
    |(refine step_append_own (by rfl) _ _ _ (by rfl) 0 119 i0 _ 2 32 Tryz.underlying114 hi hz0 hz1 hz2 rfl (by omega) _ D.waits.length csW (by rfl) (World.ownsRow.alloc r1 _) ⟨w3.heap.size,0,none⟩ 1 1 [.int .i64 k,.slice A1 b.length c1] (by rfl) (by simp) (cell_two_new _ _ _ _) (fun v hv=>by simp at hv;rcases hv with rfl|rfl<;>rfl) (by unfold maxLen;omega) (by omega) (by omega) ?_;intro v2 w2 hown2 hgrow2 hor2;obtain⟨A2,cap2,rfl⟩:=row_form hown2;have hS2':=(h1.alloc (.cells #[.int .i64 k,.slice A1 b.length c1] 119)).grown hgrow2 (fun e=>by have:=r2 d e.symm;rw[hd0]at this;exact absurd this (by decide));have d2:=hS2'.cell_ 33 dc33;have e2:=hS2'.frozen 33;have k2:=hS2'.lt)
    |(go_simp;go_at_call 49;refine(hcl _ hv1).mono ?_;rintro e w3 ⟨v1,rfl,o1,l1⟩;replace hB0:=hB;obtain⟨A1,c1,rfl⟩:=o1.has.slice;replace h1:=h1.below_ l1;replace hv1:=hv1.below_ l1;replace r1:=row_keep r1 (fun b hb _=>l1.block b hb);replace hB:=hB.trans (l1.mono hB.size);replace c2:=h1.cell_ 33 dc33;replace hl2:=h1.lt))
  all_goals
   have hBb:Below w1.heap.size w1 (w3.alloc (.cells #[.int .i64 k,.slice A1 b.length c1] 119)):=(hB.alloc hB.size _)
   obtain⟨ρ4,q1,q2,q3,hS4,hch4⟩:=DskR.pushW (o:=⟨k,b⟩) (u:=.slice A1 b.length c1) (h1.alloc (.cells #[.int .i64 k,.slice A1 b.length c1] 119)) hd0 (fun j hj=>⟨(h3 j hj).1.keep hBb.size (fun b hb _=>hBb.block b hb),(h3 j hj).2⟩) (World.ownsRow.alloc r1 _) r2 (r3.keep hBb.size (fun b hb _=>hBb.block b hb)) (h6.keep hBb.size (fun b hb _=>hBb.block b hb)) h7 ⟨k0,k1,HL.out⟩
    ((o1.has.alloc _).weak (fun i hi=>hf2 i (Nat.le_trans hB0.size hi))) hown2 hgrow2 hor2 (fun i hi=>hf2 i (Nat.le_trans hBb.size hi))
   have hst4:Ste rtDsk ρ w ρ4 _:=Ste.of_push hst hBb (fun i hi=>by
    rcases q2 i hi with e|e
    ·exact Nat.le_trans hB0.size (o1.ge e).1
    ·rw[e];exact hBb.size) q3 hch4
   have hv4:HasP (fun i=>¬rtDsk (ρ i)) _ (.slice A 32 cap) b:=(hv1.alloc (.cells #[.int .i64 k,.slice A1 b.length c1] 119)).keep hch4.size (fun i hi hn=>hch4.keep i hi hn)
   have hpw4:PowR (w2.setCell ⟨d,33,none⟩ (.slice A2 (D.waits.length+1) cap2)) p (spend P).1:=hpw.keep (by
    rw[Below.heap_setCell _ _ _ _ (fun e=>by simp only at e;rw[e,hd0]at hp;exact absurd hp (by decide)),hgrow2.block p (Nat.lt_of_lt_of_le hpw.lt hBb.size) (fun e=>by have:=r2 p e.symm;rw[hp]at this;exact absurd this (by decide))]
    exact hBb.block p hpw.lt)
   obtain⟨W4,hW4⟩:∃W4,W4=w2.setCell ⟨d,33,none⟩ (.slice A2 (D.waits.length+1) cap2):=⟨_,rfl⟩
   rw[<-hW4]at hst4 hv4 hpw4 hS4 ⊢
   clear hW4 hv1 hown2 hgrow2 hor2 hBb hB0 hB q1 q2 q3 hch4 o1 l1 r1 r2 r3 h3 h6 h1 h7 hpw hst d2 e2 hS2' c2 k2
   obtain⟨vs',vW',vT',T',h1,h2',h3,h5,⟨csT,r1,r2,r3⟩,h7⟩:=hS4
   obtain⟨At,ct,rfl⟩:∃At ct,vT'=.slice At T'.length ct:=OpRow.form ⟨csT,r1,r2,r3⟩
   have hf4:=hst4.fresh
   have hlt':=h7.1
   simp only at hlt'
   have hl3:=h1.lt
   go_wp2_with fail
   have hB:=(Below.refl W4.heap.size W4).drew
   have hB0:=hB
   replace h1:=h1.drew
   have hv1:=hv4.drew
   have c2:W4.drew.cell? ⟨d,34,none⟩=some (.slice At T'.length ct):=h1.cell_ 34 dc34
   replace r1:W4.drew.ownsRow 0 119 2 (.slice At T'.length ct) T'.length csT:=r1
   replace r2:∀b,(Value.slice At T'.length ct).ownBlock=some b->ρ4 b=rDtr:=r2
   go_region_law
    (first
     |(refine step_append_own (by rfl) _ _ _ (by rfl) 0 119 i0 _ 2 32 Tryz.underlying114 hi hz0 hz1 hz2 rfl (by omega) _ T'.length csT (by rfl) (World.ownsRow.alloc r1 _) ⟨w5.heap.size,0,none⟩ 1 1 [.int .i64 k,.slice A3 b.length c3] (by rfl) (by simp) (cell_two_new _ _ _ _) (fun v hv=>by simp at hv;rcases hv with rfl|rfl<;>rfl) (by unfold maxLen;omega) (by omega) (by omega) ?_;intro v2 w6 hown2 hgrow2 hor2;obtain⟨A4,cap4,rfl⟩:=row_form hown2;have hS6':=(h1.alloc (.cells #[.int .i64 k,.slice A3 b.length c3] 119)).grown hgrow2 (fun e=>by have:=r2 d e.symm;rw[h2']at this;exact absurd this (by decide));have d2:=hS6'.cell_ 34 dc34;have e2:=hS6'.frozen 34;have k2:=hS6'.lt)
     |(go_simp;go_at_call 49;refine(hcl _ hv1).mono ?_;rintro e w5 ⟨v1,rfl,o1,l1⟩;replace hB0:=hB;obtain⟨A3,c3,rfl⟩:=o1.has.slice;replace h1:=h1.below_ l1;replace hv1:=hv1.below_ l1;replace r1:=row_keep r1 (fun b hb _=>l1.block b hb);replace hB:=hB.trans (l1.mono hB.size);replace c2:=h1.cell_ 34 dc34;replace hl3:=h1.lt))
   all_goals
    have hBb:Below W4.heap.size W4 (w5.alloc (.cells #[.int .i64 k,.slice A3 b.length c3] 119)):=(hB.alloc hB.size _)
    obtain⟨ρ6,q1,q2,q3,hS6,hch6⟩:=DskR.pushT (D:=⟨D.lasts,D.waits++[⟨k,b⟩],D.refuses,D.cnt+1⟩) (o:=⟨k,b⟩) (u:=.slice A3 b.length c3) (h1.alloc (.cells #[.int .i64 k,.slice A3 b.length c3] 119)) h2' (fun j hj=>⟨(h3 j hj).1.keep hBb.size (fun b hb _=>hBb.block b hb),(h3 j hj).2⟩) (World.ownsRow.alloc r1 _) r2 (r3.keep hBb.size (fun b hb _=>hBb.block b hb)) (h5.keep hBb.size (fun b hb _=>hBb.block b hb)) h7
     ((o1.has.alloc _).weak (fun i hi=>hf4 i (Nat.le_trans hB0.size hi))) hown2 hgrow2 hor2 (fun i hi=>hf4 i (Nat.le_trans hBb.size hi))
    have hst6:Ste rtDsk ρ4 W4 ρ6 _:=Ste.of_push (Ste.refl _ hf4) hBb (fun i hi=>by
     rcases q2 i hi with e|e
     ·exact Nat.le_trans hB0.size (o1.ge e).1
     ·rw[e];exact hBb.size) q3 hch6
    have hp4:ρ4 p=rPow:=(hst4.old p hPl).trans hp
    have hpw6:PowR (w6.setCell ⟨d,34,none⟩ (.slice A4 (T'.length+1) cap4)) p (spend P).1:=hpw4.keep (by
     rw[Below.heap_setCell _ _ _ _ (fun e=>by simp only at e;rw[e,h2']at hp4;exact absurd hp4 (by decide)),hgrow2.block p (Nat.lt_of_lt_of_le hpw4.lt hBb.size) (fun e=>by have:=r2 p e.symm;rw[hp4]at this;exact absurd this (by decide))]
     exact hBb.block p hpw4.lt)
    have hfin:=Lib.hid (And.intro hS6 (And.intro hpw6 (hst4.trans hst6)))
    clear hS6 hpw6 hst6 hst4 hch6 hown2 hgrow2 hor2 d2 e2 hS6' hv1 hv4 o1 l1 r1 r2 r3 h1 h3 h5 h7
    go_wp2_with fail
    go_ret
    exact⟨by simp,hfin.out.2.1,ρ6,hfin.out.1,hfin.out.2.2⟩
end Go.Proofs.YtggmdjdflaglpaaGreat
namespace Go.Proofs.YtggmdjdflaglpaaGreat
open Go.RowKit
set_option linter.unusedVariables false
def dsettled (D:Dsk):Dsk:=⟨fun k=>dread D k,[],D.refuses,D.cnt+1⟩
set_option maxHeartbeats 4000000 in
set_option maxRecDepth 100000 in
theorem dbarrier_ok (ρ:Rl) (p d:Nat) (P:Pow) (D:Dsk) (w:World) (hf:Fresh ρ w) (hP:PowR w p P) (hp:ρ p=rPow) (h:DskR ρ w p d D) (hc:D.cnt<=1000000):
 Calls Tryz.prog 108 #[.pointer (some ⟨d,0,none⟩)] w fun e w'=>e=.returned (.bool (spend P).2)/\PowR w' p (spend P).1/\∃ρ',DskR ρ' w' p d (if(spend P).2 then dsettled D else D)/\Ste rtDsk ρ w ρ' w':=by
 have hsp:=spend_ok p P w hP
 have H:=Lib.hid h
 have hd0:=h.role
 obtain⟨vs,vW,vT,T,h1,h2,_⟩:=h
 have c0:=h1.cell_ 0 dc0
 have hl:=h1.lt
 have hpl:=hP.lt
 clear h1
 cases hs:(spend P).2 with
 |false=>
  rw[hs]at hsp
  go_enter Tryz.func108,Tryz.ntmps108
  go_wp2_with fail
  refine hsp.mono ?_
  rintro e w1 ⟨rfl,hp1,hg⟩
  go_wp2_with fail
  go_ret
  have hst:Ste rtDsk ρ w ρ w1:=Ste.of_grown hg (by rw[hp];exact .inl rfl) hf
  refine⟨by simp,hp1,ρ,?_,hst⟩
  exact H.out.keep hg.size (fun b hb hr=>⟨hg.block b hb (fun e=>by injection e with e;rw[e,hp]at hr;exact not_rd_pow hr),rfl⟩)
 |true=>
  rw[hs]at hsp
  go_enter Tryz.func108,Tryz.ntmps108
  go_wp2_with fail
  refine hsp.mono ?_
  rintro e w1 ⟨rfl,hp1,hg⟩
  have hst:Ste rtDsk ρ w ρ w1:=Ste.of_grown hg (by rw[hp];exact .inl rfl) hf
  have hS1:DskR ρ w1 p d D:=H.out.keep hg.size (fun b hb hr=>⟨hg.block b hb (fun e=>by injection e with e;rw[e,hp]at hr;exact not_rd_pow hr),rfl⟩)
  have HP1:=Lib.hid hp1
  have HST:=Lib.hid hst
  clear hsp c0 hp1 hst
  obtain⟨vs,vW,vT,T,h1,h2,h3,h4,⟨csT,r1,r2,r3⟩,h7,h8,h9⟩:=hS1
  obtain⟨Aw,cw,rfl⟩:=h4.form
  obtain⟨At,ct,rfl⟩:∃At ct,vT=.slice At T.length ct:=OpRow.form ⟨csT,r1,r2,r3⟩
  obtain⟨n,hn⟩:∃n,n=D.waits.length:=⟨_,rfl⟩
  rw[<-hn]at h1 h8
  have HN:=Lib.hid hn
  have cW:=h1.cell_ 33 dc33
  have hl1:=h1.lt
  have HR:=Lib.hid (And.intro r1 (And.intro r2 r3))
  clear hn r1 r2 r3
  go_wp2_with fail
  go_loopw [4,20] (fun _ t wr=>∃(i:Nat) (us:Nat->Value),t=.int .i64 i/\i<=n/\Blk wr d 123 (dcells p us (.slice Aw n cw) (.slice At T.length ct) D.refuses)/\(∀k,k<32->HasP (ρ · =rImm) w1 (us k) (dreadTo D i k)/\(dreadTo D i k).length=32)/\Ch (fun b=>b=d) w1 wr) (fun _ t _=>n-(intOf t).toNat)
  case atStart=>exact⟨0,vs,rfl,by omega,h1,h3,Ch.refl _ _⟩
  case round=>
   obtain⟨i,us,rfl,hin,hB,hU,hch⟩:=hrel
   clear h1 cW h3
   by_cases hlt:i<n
   ·obtain⟨o,ho⟩:∃o,D.waits[i]? =some o:=⟨_,List.getElem?_eq_getElem (by have:=HN.out;omega)⟩
    obtain⟨rb,rc,u,hv,hrr,hrl,q0,q1,hu⟩:=h4.at_ ho
    obtain⟨rfl,rfl⟩:Aw=some ⟨rb,0,none⟩/\cw=rc:=by simpa using hv
    have hdk:=h9 o (List.mem_of_getElem? ho)
    obtain⟨A1,c1,rfl⟩:=hu.slice
    have n1:¬(rb=d):=fun e=>by rw[e]at hrr;rw[hd0]at hrr;exact absurd hrr (by decide)
    have j0:=(hch.cell (j:=i*2) hrl n1).trans q0
    have j1:=(hch.cell (j:=i*2+1) hrl n1).trans q1
    obtain⟨f,hf0⟩:=Int.eq_ofNat_of_zero_le hdk.1
    have hf1:f<32:=by have:=hdk.2.1;omega
    have hU2:∀k,k<32->HasP (ρ · =rImm) w1 ((fun j=>if j=f then .slice A1 o.bytes.length c1 else us j) k) (dreadTo D (i+1) k)/\(dreadTo D (i+1) k).length=32:=fun k hk=>by
     rw[dreadTo_succ D i k o ho]
     unfold dstep
     by_cases e:k=f
     ·subst e
      simp only[if_pos hf0,if_true]
      exact⟨hu,hdk.2.2⟩
     ·simp only[if_neg (show ¬o.off=(k:Int)by omega),if_neg e]
      exact hU k hk
    have m0:(0:Int)<=(i:Int):=by omega
    have m1:(i:Int)<(n:Int):=by omega
    have m2:(0:Int)<=(f:Int):=by omega
    have m3:(f:Int)<32:=by omega
    obtain⟨m,hm⟩:∃m,m=o.bytes.length:=⟨_,rfl⟩
    rw[hf0]at j0
    rw[<-hm]at j1 hU2
    obtain⟨W,hW⟩:∃W,W=wr.alloc (.cells #[.int .i64 (f:Int),.slice A1 m c1] 119):=⟨_,rfl⟩
    have hX:Blk W wr.heap.size 119 #[.int .i64 (f:Int),.slice A1 m c1]:=by rw[hW];exact Blk.new wr 119 _
    have k0:W.drew.cell? ⟨wr.heap.size,0,none⟩=some (.int .i64 (f:Int)):=hX.drew.cell_ 0 rfl
    have k1:W.drew.cell? ⟨wr.heap.size,1,none⟩=some (.slice A1 m c1):=hX.drew.cell_ 1 rfl
    have hBW:Blk W.drew d 123 (dcells p us (.slice (some ⟨rb,0,none⟩) n cw) (.slice At T.length ct) D.refuses):=by rw[hW];exact(hB.alloc _).drew
    have hchW:Ch (fun b=>b=d) w1 W.drew:=by rw[hW];exact(hch.trans (Ch.alloc_ _ _)).trans (Ch.drew_ _)
    have cf:=hBW.cell_ (1+f) (dck hf1)
    have ff:=hBW.frozen (1+f)
    have lW:=hBW.lt
    have HB:=Lib.hid (And.intro (hBW.set_to (1+f) (.slice A1 m c1) (dsk_ hf1 _)) (And.intro hU2 (hchW.trans (Ch.set_ (S:=fun b=>b=d) (p:=⟨d,1+f,none⟩) rfl _ (.slice A1 m c1)))))
    clear hX hBW hchW hB hU hch hU2 hu ho hv q0 q1 hdk hf0 hm h4
    go_wp2_with fail
    rw[<-hW]
    clear hW
    go_region_law (fail)
    all_goals
     go_wp2_with fail
     go_roundw
     case rel=>exact⟨i+1,_,by go_num,by omega,HB.out.1,HB.out.2.1,HB.out.2.2⟩
     case measure=>simp[intOf];omega
   ·obtain rfl:i=n:=by omega
    have hd':decide ((i:Int)<(i:Int))=false:=by simp
    have d33:=hB.cell_ 33 dc33
    have e33:=hB.frozen 33
    have hlr:=hB.lt
    have hB2:=hB.set_to 33 (.slice none 0 0) (ds33 (.slice none 0 0))
    have d34:=hB2.cell_ 34 dc34
    have hlr2:=hB2.lt
    have HB2:=Lib.hid hB2
    have hch2:Ch (fun b=>b=d) w1 (wr.setCell ⟨d,33,none⟩ (.slice none 0 0)):=hch.trans (Ch.set_ (S:=fun b=>b=d) (p:=⟨d,33,none⟩) rfl _ _)
    obtain⟨i0,hi,hz0,hz1,hz2⟩:=info_parts info119
    have hTl:T.length<=1000000:=by omega
    have hrow:((wr.setCell ⟨d,33,none⟩ (.slice none 0 0)).alloc (.cells #[.int .i64 (-1),.slice none 0 0] 119)).ownsRow 0 119 2 (.slice At T.length ct) T.length csT:=
     World.ownsRow.alloc (row_keep HR.out.1 (fun b hb e=>hch2.keep b hb (fun c=>by have:=HR.out.2.1 b e;rw[c,hd0]at this;exact absurd this (by decide)))) _
    have hct:=cell_two_new (wr.setCell ⟨d,33,none⟩ (.slice none 0 0)) (.int .i64 (-1)) (.slice none 0 0) 119
    rw[show(wr.setCell ⟨d,33,none⟩ (.slice none 0 0)).heap.size=wr.heap.size by simp[World.setCell]]at hct
    have HH:=Lib.hid (And.intro hU (And.intro hch2 h4))
    have h7':=h7
    clear hB hB2 hch2 hU hch h4 h7 h8 h9 h2
    go_wp2_with (at_builtin;go_loud (refine wpList_append_own_at _ rfl _ _ 114 rfl 0 119 i0 _ 2 32 Tryz.underlying114 hi hz0 hz1 hz2 rfl (by decide) _ _ _ rfl hrow ⟨_,0,none⟩ 1 1 [.int .i64 (-1),.slice none 0 0] rfl (by simp) hct (fun v hv=>by simp at hv;rcases hv with rfl|rfl<;>rfl) (by unfold maxLen;omega) (by omega) (by omega) ?_))
    intro v2 w3 hown2 hgrow2 hnil2 hor2
    clear hnil2
    obtain⟨A2,cap2,rfl⟩:=row_form hown2
    have r2':∀b,(Value.slice At T.length ct).ownBlock=some b->ρ b=rDtr:=HR.out.2.1
    have hS3:=(HB2.out.alloc (.cells #[.int .i64 (-1),.slice none 0 0] 119)).grown hgrow2 (fun e=>by have:=r2' d e.symm;rw[hd0]at this;exact absurd this (by decide))
    have d4:=hS3.cell_ 34 dc34
    have e4:=hS3.frozen 34
    have hl4:=hS3.lt
    have HO:=Lib.hid (And.intro hown2 (And.intro hgrow2 hor2))
    have HRW:=Lib.hid hrow
    clear hown2 hgrow2 hor2 hS3 hrow hct hi hz0 hz1 hz2 d33 e33 d34 r2'
    go_wp2_with fail
    go_ret
    obtain⟨hown2,hgrow2,hor2⟩:=HO.out
    obtain⟨r1,r2,r3⟩:=HR.out
    obtain⟨hU,hch2,h4⟩:=HH.out
    have hf1:=HST.out.fresh
    have hsz2:(wr.setCell ⟨d,33,none⟩ (.slice none 0 0)).heap.size=wr.heap.size:=by simp[World.setCell]
    have hch3:Ch (fun b=>b=d) w1 ((wr.setCell ⟨d,33,none⟩ (.slice none 0 0)).alloc (.cells #[.int .i64 (-1),.slice none 0 0] 119)):=hch2.trans (Ch.alloc_ _ _)
    have hkd:∀b,b<w1.heap.size->ρ b≠rDsk->((wr.setCell ⟨d,33,none⟩ (.slice none 0 0)).alloc (.cells #[.int .i64 (-1),.slice none 0 0] 119)).heap[b]? =w1.heap[b]? :=fun b hb e=>hch3.keep b hb (fun c=>e (by rw[c];exact hd0))
    obtain⟨ρ4,k1,k2,k3,hS4,hch4⟩:=DskR.pushT (D:=⟨fun k=>dread D k,[],D.refuses,D.cnt⟩) (o:=⟨-1,[]⟩) (u:=.slice none 0 0) (HB2.out.alloc (.cells #[.int .i64 (-1),.slice none 0 0] 119)) hd0
     (fun k hk=>by
      have:=hU k hk
      rw[HN.out,dreadTo_all]at this
      exact⟨this.1.keep hch3.size (fun b hb e=>hkd b hb (by rw[e];decide)),this.2⟩)
     HRW.out r2 (r3.keep hch3.size (fun b hb e=>hkd b hb (by rw[e];decide))) (OpRow.nil _ _ _) ⟨h7',by simp,by simp⟩
     (.inl ⟨rfl,rfl⟩) hown2 hgrow2 (by simpa using hor2) (fun i hi=>hf1 i (Nat.le_trans hch3.size hi))
    have hst4:Ste rtDsk ρ w ρ4 _:=Ste.trans HST.out ⟨(hch3.mono (fun i e=>by rw[e,hd0];simp[rtDsk])).trans hch4,fun i hi=>by
     by_cases e:ρ4 i=ρ i
     ·exact e
     ·rcases k2 i e with c|c
      ·simp[Value.ownBlock]at c
      ·exact absurd hch3.size (by omega),k3⟩
    refine⟨rfl,HP1.out.keep ?_,ρ4,hS4,hst4⟩
    rw[Below.heap_setCell _ _ _ _ (fun e=>by simp only at e;rw[e,hd0]at hp;exact absurd hp (by decide)),hgrow2.block p (Nat.lt_of_lt_of_le HP1.out.lt hch3.size) (fun e=>by have:=r2 p e.symm;rw[hp]at this;exact absurd this (by decide))]
    exact hkd p HP1.out.lt (by rw[hp];decide)
end Go.Proofs.YtggmdjdflaglpaaGreat
namespace Go.Proofs.YtggmdjdflaglpaaGreat
open Go.RowKit
set_option linter.unusedVariables false
def nvs (d i k:Nat):Value:=if k<i then .slice (some ⟨d+1+k,0,none⟩) 32 32 else .slice none 0 0
theorem nvs_zero (d:Nat):nvs d 0=fun _=>.slice none 0 0:=by funext k;unfold nvs;rw[if_neg (by omega)]
theorem nvs_succ (d i:Nat):(fun k=>if k=i then .slice (some ⟨d+1+i,0,none⟩) 32 32 else nvs d i k)=nvs d (i+1):=by
 funext k
 unfold nvs
 by_cases e:k=i
 ·subst e;rw[if_pos rfl,if_pos (by omega)]
 ·rw[if_neg e]
  by_cases c:k<i
  ·rw[if_pos c,if_pos (by omega)]
  ·rw[if_neg c,if_neg (by omega)]
def nrl (ρ:Rl) (d:Nat):Rl:=fun i=>if i=d then rDsk else if d<i/\i<=d+32 then rImm else ρ i
theorem dcells_new (p:Nat):dcells p (fun _=>.slice none 0 0) (.slice none 0 0) (.slice none 0 0) false=#[.pointer (some ⟨p,0,none⟩),.slice none 0 0,.slice none 0 0,.slice none 0 0,.slice none 0 0,.slice none 0 0,.slice none 0 0,.slice none 0 0,.slice none 0 0,.slice none 0 0,.slice none 0 0,.slice none 0 0,.slice none 0 0,.slice none 0 0,.slice none 0 0,.slice none 0 0,.slice none 0 0,.slice none 0 0,.slice none 0 0,.slice none 0 0,.slice none 0 0,.slice none 0 0,.slice none 0 0,.slice none 0 0,.slice none 0 0,.slice none 0 0,.slice none 0 0,.slice none 0 0,.slice none 0 0,.slice none 0 0,.slice none 0 0,.slice none 0 0,.slice none 0 0,.slice none 0 0,.slice none 0 0,.bool false]:=rfl
set_option maxHeartbeats 4000000 in
set_option maxRecDepth 100000 in
theorem dnew_ok (p:Nat) (w:World) (ρ:Rl) (hf:Fresh ρ w):
 Calls Tryz.prog 32 #[.pointer (some ⟨p,0,none⟩)] w fun e w'=>e=.returned (.pointer (some ⟨w.heap.size,0,none⟩))/\DskR (nrl ρ w.heap.size) w' p w.heap.size ⟨fun _=>List.replicate 32 0,[],false,0⟩/\w'.heap.size=w.heap.size+33/\Below w.heap.size w w':=by
 have hm:∀W:World,(Instr.makeSlice 32 (.int .i64 32) (.int .i64 32)).run Tryz.prog W=.ok (.slice (some ⟨W.heap.size,0,none⟩) 32 32) (W.alloc (.cells (bvals (List.replicate 32 0)).toArray 5)):=fun W=>make_bytes 32 (by omega) W
 obtain⟨Z,hZ⟩:∃Z,Z=List.replicate 32 (0:UInt8):=⟨_,rfl⟩
 rw[<-hZ]at hm
 have HZ:=Lib.hid hZ
 clear hZ
 go_enter Tryz.func32,Tryz.ntmps32
 go_wp2_with fail
 rw[<-dcells_new,<-nvs_zero w.heap.size]
 obtain⟨W0,hW0⟩:∃W0,W0=w.alloc (.cells (dcells p (nvs w.heap.size 0) (.slice none 0 0) (.slice none 0 0) false) 123):=⟨_,rfl⟩
 have hs0:W0.heap.size=w.heap.size+1:=by rw[hW0];simp
 have hB0:Blk W0 w.heap.size 123 (dcells p (nvs w.heap.size 0) (.slice none 0 0) (.slice none 0 0) false):=by rw[hW0];exact Blk.new w 123 _
 have hb0:Below w.heap.size w W0:=by rw[hW0];exact(Below.refl _ _).alloc (Nat.le_refl _) _
 rw[<-hW0]
 clear hW0
 obtain⟨d,hd⟩:∃d,d=w.heap.size:=⟨_,rfl⟩
 rw[<-hd]at hs0 hB0 hb0 ⊢
 have HD:=Lib.hid hd
 clear hd
 go_loopw [4,8] (fun _ t wr=>∃i:Nat,t=.int .i64 i/\i<=32/\Blk wr d 123 (dcells p (nvs d i) (.slice none 0 0) (.slice none 0 0) false)/\(∀k,k<i->Blk wr (d+1+k) 5 (bvals (Z)).toArray)/\wr.heap.size=d+1+i/\Below d w wr) (fun _ t _=>32-(intOf t).toNat)
 case atStart=>exact⟨0,rfl,by omega,hB0,fun k hk=>by omega,by omega,hb0⟩
 case round=>
  obtain⟨i,rfl,hi,hB,hK,hS,hb⟩:=hrel
  clear hs0 hB0 hb0
  by_cases hlt:i<32
  ·have m0:(0:Int)<=(i:Int):=by omega
   have m1:(i:Int)<32:=by omega
   have hl:=hB.lt
   have hm1:=hm wr.drew
   rw[show wr.drew.heap.size=d+1+i from hS]at hm1
   have hBs:=(hB.alloc (.cells (bvals (Z)).toArray 5)).set_to (1+i) (.slice (some ⟨d+1+i,0,none⟩) 32 32) (dsk_ hlt _)
   rw[nvs_succ]at hBs
   have hf1:=(hB.alloc (.cells (bvals (Z)).toArray 5)).frozen (1+i)
   have hc1:=(hB.alloc (.cells (bvals (Z)).toArray 5)).cell_ (1+i) (dck hlt)
   have hH:=Lib.hid (And.intro hBs (And.intro hK (And.intro hS hb)))
   have hl1:=(hB.alloc (.cells (bvals (Z)).toArray 5)).lt
   clear hBs hK hb hm
   go_wp2_with fail
   go_region_law (fail)
   all_goals
    go_wp2_with fail
    go_roundw
    case rel=>
     obtain⟨hBs,hK,hS,hb⟩:=hH.out
     refine⟨i+1,by go_num,by omega,hBs.drew,fun k hk=>?_,by simp[World.setCell];omega,?_⟩
     ·by_cases e:k=i
      ·subst e
       have:=Blk.new wr 5 (bvals Z).toArray
       rw[hS]at this
       exact(this.far (p:=⟨d,1+k,none⟩) (by simp only;omega) _).drew
      ·exact(((hK k (by omega)).alloc _).far (p:=⟨d,1+i,none⟩) (by simp only;omega) _).drew
     ·exact((hb.alloc (by omega) _).setCell (p:=⟨d,1+i,none⟩) (Nat.le_refl _) _).drew
    case measure=>simp[intOf];omega
  ·obtain rfl:i=32:=by omega
   go_wp2_with fail
   go_ret
   have hZ:=HZ.out
   have hZl:Z.length=32:=by rw[hZ];simp
   rw[<-HD.out]
   refine⟨by simp,⟨nvs d 32,.slice none 0 0,.slice none 0 0,[],hB,by simp[nrl],fun k hk=>⟨?_,by simp⟩,OpRow.nil _ _ _,OpRow.nil _ _ _,by simp,by simp,by simp⟩,by omega,hb⟩
   have:=HasP.of_blk (p:=(nrl ρ d · =rImm)) (l:=Z) (hK k hk) (by rw[hZl];unfold maxLen;omega) (by simp only[nrl];rw[if_neg (by omega),if_pos (by omega)])
   rw[hZl]at this
   unfold nvs
   rw[if_pos hk]
   simp only[<-hZ]
   exact this
end Go.Proofs.YtggmdjdflaglpaaGreat
