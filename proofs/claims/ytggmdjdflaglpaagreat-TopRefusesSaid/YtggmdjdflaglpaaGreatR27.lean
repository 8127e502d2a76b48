/- The cache: its calls as plain functions (no walk). The cache in memory: what keeps it; the age's calls, said by roles. The cache: sizes and shapes that hold throughout; what each plain function does to them (no walk). The cache: drops; a leaf written into the row. The cache: commit. -/
import Derived.Test.YtggmdjdflaglpaaGreatR26
import Derived.Test.YtggmdjdflaglpaaGreatR23
namespace Go.Proofs.YtggmdjdflaglpaaGreat
open Go.RowKit Go.Proofs.YtggmdjdflaglpaaGreat.geo
set_option linter.unusedVariables false
def Cch.lf (C:Cch) (s:Nat):Lf:=C.now.getD s Lf.no
def Cch.wld (C:Cch) (W:Wld):Cch:=⟨W,C.M,C.now,C.was,C.age,C.T,C.pois⟩
def Cch.bad (C:Cch):Cch:=⟨C.W,C.M,C.now,C.was,C.age,C.T,true⟩
def Wld.vopen (W:Wld) (l:Lf) (s:Nat):Option By:=
 if l.n.ep.toNat∈W.kys.es then W.lk.opens (keyOf W.kys.seed l.n.ep.toNat) l.n (headB l.lba) (W.sbytes (s*32) 32) l.tag else none
def Cch.vopen (C:Cch) (s:Nat):Option By:=C.W.vopen (C.lf s) s
def nought:By:=List.replicate 32 0
def cval (C:Cch) (s:Nat):Int×By×Cch:=
 if(C.lf s).kind=2 then(0,nought,C)else if C.W.pow.gone then(7,[],C)
 else match C.vopen s with
  |some b=>(0,b,C)
  |none=>(3,[],C.bad)
def ccommit (C:Cch):Int×Cch:=
 ((cmt C.W C.M C.now).1,⟨(cmt C.W C.M C.now).2.1,(cmt C.W C.M C.now).2.2,C.now,if(cmt C.W C.M C.now).1=0 then C.now else C.was,C.age,C.T,C.pois⟩)
def lnce (C:Cch) (s:Nat):Nce:=C.M.nonce C.W.kys.cur s
def lsh (C:Cch) (s k:Nat) (data:By):By×Two:=C.W.lk.shut C.W.curKey (lnce C s) (headB k) data
def lwld (C:Cch) (s k:Nat) (data:By):Wld:=(C.W.lck (C.W.lk.shutd C.W.curKey (lnce C s) (headB k) data)).swr ((s*32:Nat):Int) (lsh C s k data).1
def lleaf (C:Cch) (s k:Nat) (data:By) (dirty:Bool):Lf:=⟨1,dirty,k,lnce C s,(lsh C s k data).2⟩
def lcch (C:Cch) (s k:Nat) (data:By):Cch:=⟨lwld C s k data,C.M.up,C.now,C.was,C.age,C.T,C.pois⟩
def clay (C:Cch) (s k:Nat) (data:By) (dirty:Bool):Int×Lf×Cch:=
 if C.M.n=100 then(6,Lf.no,C)else if(spend C.W.pow).2=false then(7,Lf.no,lcch C s k data)else(0,lleaf C s k data dirty,lcch C s k data)
def cspill (C:Cch) (s:Nat):Int×Cch:=
 if(cval C s).1≠0 then((cval C s).1,(cval C s).2.2)
 else(if dwok C.W.pow C.W.dsk then 0 else if(C.W.dwr (C.lf s).lba (cval C s).2.1).pow.gone then 7 else 5,C.wld (C.W.dwr (C.lf s).lba (cval C s).2.1))
def cdrops (C:Cch) (s:Nat):Cch:=⟨C.W,C.M,C.now.set s Lf.no,C.was,dl s C.age,C.T,C.pois⟩
def cevict (C:Cch) (s:Nat):Int×Cch:=
 if(C.lf s).dirty then
  if(cspill C s).1≠0 then cspill C s
  else if(spend (cspill C s).2.W.pow).2=false then(7,(cspill C s).2.wld (cspill C s).2.W.dbar)
  else ccommit (cdrops ((cspill C s).2.wld (cspill C s).2.W.dbar) s)
 else ccommit (cdrops C s)
def oldest (C:Cch):Nat:=(om C.age).toNat
def croom (C:Cch):Int×Cch:=
 if 0<=free C then(0,C)else if(ccommit C).1≠0 then ccommit C else if 0<=free (ccommit C).2 then(0,(ccommit C).2)else cevict (ccommit C).2 (oldest (ccommit C).2)
def cspills (C:Cch):Nat->Int×Cch×Bool
 |0=>(0,C,false)
 |i+1=>if(cspills C i).1≠0 then cspills C i else if(C.lf i).dirty then((cspill (cspills C i).2.1 i).1,(cspill (cspills C i).2.1 i).2,true)else cspills C i
def cclear (C:Cch):Cch:=⟨C.W,C.M,List.replicate C.now.length Lf.no,C.was,[],0,C.pois⟩
def cempty (C:Cch):Int×Cch:=
 if(cspills C C.now.length).1≠0 then((cspills C C.now.length).1,(cspills C C.now.length).2.1)
 else if(cspills C C.now.length).2.2 then
  if(spend (cspills C C.now.length).2.1.W.pow).2=false then(7,(cspills C C.now.length).2.1.wld (cspills C C.now.length).2.1.W.dbar)
  else(0,cclear ((cspills C C.now.length).2.1.wld (cspills C C.now.length).2.1.W.dbar))
 else(0,cclear (cspills C C.now.length).2.1)
def ctouch (C:Cch) (s:Nat):Cch:=⟨C.W,C.M,C.now,C.was,dl s C.age++[(s:Int)],C.T+1,C.pois⟩
def cput1 (C:Cch) (s:Nat) (l:Lf):Cch:=⟨C.W,C.M,C.now.set s l,C.was,dl s C.age++[(s:Int)],C.T+1,C.pois⟩
def cputs (C:Cch) (s:Nat) (l:Lf):Cch:=if 0<=slotOf C.now l.lba then cdrops (cput1 C s l) (slotOf C.now l.lba).toNat else cput1 C s l
def cread (C:Cch) (k:Nat):Int×By×Cch:=
 if 0<=slotOf C.now k then
  if(cval C (slotOf C.now k).toNat).1≠0 then cval C (slotOf C.now k).toNat else(0,(cval C (slotOf C.now k).toNat).2.1,ctouch C (slotOf C.now k).toNat)
 else if C.W.pow.gone then(7,[],C)
 else if free C<0\/C.M.n=100 then(0,dread C.W.dsk k,C)
 else if(clay C (free C).toNat k (dread C.W.dsk k) false).1≠0 then((clay C (free C).toNat k (dread C.W.dsk k) false).1,[],(clay C (free C).toNat k (dread C.W.dsk k) false).2.2)
 else(0,dread C.W.dsk k,cputs (clay C (free C).toNat k (dread C.W.dsk k) false).2.2 (free C).toNat (clay C (free C).toNat k (dread C.W.dsk k) false).2.1)
def cwrite (C:Cch) (k:Nat) (data:By):Int×Cch:=
 if(croom C).1≠0 then croom C
 else if(clay (croom C).2 (free (croom C).2).toNat k data true).1≠0 then((clay (croom C).2 (free (croom C).2).toNat k data true).1,(clay (croom C).2 (free (croom C).2).toNat k data true).2.2)
 else(0,cputs (clay (croom C).2 (free (croom C).2).toNat k data true).2.2 (free (croom C).2).toNat (clay (croom C).2 (free (croom C).2).toNat k data true).2.1)
def cdiscard (C:Cch) (k:Nat):Int×Cch:=
 if(croom C).1≠0 then croom C else(0,cputs (croom C).2 (free (croom C).2).toNat (Lf.zero k))
def cforget (C:Cch):Int×Cch:=
 if(ccommit C).1≠0 then ccommit C else(if(spend (ccommit C).2.W.pow).2 then 0 else 7,(ccommit C).2.wld (ccommit C).2.W.kdel)
def crotate (C:Cch):Int×Cch:=
 if(ccommit C).1≠0 then ccommit C
 else if(cempty (ccommit C).2).1≠0 then cempty (ccommit C).2
 else if(spend (cempty (ccommit C).2).2.W.pow).2=false then(7,(cempty (ccommit C).2).2.wld (cempty (ccommit C).2).2.W.kadd)
 else cforget ((cempty (ccommit C).2).2.wld (cempty (ccommit C).2).2.W.kadd)
end Go.Proofs.YtggmdjdflaglpaaGreat
namespace Go.Proofs.YtggmdjdflaglpaaGreat
open Go.RowKit Go.Proofs.YtggmdjdflaglpaaGreat.geo
set_option linter.unusedVariables false
def rsC (r:Nat):Prop:=1<=r/\r<=22
def rtC (r:Nat):Prop:=(2<=r/\r<=16)\/(18<=r/\r<=22)
theorem rtW.c {r:Nat}(h:rtW r):rtC r:=.inl h
theorem rtLog.c {r:Nat}(h:rtLog r):rtC r:=by
 rcases h with h|h
 ·exact .inl h
 ·rw[h];exact .inr (by decide)
theorem rtC0:¬rtC 0:=by unfold rtC;decide
theorem rtC1:¬rtC 1:=by unfold rtC;decide
theorem AgeR.keep {ρ ρ':Rl}{w w':World}{ag T:Nat}{L:List Int}(h:AgeR ρ w ag T L) (hk:∀b,b<w.heap.size->ρ b=rAge->w'.heap[b]? =w.heap[b]? /\ρ' b=ρ b):AgeR ρ' w' ag T L:=by
 obtain⟨g,hA,h1,h2,h3⟩:=h
 have hl:∀x,(x=ag\/x=g\/At w g x)->x<w.heap.size/\ρ x=rAge:=by
  intro x hx
  rcases hx with rfl|rfl|hx
  ·obtain⟨lf,tk,zs,⟨A,cap,_,_,_,ha,_⟩,_⟩:=hA
   exact⟨ha.lt,h1⟩
  ·obtain⟨lf,tk,zs,⟨A,cap,hg,_⟩,_⟩:=hA
   exact⟨hg.lt,h2⟩
  ·exact⟨(hA.rows x hx).2.1,h3 x hx⟩
 have hk':∀x,(x=ag\/x=g\/At w g x)->w'.heap[x]? =w.heap[x]? /\ρ' x=ρ x:=fun x hx=>hk x (hl x hx).1 (hl x hx).2
 refine⟨g,hA.same (fun x hx=>(hk' x hx).1),(hk' ag (.inl rfl)).2.trans h1,(hk' g (.inr (.inl rfl))).2.trans h2,fun s hs=>?_⟩
 have hs':At w g s:=by
  obtain⟨A,n,c,e1,e2⟩:=hs
  refine⟨A,n,c,?_,e2⟩
  rw[<-e1]
  simp only[World.cell?,(hk' g (.inr (.inl rfl))).1]
 exact(hk' s (.inr (.inr hs'))).2.trans (h3 s hs')
theorem AgeR.lt {ρ:Rl}{w:World}{ag T:Nat}{L:List Int}(h:AgeR ρ w ag T L):ag<w.heap.size:=by
 obtain⟨g,⟨lf,tk,zs,⟨A,cap,_,_,_,ha,_⟩,_⟩,_⟩:=h
 exact ha.lt
theorem AgeR.role {ρ:Rl}{w:World}{ag T:Nat}{L:List Int}(h:AgeR ρ w ag T L):ρ ag=rAge:=by
 obtain⟨g,_,h1,_⟩:=h
 exact h1
theorem At.uniq {w:World}{g s t:Nat}(h:At w g s) (k:At w g t):s=t:=by
 obtain⟨A,n,c,h1,rfl⟩:=h
 obtain⟨B,m,d,k1,rfl⟩:=k
 rw[h1]at k1
 injection k1 with k1
 injection k1 with k1
 injection k1 with k1
 rw[k1]
theorem AgeR.step {ρ:Rl}{w w':World}{ag g T':Nat}{L':List Int}(hf:Fresh ρ w) (h1:ρ ag=rAge) (h2:ρ g=rAge) (h3:∀s,At w g s->ρ s=rAge) (hg:g<w.heap.size) (hag:ag<w.heap.size) (hA:AI w' 0 ag g T' L') (hF:Fr ag g w w'):
 ∃ρ',AgeR ρ' w' ag T' L'/\Ste (· =rAge) ρ w ρ' w':=by
 have hsz:=hF.1.size
 have hch:Ch (fun i=>ρ i=rAge) w w':=⟨hF.1.os,hF.1.tape,hF.1.output,hsz,fun i hi hn=>hF.2.1 i hi (fun e=>hn (by rw[e];exact h1)) (fun e=>hn (by rw[e];exact h2)) (fun c=>hn (h3 i c))⟩
 by_cases hex:∃s,At w' g s
 ·obtain⟨s,hs⟩:=hex
  have hsl:=(hA.rows s hs).2.1
  have hold:∀i,i<w.heap.size->(ρ.set s rAge) i=ρ i:=fun i hi=>by
   by_cases e:i=s
   ·rw[e,Rl.set_same]
    rcases hF.2.2 s hs with c|c
    ·exact(h3 s c).symm
    ·omega
   ·exact Rl.set_other _ e
  refine⟨ρ.set s rAge,⟨g,hA,(hold ag hag).trans h1,(hold g hg).trans h2,fun t ht=>by rw[ht.uniq hs,Rl.set_same]⟩,hch,hold,fun i hi=>?_⟩
  rw[Rl.set_other _ (by omega)]
  exact hf i (by omega)
 ·exact⟨ρ,⟨g,hA,h1,h2,fun s hs=>absurd ⟨s,hs⟩ hex⟩,hch,fun _ _=>rfl,fun i hi=>hf i (by omega)⟩
theorem AI.lts {w:World}{B a g T:Nat}{L:List Int}(h:AI w B a g T L):g<w.heap.size/\a<w.heap.size:=by
 obtain⟨lf,tk,zs,⟨A,cap,hg,_,_,ha,_⟩,_⟩:=h
 exact⟨hg.lt,ha.lt⟩
theorem atouch_ok (ρ:Rl) (ag T k:Nat) (L:List Int) (w:World) (hf:Fresh ρ w) (h:AgeR ρ w ag T L) (hT:T<=1000) (hk:k<16):
 Calls Tryz.prog 42 #[.pointer (some ⟨ag,0,none⟩),.int .i64 k] w fun e w'=>e=.returned (.bool true)/\∃ρ',AgeR ρ' w' ag (T+1) (dl k L++[(k:Int)])/\Ste (· =rAge) ρ w ρ' w':=by
 obtain⟨g,hA,h1,h2,h3⟩:=h
 refine(touch_ok 0 ag g T k L w hA (Nat.zero_le _) hT hk).mono ?_
 rintro e w1 ⟨rfl,hA',hF⟩
 exact⟨rfl,AgeR.step hf h1 h2 h3 hA.lts.1 hA.lts.2 hA' hF⟩
theorem adrop_ok (ρ:Rl) (ag T:Nat) (k:Int) (L:List Int) (w:World) (hf:Fresh ρ w) (h:AgeR ρ w ag T L):
 Calls Tryz.prog 66 #[.pointer (some ⟨ag,0,none⟩),.int .i64 k] w fun e w'=>e=.returned (.bool (decide (k∈L)))/\∃ρ',AgeR ρ' w' ag T (dl k L)/\Ste (· =rAge) ρ w ρ' w':=by
 obtain⟨g,hA,h1,h2,h3⟩:=h
 refine(drop_ok 0 ag g T L k w hA).mono ?_
 rintro e w1 ⟨rfl,hA',hF⟩
 exact⟨rfl,AgeR.step hf h1 h2 h3 hA.lts.1 hA.lts.2 hA' hF⟩
theorem aold_ok (ρ:Rl) (ag T:Nat) (L:List Int) (w:World) (h:AgeR ρ w ag T L):
 Calls Tryz.prog 176 #[.pointer (some ⟨ag,0,none⟩)] w fun e w'=>e=.returned (.tuple #[.int .i64 (om L),.bool (!decide (L=[]))])/\w=w':=by
 obtain⟨g,hA,_⟩:=h
 exact old_ok 0 ag g T L w hA
theorem AI.zero {w:World}{B a g T:Nat}{L:List Int}(h:AI w B a g T L):AI w 0 a g T L:=by
 obtain⟨lf,tk,zs,⟨A,cap,h1,h2,⟨h3,h4⟩,h5,h6,h7⟩,h8⟩:=h
 refine⟨lf,tk,zs,⟨A,cap,h1,Nat.zero_le _,⟨h3,?_⟩,h5,Nat.zero_le _,h7⟩,h8⟩
 rcases h4 with h4|⟨r,c,cur,a1,_,a3⟩
 ·exact .inl h4
 ·exact .inr ⟨r,c,cur,a1,Nat.zero_le _,a3⟩
theorem aage_ok (ρ:Rl) (w:World) (hf:Fresh ρ w):Calls Tryz.prog 41 #[] w fun e w'=>e=.returned (.pointer (some ⟨w.heap.size,0,none⟩))/\∃ρ',AgeR ρ' w' w.heap.size 0 []/\(∀T,Ste T ρ w ρ' w')/\Below w.heap.size w w':=by
 refine(anew_ok w).mono ?_
 rintro e w1 ⟨rfl,hA,hb⟩
 have hl:=hA.lts
 have hst:∀T,Ste T ρ w ((ρ.set w.heap.size rAge).set (w.heap.size+1) rAge) w1:=fun T=>((Ste.of_below hb hf).label (Nat.le_refl _) hl.2).label (by omega) hl.1
 have e1:((ρ.set w.heap.size rAge).set (w.heap.size+1) rAge) w.heap.size=rAge:=by rw[Rl.set_other _ (by omega),Rl.set_same]
 have e2:((ρ.set w.heap.size rAge).set (w.heap.size+1) rAge) (w.heap.size+1)=rAge:=Rl.set_same _ _ _
 by_cases hex:∃s,At w1 (w.heap.size+1) s
 ·obtain⟨s,hs⟩:=hex
  have hsl:=hA.rows s hs
  refine⟨rfl,((ρ.set w.heap.size rAge).set (w.heap.size+1) rAge).set s rAge,⟨w.heap.size+1,hA.zero,?_,?_,fun t ht=>by rw[ht.uniq hs,Rl.set_same]⟩,fun T=>(hst T).label hsl.1 hsl.2.1,hb⟩
  ·by_cases e:w.heap.size=s
   ·rw[<-e,Rl.set_same]
   ·rw[Rl.set_other _ e];exact e1
  ·by_cases e:w.heap.size+1=s
   ·rw[<-e,Rl.set_same]
   ·rw[Rl.set_other _ e];exact e2
 ·exact⟨rfl,_,⟨w.heap.size+1,hA.zero,e1,e2,fun s hs=>absurd ⟨s,hs⟩ hex⟩,hst,hb⟩
theorem LvsP.keepR {r:Nat}{ρ ρ':Rl}{w w':World}{v:Value}{ls:List Lf}(h:LvsP (ρ · =r) w v ls) (hk:∀b,b<w.heap.size->ρ b=r->w'.heap[b]? =w.heap[b]? /\ρ' b=ρ b):LvsP (ρ' · =r) w' v ls:=by
 obtain⟨g,cap,rr,rfl,h1,h2⟩:=h
 have:=hk g h2.lt h1
 exact⟨g,cap,rr,rfl,this.2.trans h1,this.1.trans h2⟩
theorem CchR.keep {ρ ρ':Rl}{w w':World}{a:Ads}{cc m ag:Nat}{C:Cch}(h:CchR ρ w a cc m ag C) (hs:w.heap.size<=w'.heap.size) (hk:∀b,b<w.heap.size->rsC (ρ b)->w'.heap[b]? =w.heap[b]? /\ρ' b=ρ b):CchR ρ' w' a cc m ag C:=by
 obtain⟨vn,vw,h1,h2,h3,h4,h5,h6,h7⟩:=h
 have k1:=hk cc h1.lt (by rw[h2];unfold rsC;decide)
 have k2:=hk m h4.1.lt (by rw[h4.2.1];unfold rsC;decide)
 exact⟨vn,vw,k1.1.trans h1,k1.2.trans h2,h3.keep hs (fun b hb e=>hk b hb ⟨e.1,Nat.le_trans e.2 (by decide)⟩),h4.keep k2,h5.keepR (fun b hb e=>hk b hb (by rw[e];unfold rsC;decide)),h6.keepR (fun b hb e=>hk b hb (by rw[e];unfold rsC;decide)),h7.keep (fun b hb e=>hk b hb (by rw[e];unfold rsC;decide))⟩
theorem CchR.below_ {ρ:Rl}{w w':World}{a:Ads}{cc m ag:Nat}{C:Cch}(h:CchR ρ w a cc m ag C) (hb:Below w.heap.size w w'):CchR ρ w' a cc m ag C:=h.keep hb.size (fun b hx _=>⟨hb.block b hx,rfl⟩)
theorem CchR.drew {ρ:Rl}{w:World}{a:Ads}{cc m ag:Nat}{C:Cch}(h:CchR ρ w a cc m ag C):CchR ρ w.drew a cc m ag C:=h.below_ (Below.refl _ _).drew
theorem CchR.alloc {ρ:Rl}{w:World}{a:Ads}{cc m ag:Nat}{C:Cch}(h:CchR ρ w a cc m ag C) (o:Obj):CchR ρ (w.alloc o) a cc m ag C:=h.below_ ((Below.refl _ _).alloc (Nat.le_refl _) o)
theorem CchR.wld {ρ:Rl}{w:World}{a:Ads}{cc m ag:Nat}{C:Cch}(h:CchR ρ w a cc m ag C):WldR ρ w a C.W:=by obtain⟨_,_,_,_,h,_⟩:=h;exact h
theorem CchR.mkr {ρ:Rl}{w:World}{a:Ads}{cc m ag:Nat}{C:Cch}(h:CchR ρ w a cc m ag C):MkR ρ w m C.M:=by obtain⟨_,_,_,_,_,h,_⟩:=h;exact h
theorem CchR.age {ρ:Rl}{w:World}{a:Ads}{cc m ag:Nat}{C:Cch}(h:CchR ρ w a cc m ag C):AgeR ρ w ag C.T C.age:=by obtain⟨_,_,_,_,_,_,_,_,h⟩:=h;exact h
theorem CchR.put_log {ρ ρ':Rl}{w w':World}{a:Ads}{cc m ag:Nat}{C:Cch}(h:CchR ρ w a cc m ag C) {W:Wld}{M:Mk}(hW:WldR ρ' w' a W) (hM:MkR ρ' w' m M) (hs:Ste rtLog ρ w ρ' w'):CchR ρ' w' a cc m ag ⟨W,M,C.now,C.was,C.age,C.T,C.pois⟩:=by
 obtain⟨vn,vw,h1,h2,h3,h4,h5,h6,h7⟩:=h
 have hn:∀r,18<=r->r≠rMkr->¬rtLog r:=fun r h1 h2 c=>by
  rcases c with c|c
  ·unfold rtW at c;omega
  ·exact h2 c
 have hk:∀b,b<w.heap.size->18<=ρ b->ρ b≠rMkr->w'.heap[b]? =w.heap[b]? /\ρ' b=ρ b:=fun b hb e1 e2=>⟨hs.ch.keep b hb (hn _ e1 e2),hs.old b hb⟩
 have k1:=hk cc h1.lt (by rw[h2];decide) (by rw[h2];decide)
 exact⟨vn,vw,k1.1.trans h1,k1.2.trans h2,hW,hM,h5.keepR (fun b hb e=>hk b hb (by rw[e];decide) (by rw[e];decide)),h6.keepR (fun b hb e=>hk b hb (by rw[e];decide) (by rw[e];decide)),h7.keep (fun b hb e=>hk b hb (by rw[e];decide) (by rw[e];decide))⟩
theorem CchR.put_wld {ρ ρ':Rl}{w w':World}{a:Ads}{cc m ag:Nat}{C:Cch}(h:CchR ρ w a cc m ag C) {W:Wld}(hW:WldR ρ' w' a W) (hs:Ste rtW ρ w ρ' w'):CchR ρ' w' a cc m ag (C.wld W):=
 h.put_log hW (h.mkr.ste hs rtWm) (hs.mono (fun r e=>.inl e))
theorem CchR.put_age {ρ ρ':Rl}{w w':World}{a:Ads}{cc m ag:Nat}{C:Cch}(h:CchR ρ w a cc m ag C) {T:Nat}{L:List Int}(hA:AgeR ρ' w' ag T L) (hs:Ste (· =rAge) ρ w ρ' w'):CchR ρ' w' a cc m ag ⟨C.W,C.M,C.now,C.was,L,T,C.pois⟩:=by
 obtain⟨vn,vw,h1,h2,h3,h4,h5,h6,h7⟩:=h
 have hk:∀b,b<w.heap.size->ρ b≠rAge->w'.heap[b]? =w.heap[b]? /\ρ' b=ρ b:=fun b hb e1=>⟨hs.ch.keep b hb e1,hs.old b hb⟩
 have k1:=hk cc h1.lt (by rw[h2];decide)
 have k2:=hk m h4.1.lt (by rw[h4.2.1];decide)
 exact⟨vn,vw,k1.1.trans h1,k1.2.trans h2,h3.keep hs.size (fun b hb e=>hk b hb (by unfold rsW at e;intro c;rw[c]at e;exact absurd e.2 (by decide))),h4.keep k2,h5.keepR (fun b hb e=>hk b hb (by rw[e];decide)),h6.keepR (fun b hb e=>hk b hb (by rw[e];decide)),hA⟩
theorem CchR.head {ρ:Rl}{w w':World}{a:Ads}{cc m ag ag':Nat}{C C':Cch}{vn' vw':Value}(h:CchR ρ w a cc m ag C) (hg:w.grownBy w' (some cc)) (hb:Blk w' cc 107 #[.pointer (some ⟨a.wl,0,none⟩),.pointer (some ⟨m,0,none⟩),vn',vw',.pointer (some ⟨ag',0,none⟩),.bool C'.pois])
 (hn:LvsP (ρ · =rNow) w vn' C'.now) (hw:LvsP (ρ · =rWas) w vw' C'.was) (ha:AgeR ρ w ag' C'.T C'.age) (hW:C'.W=C.W) (hM:C'.M=C.M):CchR ρ w' a cc m ag' C':=by
 obtain⟨vn,vw,h1,h2,h3,h4,h5,h6,h7⟩:=h
 have hk:∀b,b<w.heap.size->ρ b≠rCch->w'.heap[b]? =w.heap[b]? /\ρ b=ρ b:=fun b hb' e=>⟨hg.block b hb' (fun c=>e (by injection c with c;rw[c];exact h2)),rfl⟩
 refine⟨vn',vw',hb,h2,?_,?_,hn.keepR (fun b hb e=>hk b hb (by rw[e];decide)),hw.keepR (fun b hb e=>hk b hb (by rw[e];decide)),ha.keep (fun b hb e=>hk b hb (by rw[e];decide))⟩
 ·rw[hW]
  exact h3.keep hg.size (fun b hb e=>hk b hb (fun c=>by rw[c]at e;unfold rsW at e;exact absurd e.2 (by decide)))
 ·rw[hM]
  exact h4.keep (hk m h4.1.lt (by rw[h4.2.1];decide))
theorem CchR.ste_head {ρ:Rl}{w w':World}{a:Ads}{cc m ag:Nat}{C:Cch}(h:CchR ρ w a cc m ag C) (hf:Fresh ρ w) (hg:w.grownBy w' (some cc)):Ste rtC ρ w ρ w':=by
 obtain⟨vn,vw,h1,h2,_⟩:=h
 exact Ste.of_grown hg (by rw[h2];unfold rtC;decide) hf
theorem CchR.poison {ρ:Rl}{w:World}{a:Ads}{cc m ag:Nat}{C:Cch}(h:CchR ρ w a cc m ag C):CchR ρ (w.setCell ⟨cc,5,none⟩ (.bool true)) a cc m ag C.bad:=by
 have h':=h
 obtain⟨vn,vw,h1,h2,h3,h4,h5,h6,h7⟩:=h'
 exact h.head (only_setCell (only_refl _ _) (.inl rfl) _) (h1.set_to 5 (.bool true) rfl) h5 h6 h7 rfl rfl
end Go.Proofs.YtggmdjdflaglpaaGreat
namespace Go.Proofs.YtggmdjdflaglpaaGreat
open Go.RowKit Go.Proofs.YtggmdjdflaglpaaGreat.geo
set_option linter.unusedVariables false
structure Cok (C:Cch) (k t:Nat):Prop where
 fit:C.W.fit k
 good:C.W.lk.good
 ka:1<=C.W.kys.a
 nl:C.now.length=C.W.slots
 wl:C.was.length=C.W.slots
 ok:∀i:Nat,(C.lf i).ok i
 age:∀i:Nat,(i:Int)∈C.age↔(C.lf i).kind≠0
 rng:∀z∈C.age,0<=z
 T:C.T<=t
 num:C.M.n<=100
 boot:C.M.boot<4294967296
def Cch.tw (C:Cch):Prop:=C.W.kys.two=true->C.M.n=100\/C.W.pow.gone=true
theorem Lf.no_ok (i:Nat):Lf.no.ok i:=.inl rfl
theorem lf_out (C:Cch) {i:Nat}(h:C.now.length<=i):C.lf i=Lf.no:=by
 unfold Cch.lf
 rw[List.getD_eq_getElem?_getD,List.getElem?_eq_none h]
 rfl
theorem lf_at (C:Cch) {i:Nat}(h:i<C.now.length):C.now[i]? =some (C.lf i):=by
 unfold Cch.lf
 rw[List.getD_eq_getElem?_getD,List.getElem?_eq_getElem h]
 rfl
theorem getD_set (L:List Lf) (s i:Nat) (l:Lf) (hs:s<L.length):(L.set s l).getD i Lf.no=if i=s then l else L.getD i Lf.no:=by
 rw[List.getD_eq_getElem?_getD,List.getElem?_set,List.getD_eq_getElem?_getD]
 by_cases e:s=i
 ·subst e
  rw[if_pos rfl,if_pos rfl,if_pos hs]
  rfl
 ·rw[if_neg e,if_neg (fun c=>e c.symm)]
theorem Cok.n16 {C:Cch}{k t:Nat}(h:Cok C k t):4<=C.now.length/\C.now.length<=16:=by
 have:=h.fit.geo
 rw[h.nl]
 unfold V at this
 omega
theorem Cok.okn {C:Cch}{k t:Nat}(h:Cok C k t):∀(i:Nat) (l:Lf),C.now[i]? =some l->l.ok i:=fun i l hl=>by
 have hi:=(List.getElem?_eq_some_iff.1 hl).1
 rw[lf_at C hi]at hl
 injection hl with hl
 exact hl▸h.ok i
theorem Cok.mono {C:Cch}{k t k' t':Nat}(h:Cok C k t) (hk:k<=k') (ht:t<=t'):Cok C k' t':=
 ⟨h.fit.mono hk,h.good,h.ka,h.nl,h.wl,h.ok,h.age,h.rng,Nat.le_trans h.T ht,h.num,h.boot⟩
theorem Cok.wld {C:Cch}{k k' t:Nat}(h:Cok C k t) {W:Wld}(hf:W.fit k') (hg:W.lk.good) (hs:W.slots=C.W.slots) (hk:1<=W.kys.a):Cok (C.wld W) k' t:=
 ⟨hf,hg,hk,h.nl.trans hs.symm,h.wl.trans hs.symm,h.ok,h.age,h.rng,h.T,h.num,h.boot⟩
theorem Cok.bad {C:Cch}{k t:Nat}(h:Cok C k t):Cok C.bad k t:=⟨h.fit,h.good,h.ka,h.nl,h.wl,h.ok,h.age,h.rng,h.T,h.num,h.boot⟩
theorem cval_cch (C:Cch) (s:Nat):(cval C s).2.2=C\/(cval C s).2.2=C.bad:=by
 unfold cval
 split
 ·exact .inl rfl
 ·split
  ·exact .inl rfl
  ·split
   ·exact .inl rfl
   ·exact .inr rfl
theorem cval_err (C:Cch) (s:Nat):((cval C s).1=0/\(cval C s).2.2=C)\/((cval C s).1=7/\(cval C s).2.2=C/\C.W.pow.gone=true)\/((cval C s).1=3/\(cval C s).2.2=C.bad):=by
 unfold cval
 split
 ·exact .inl ⟨rfl,rfl⟩
 ·split
  ·rename_i h
   exact .inr (.inl ⟨rfl,rfl,h⟩)
  ·split
   ·exact .inl ⟨rfl,rfl⟩
   ·exact .inr (.inr ⟨rfl,rfl⟩)
theorem Cok.val {C:Cch}{k t:Nat}(h:Cok C k t) (s:Nat):Cok (cval C s).2.2 k t:=by
 rcases cval_cch C s with e|e<;>rw[e]
 ·exact h
 ·exact h.bad
theorem sbytes_len (W:Wld) {k:Nat}(h:W.fit k) {o n:Nat}(ho:o+n<=W.slots*160+120):(W.sbytes o n).length=n:=by
 unfold Wld.sbytes
 rw[List.length_take,List.length_drop,snap_len _ h.wts,h.size]
 omega
theorem Cok.vlen {C:Cch}{k t:Nat}(h:Cok C k t) {s:Nat}(hs:s<C.now.length) (he:(cval C s).1=0):(cval C s).2.1.length=32:=by
 have hn:=h.n16
 have hnl:=h.nl
 unfold cval at he ⊢
 split
 ·simp[nought]
 ·rename_i h1
  rw[if_neg h1]at he
  split
  ·rename_i h2
   rw[if_pos h2]at he
   simp at he
  ·rename_i h2
   rw[if_neg h2]at he
   split
   ·rename_i b hb
    simp only
    unfold Cch.vopen Wld.vopen at hb
    split at hb
    ·exact Lk.opens_len h.good (sbytes_len _ h.fit (by omega)) hb
    ·cases hb
   ·rename_i hb
    rw[hb]at he
    simp at he
theorem Cok.commit {C:Cch}{k t:Nat}(h:Cok C k t) (hk:k<=900000):Cok (ccommit C).2 (k+50) t:=by
 have hs:=cmt_same C.W C.M C.now
 have hm:=cmt_mk C.W C.M C.now
 refine⟨cmt_fit _ _ _ h.fit hk h.nl,hs.2.2.2.2 h.good,?_,h.nl.trans hs.1.symm,?_,h.ok,h.age,h.rng,h.T,?_,?_⟩
 ·show 1<=(cmt C.W C.M C.now).2.1.kys.a;rw[hs.2.1];exact h.ka
 ·show(if(cmt C.W C.M C.now).1=0 then C.now else C.was).length=(cmt C.W C.M C.now).2.1.slots
  rw[hs.1]
  split
  ·exact h.nl
  ·exact h.wl
 ·show(cmt C.W C.M C.now).2.2.n<=100
  rcases hm with e|⟨e1,e⟩<;>rw[e]
  ·exact h.num
  ·have:=h.num
   show C.M.n+1<=100
   omega
 ·show(cmt C.W C.M C.now).2.2.boot<_
  rcases hm with e|⟨e1,e⟩<;>rw[e]<;>exact h.boot
theorem tw_commit {C:Cch}(h:C.tw):(ccommit C).2.tw:=by
 intro ht
 have ht':(cmt C.W C.M C.now).2.1.kys.two=true:=ht
 rw[(cmt_same C.W C.M C.now).2.1]at ht'
 rcases h ht' with e|e
 ·rcases cmt_mk C.W C.M C.now with q|⟨q,_⟩
  ·exact .inl (by show(cmt C.W C.M C.now).2.2.n=100;rw[q];exact e)
  ·exact absurd e q
 ·exact .inr (cmt_gone _ _ _ e)
theorem curKey_u {C:Cch}{k t:Nat}(h:Cok C k t) (hk:k<=900000):U2 C.W.curKey:=C.W.curKey_u (Nat.le_trans h.fit.kys (by omega))
theorem lnce_ok {C:Cch}{k t:Nat}(h:Cok C k t) (hk:k<=900000) {s:Nat}(hs:s<16):(lnce C s).ok:=by
 have h1:=C.W.kys.cur_le (Nat.le_trans h.fit.kys (by omega))
 exact C.M.nonce_ok _ _ (by omega) (by omega) h.num h.boot
theorem Kys.cur_pos (K:Kys) (h:1<=K.a):1<=K.cur:=by unfold Kys.cur;split<;>omega
theorem lleaf_ok {C:Cch}{k t:Nat}(h:Cok C k t) (hk:k<=900000) {s x:Nat}(hs:s<16) (hx:x<32) (data:By) (d:Bool):(lleaf C s x data d).ok s:=by
 refine .inr (.inr ⟨rfl,hx,rfl,?_,lnce_ok h hk hs,Lk.shut_u h.fit.lk (by omega) _ _ _ _⟩)
 have:=C.W.kys.cur_pos h.ka
 show(0:Int)<(C.W.kys.cur:Int)
 omega
theorem lin_ok {C:Cch}{k t:Nat}(h:Cok C k t) {s:Nat}(hs:s<C.now.length) (b:By) (hb:b.length=32):(⟨((s*32:Nat):Int),b⟩:Opn).in_ C.W.ssd.lasts.length:=by
 have h1:=h.fit.size
 have h2:=h.nl
 refine in_gen (by omega) ?_
 rw[h1,hb]
 omega
theorem Cok.lay {C:Cch}{k t:Nat}(h:Cok C k t) (hn:C.M.n≠100) {s:Nat}(hs:s<C.now.length) (x:Nat) (data:By) (hd:data.length=32):Cok (lcch C s x data) (k+3) t:=by
 have f1:(C.W.lck (C.W.lk.shutd C.W.curKey (lnce C s) (headB x) data)).fit (k+1):=(h.fit.mono (by omega)).lck (Lk.lim_shutd h.fit.lk _ _ _ _)
 have f2:(lwld C s x data).fit (k+3):=f1.swr (lin_ok h hs _ (Lk.shut_len _ _ _ _ _ hd))
 have hm:=h.num
 exact⟨f2,Lk.good_shutd h.good _ _ _ _ hd,h.ka,h.nl,h.wl,h.ok,h.age,h.rng,h.T,by show C.M.n+1<=100;omega,h.boot⟩
theorem Cok.drops {C:Cch}{k t:Nat}(h:Cok C k t) {s:Nat}(hs:s<C.now.length):Cok (cdrops C s) k t:=by
 have hlf:∀i,(cdrops C s).lf i=if i=s then Lf.no else C.lf i:=fun i=>getD_set _ _ _ _ hs
 refine⟨h.fit,h.good,h.ka,by show(C.now.set s Lf.no).length=_;rw[List.length_set];exact h.nl,h.wl,fun i=>?_,fun i=>?_,fun z hz=>h.rng z (mem_dl.1 hz).1,h.T,h.num,h.boot⟩
 ·rw[hlf]
  split
  ·exact Lf.no_ok i
  ·exact h.ok i
 ·rw[hlf]
  show(i:Int)∈dl s C.age↔_
  rw[mem_dl]
  by_cases e:i=s
  ·subst e
   rw[if_pos rfl]
   simp[Lf.no]
  ·rw[if_neg e,h.age i]
   constructor
   ·exact fun c=>c.1
   ·exact fun c=>⟨c,fun q=>e (by omega)⟩
theorem Cok.put1 {C:Cch}{k t:Nat}(h:Cok C k t) {s:Nat}(hs:s<C.now.length) {l:Lf}(hl:l.ok s) (h0:l.kind≠0):Cok (cput1 C s l) k (t+1):=by
 have hlf:∀i,(cput1 C s l).lf i=if i=s then l else C.lf i:=fun i=>getD_set _ _ _ _ hs
 refine⟨h.fit,h.good,h.ka,by show(C.now.set s l).length=_;rw[List.length_set];exact h.nl,h.wl,fun i=>?_,fun i=>?_,fun z hz=>?_,by have:=h.T;show C.T+1<=t+1;omega,h.num,h.boot⟩
 ·rw[hlf]
  split
  ·rename_i e;exact e▸hl
  ·exact h.ok i
 ·rw[hlf]
  show(i:Int)∈dl s C.age++[(s:Int)]↔_
  rw[List.mem_append,List.mem_singleton,mem_dl]
  by_cases e:i=s
  ·subst e
   rw[if_pos rfl]
   simp[h0]
  ·rw[if_neg e,h.age i]
   constructor
   ·rintro(c|c)
    ·exact c.1
    ·omega
   ·exact fun c=>.inl ⟨c,fun q=>e (by omega)⟩
 ·have hz:z∈dl s C.age++[(s:Int)]:=hz
  rw[List.mem_append,List.mem_singleton,mem_dl]at hz
  rcases hz with c|c
  ·exact h.rng z c.1
  ·omega
theorem Cok.touch {C:Cch}{k t:Nat}(h:Cok C k t) {s:Nat}(h0:(C.lf s).kind≠0):Cok (ctouch C s) k (t+1):=by
 refine⟨h.fit,h.good,h.ka,h.nl,h.wl,h.ok,fun i=>?_,fun z hz=>?_,by have:=h.T;show C.T+1<=t+1;omega,h.num,h.boot⟩
 ·show(i:Int)∈dl s C.age++[(s:Int)]↔(C.lf i).kind≠0
  rw[List.mem_append,List.mem_singleton,mem_dl,h.age i]
  by_cases e:i=s
  ·subst e;simp[h0]
  ·constructor
   ·rintro(c|c)
    ·exact c.1
    ·omega
   ·exact fun c=>.inl ⟨c,fun q=>e (by omega)⟩
 ·have hz:z∈dl s C.age++[(s:Int)]:=hz
  rw[List.mem_append,List.mem_singleton,mem_dl]at hz
  rcases hz with c|c
  ·exact h.rng z c.1
  ·omega
theorem fstOf_bd (f:Nat->Bool) (n i:Nat):fstOf f n i=-1\/∃k:Nat,fstOf f n i=k/\i<=k/\k<n/\f k=true:=by
 unfold fstOf
 cases h:(List.range' i (n-i)).find? f with
 |none=>exact .inl rfl
 |some k=>
  have h1:=List.find?_some h
  have h2:=List.mem_of_find?_eq_some h
  rw[List.mem_range'_1]at h2
  exact .inr ⟨k,rfl,h2.1,by omega,h1⟩
theorem slotOf_bd (ls:List Lf) (k:Nat):slotOf ls k=-1\/∃s:Nat,slotOf ls k=s/\s<ls.length/\(ls.getD s Lf.no).kind≠0/\(ls.getD s Lf.no).lba=k:=by
 rcases fstOf_bd (slotF ls k) ls.length 0 with h|⟨s,h1,_,h3,h4⟩
 ·exact .inl h
 ·refine .inr ⟨s,h1,h3,?_⟩
  unfold slotF Lf.hasL at h4
  simpa using h4
theorem free_bd (C:Cch):free C=-1\/∃s:Nat,free C=s/\s<C.now.length/\(C.lf s).kind=0/\(C.was.getD s Lf.no).kind=0:=by
 rcases fstOf_bd (freeAt C.now C.was) C.now.length 0 with h|⟨s,h1,_,h3,h4⟩
 ·exact .inl h
 ·refine .inr ⟨s,h1,h3,?_⟩
  unfold freeAt at h4
  simp at h4
  exact h4
theorem free_no {C:Cch}(h:free C<0) {i:Nat}(hi:i<C.now.length):(C.lf i).kind≠0\/(C.was.getD i Lf.no).kind≠0:=by
 by_cases e1:(C.lf i).kind=0
 ·by_cases e2:(C.was.getD i Lf.no).kind=0
  ·exfalso
   have hm:i∈List.range' 0 (C.now.length-0):=by rw[List.mem_range'_1];omega
   have hf:freeAt C.now C.was i=true:=by
    unfold freeAt
    have e1':(C.now.getD i Lf.no).kind=0:=e1
    rw[e1',e2]
    rfl
   unfold free freeFrom at h
   cases hq:(List.range' 0 (C.now.length-0)).find? (freeAt C.now C.was)with
   |none=>exact absurd hf (by simpa using List.find?_eq_none.1 hq i hm)
   |some k=>rw[hq]at h;simp at h;omega
  ·exact .inr e2
 ·exact .inl e1
theorem free_yes {C:Cch}{i:Nat}(hi:i<C.now.length) (h1:(C.lf i).kind=0) (h2:(C.was.getD i Lf.no).kind=0):0<=free C:=by
 rcases Int.lt_or_le (free C) 0 with h|h
 ·rcases free_no h hi with c|c
  ·exact absurd h1 c
  ·exact absurd h2 c
 ·exact h
theorem Cok.puts {C:Cch}{k t:Nat}(h:Cok C k t) {s:Nat}(hs:s<C.now.length) {l:Lf}(hl:l.ok s) (h0:l.kind≠0):Cok (cputs C s l) k (t+1):=by
 have h1:=h.put1 hs hl h0
 unfold cputs
 split
 ·rename_i he
  rcases slotOf_bd C.now l.lba with e|⟨x,e,hx,_⟩
  ·omega
  ·rw[e,Int.toNat_natCast]
   exact h1.drops (by show x<(C.now.set s l).length;rw[List.length_set];exact hx)
 ·exact h1
theorem Cok.dwr {C:Cch}{k t:Nat}(h:Cok C k t) (i:Int) (b:By):Cok (C.wld (C.W.dwr i b)) (k+2) t:=by
 have:(C.W.dwr i b).slots=C.W.slots/\(C.W.dwr i b).lk=C.W.lk/\(C.W.dwr i b).kys=C.W.kys:=by unfold Wld.dwr;split<;>exact⟨rfl,rfl,rfl⟩
 exact h.wld (h.fit.dwr i b) (by rw[this.2.1];exact h.good) this.1 (by rw[this.2.2];exact h.ka)
theorem Cok.dbar {C:Cch}{k t:Nat}(h:Cok C k t):Cok (C.wld C.W.dbar) (k+1) t:=h.wld h.fit.dbar h.good rfl h.ka
theorem Cok.spill {C:Cch}{k t:Nat}(h:Cok C k t) (s:Nat):Cok (cspill C s).2 (k+2) t:=by
 unfold cspill
 split
 ·exact(h.val s).mono (by omega) (Nat.le_refl _)
 ·exact h.dwr _ _
theorem cspill_now (C:Cch) (s:Nat):(cspill C s).2.now=C.now/\(cspill C s).2.was=C.was/\(cspill C s).2.age=C.age/\(cspill C s).2.M=C.M/\(cspill C s).2.T=C.T/\(cspill C s).2.W.kys=C.W.kys/\(cspill C s).2.W.slots=C.W.slots/\(cspill C s).2.W.lk=C.W.lk:=by
 unfold cspill
 split
 ·rcases cval_cch C s with e|e<;>rw[e]<;>exact⟨rfl,rfl,rfl,rfl,rfl,rfl,rfl,rfl⟩
 ·have:(C.W.dwr (C.lf s).lba (cval C s).2.1).slots=C.W.slots/\(C.W.dwr (C.lf s).lba (cval C s).2.1).lk=C.W.lk/\(C.W.dwr (C.lf s).lba (cval C s).2.1).kys=C.W.kys:=by unfold Wld.dwr;split<;>exact⟨rfl,rfl,rfl⟩
  exact⟨rfl,rfl,rfl,rfl,rfl,this.2.2,this.1,this.2.1⟩
theorem dwr_gone {W:Wld}(h:W.pow.gone=true) (k:Int) (b:By):(W.dwr k b).pow.gone=true:=by
 unfold Wld.dwr
 split
 ·exact h
 ·exact spend_keep h
theorem cspill_gone {C:Cch}(h:C.W.pow.gone=true) (s:Nat):(cspill C s).2.W.pow.gone=true:=by
 unfold cspill
 split
 ·rcases cval_cch C s with e|e<;>rw[e]<;>exact h
 ·exact dwr_gone h _ _
theorem Cok.evict {C:Cch}{k t:Nat}(h:Cok C k t) (hk:k<=800000) {s:Nat}(hs:s<C.now.length):Cok (cevict C s).2 (k+53) t:=by
 have h1:=h.spill s
 have hl:s<(cspill C s).2.now.length:=by rw[(cspill_now C s).1];exact hs
 unfold cevict
 split
 ·split
  ·exact h1.mono (by omega) (Nat.le_refl _)
  ·split
   ·exact h1.dbar.mono (by omega) (Nat.le_refl _)
   ·exact(h1.dbar.drops hl).commit (by omega)
 ·exact((h.drops hs).commit (by omega)).mono (by omega) (Nat.le_refl _)
theorem tw_evict {C:Cch}(h:C.tw) (s:Nat):(cevict C s).2.tw:=by
 have h1:(cspill C s).2.tw:=fun ht=>by
  rw[(cspill_now C s).2.2.2.2.2.1]at ht
  rcases h ht with e|e
  ·exact .inl (by rw[(cspill_now C s).2.2.2.1];exact e)
  ·exact .inr (cspill_gone e s)
 have h2:((cspill C s).2.wld (cspill C s).2.W.dbar).tw:=fun ht=>by
  rcases h1 ht with e|e
  ·exact .inl e
  ·exact .inr (spend_keep e)
 unfold cevict
 split
 ·split
  ·exact h1
  ·split
   ·exact h2
   ·exact tw_commit h2
 ·exact tw_commit h
theorem oldest_lt {C:Cch}{k t:Nat}(h:Cok C k t) (hf:free C<0) (hw:C.was=C.now):oldest C<C.now.length/\C.age≠[]/\(oldest C:Int)=om C.age:=by
 have hn:=h.n16
 have h0:(C.lf 0).kind≠0:=by
  rcases free_no hf (i:=0) (by omega)with c|c
  ·exact c
  ·rw[hw]at c;exact c
 have hne:C.age≠[]:=fun e=>by
  have:=(h.age 0).2 h0
  rw[e]at this
  simp at this
 have hm:om C.age∈C.age:=by
  unfold om
  rw[if_neg hne]
  exact el_mem (List.length_pos_iff.2 hne)
 have hr:=h.rng _ hm
 have ho:(oldest C:Int)=om C.age:=by unfold oldest;omega
 refine⟨?_,hne,ho⟩
 rcases Nat.lt_or_ge (oldest C) C.now.length with c|c
 ·exact c
 ·have h1:=(h.age (oldest C)).1 (by rw[ho];exact hm)
  rw[lf_out C c]at h1
  exact absurd rfl h1
theorem Cok.room {C:Cch}{k t:Nat}(h:Cok C k t) (hk:k<=700000):Cok (croom C).2 (k+103) t:=by
 unfold croom
 split
 ·exact h.mono (by omega) (Nat.le_refl _)
 ·have h1:=h.commit (by omega)
  split
  ·exact h1.mono (by omega) (Nat.le_refl _)
  ·rename_i h2
   split
   ·exact h1.mono (by omega) (Nat.le_refl _)
   ·rename_i h3
    have hw:(ccommit C).2.was=(ccommit C).2.now:=by
     have h2':(cmt C.W C.M C.now).1=0:=by
      have:¬(cmt C.W C.M C.now).1≠0:=h2
      omega
     show(if(cmt C.W C.M C.now).1=0 then C.now else C.was)=C.now
     rw[if_pos h2']
    exact(h1.evict (by omega) (oldest_lt h1 (by omega) hw).1).mono (by omega) (Nat.le_refl _)
theorem tw_room {C:Cch}(h:C.tw):(croom C).2.tw:=by
 unfold croom
 split
 ·exact h
 ·split
  ·exact tw_commit h
  ·split
   ·exact tw_commit h
   ·exact tw_evict (tw_commit h) _
theorem room_free {C:Cch}{k t:Nat}(h:Cok C k t) (hk:k<=700000) (hr:(croom C).1=0):0<=free (croom C).2:=by
 unfold croom at hr ⊢
 split
 ·rename_i h1;exact h1
 ·rename_i h0
  rw[if_neg h0]at hr
  have h1:=h.commit (by omega)
  split
  ·rename_i h2
   rw[if_pos h2]at hr
   exact absurd hr h2
  ·rename_i h2
   rw[if_neg h2]at hr
   have h2':(cmt C.W C.M C.now).1=0:=by
    have:¬(cmt C.W C.M C.now).1≠0:=h2
    omega
   have hw:(ccommit C).2.was=(ccommit C).2.now:=by
    show(if(cmt C.W C.M C.now).1=0 then C.now else C.was)=C.now
    rw[if_pos h2']
   split
   ·rename_i h3;exact h3
   ·rename_i h3
    rw[if_neg h3]at hr
    have ho:=oldest_lt h1 (by omega) hw
    have key:∀D:Cch,oldest (ccommit C).2<D.now.length->(ccommit (cdrops D (oldest (ccommit C).2))).1=0->0<=free (ccommit (cdrops D (oldest (ccommit C).2))).2:=by
     intro D hD hc
     have hz:(cdrops D (oldest (ccommit C).2)).lf (oldest (ccommit C).2)=Lf.no:=by
      have:=getD_set D.now (oldest (ccommit C).2) (oldest (ccommit C).2) Lf.no hD
      rw[if_pos rfl]at this
      exact this
     have hcc:(cmt (cdrops D (oldest (ccommit C).2)).W (cdrops D (oldest (ccommit C).2)).M (cdrops D (oldest (ccommit C).2)).now).1=0:=hc
     refine free_yes (i:=oldest (ccommit C).2) (by show _<(D.now.set _ _).length;rw[List.length_set];exact hD) (by
      show((cdrops D (oldest (ccommit C).2)).lf (oldest (ccommit C).2)).kind=0
      rw[hz];rfl) ?_
     show((if(cmt (cdrops D (oldest (ccommit C).2)).W (cdrops D (oldest (ccommit C).2)).M (cdrops D (oldest (ccommit C).2)).now).1=0 then(cdrops D (oldest (ccommit C).2)).now else _).getD _ Lf.no).kind=0
     rw[if_pos hcc]
     show((cdrops D (oldest (ccommit C).2)).lf (oldest (ccommit C).2)).kind=0
     rw[hz];rfl
    unfold cevict at hr ⊢
    split
    ·rename_i h4
     rw[if_pos h4]at hr
     split
     ·rename_i h5
      rw[if_pos h5]at hr
      exact absurd hr h5
     ·rename_i h5
      rw[if_neg h5]at hr
      split
      ·rename_i h6
       rw[if_pos h6]at hr
       simp at hr
      ·rename_i h6
       rw[if_neg h6]at hr
       exact key _ (by show _<(cspill (ccommit C).2 (oldest (ccommit C).2)).2.now.length;rw[(cspill_now _ _).1];exact ho.1) hr
    ·rename_i h4
     rw[if_neg h4]at hr
     exact key _ ho.1 hr
theorem cspills_now (C:Cch):∀i,(cspills C i).2.1.now=C.now/\(cspills C i).2.1.was=C.was/\(cspills C i).2.1.age=C.age/\(cspills C i).2.1.M=C.M/\(cspills C i).2.1.T=C.T/\(cspills C i).2.1.W.kys=C.W.kys/\(cspills C i).2.1.W.slots=C.W.slots/\(cspills C i).2.1.W.lk=C.W.lk
 |0=>⟨rfl,rfl,rfl,rfl,rfl,rfl,rfl,rfl⟩
 |i+1=>by
  have ih:=cspills_now C i
  have hs:=cspill_now (cspills C i).2.1 i
  unfold cspills
  split
  ·exact ih
  ·split
   ·exact⟨hs.1.trans ih.1,hs.2.1.trans ih.2.1,hs.2.2.1.trans ih.2.2.1,hs.2.2.2.1.trans ih.2.2.2.1,hs.2.2.2.2.1.trans ih.2.2.2.2.1,hs.2.2.2.2.2.1.trans ih.2.2.2.2.2.1,hs.2.2.2.2.2.2.1.trans ih.2.2.2.2.2.2.1,hs.2.2.2.2.2.2.2.trans ih.2.2.2.2.2.2.2⟩
   ·exact ih
theorem Cok.spills {C:Cch}{k t:Nat}(h:Cok C k t):∀i,Cok (cspills C i).2.1 (k+2*i) t
 |0=>h
 |i+1=>by
  have ih:=h.spills i
  unfold cspills
  split
  ·exact ih.mono (by omega) (Nat.le_refl _)
  ·split
   ·exact(ih.spill i).mono (by omega) (Nat.le_refl _)
   ·exact ih.mono (by omega) (Nat.le_refl _)
theorem Cok.clear {C:Cch}{k t:Nat}(h:Cok C k t):Cok (cclear C) k t:=by
 have hlf:∀i,(cclear C).lf i=Lf.no:=fun i=>by
  unfold Cch.lf cclear
  simp only
  rw[List.getD_eq_getElem?_getD,List.getElem?_replicate]
  split<;>rfl
 exact⟨h.fit,h.good,h.ka,by show(List.replicate C.now.length Lf.no).length=_;rw[List.length_replicate];exact h.nl,h.wl,fun i=>by rw[hlf];exact Lf.no_ok i,fun i=>by rw[hlf];show(i:Int)∈([]:List Int)↔_;simp[Lf.no],fun z hz=>by have hz:z∈([]:List Int):=hz;simp at hz,Nat.zero_le _,h.num,h.boot⟩
theorem Cok.empty {C:Cch}{k t:Nat}(h:Cok C k t):Cok (cempty C).2 (k+33) t:=by
 have hn:=h.n16
 have h1:=h.spills C.now.length
 unfold cempty
 split
 ·exact h1.mono (by omega) (Nat.le_refl _)
 ·split
  ·split
   ·exact h1.dbar.mono (by omega) (Nat.le_refl _)
   ·exact h1.dbar.clear.mono (by omega) (Nat.le_refl _)
  ·exact h1.clear.mono (by omega) (Nat.le_refl _)
theorem cempty_now (C:Cch):(cempty C).2.was=C.was/\(cempty C).2.M=C.M/\(cempty C).2.W.kys=C.W.kys/\(cempty C).2.W.slots=C.W.slots/\(cempty C).2.W.lk=C.W.lk:=by
 have h:=cspills_now C C.now.length
 unfold cempty
 split
 ·exact⟨h.2.1,h.2.2.2.1,h.2.2.2.2.2.1,h.2.2.2.2.2.2.1,h.2.2.2.2.2.2.2⟩
 ·split
  ·split
   ·exact⟨h.2.1,h.2.2.2.1,h.2.2.2.2.2.1,h.2.2.2.2.2.2.1,h.2.2.2.2.2.2.2⟩
   ·exact⟨h.2.1,h.2.2.2.1,h.2.2.2.2.2.1,h.2.2.2.2.2.2.1,h.2.2.2.2.2.2.2⟩
  ·exact⟨h.2.1,h.2.2.2.1,h.2.2.2.2.2.1,h.2.2.2.2.2.2.1,h.2.2.2.2.2.2.2⟩
end Go.Proofs.YtggmdjdflaglpaaGreat
namespace Go.Proofs.YtggmdjdflaglpaaGreat
open Go.RowKit Go.Proofs.YtggmdjdflaglpaaGreat.geo
set_option linter.unusedVariables false
theorem lcs_set:∀{ls:List Lf}{i:Nat}(l:Lf),i<ls.length->lcs (ls.set i l)=(lcs ls).take (i*8)++(lfc l++(lcs ls).drop (i*8+8))
 |[],i,l,h=>by simp at h
 |x::ls,0,l,h=>by
  show lfc l++lcs ls=((lfc x++lcs ls).take (0*8))++(lfc l++(lfc x++lcs ls).drop (0*8+8))
  rw[Nat.zero_mul,List.take_zero,List.nil_append,Nat.zero_add,List.drop_append_of_le_length (by rw[lfc_len];omega),List.drop_of_length_le (by rw[lfc_len];omega),List.nil_append]
 |x::ls,i+1,l,h=>by
  have ih:=lcs_set (ls:=ls) (i:=i) l (by simpa using h)
  show lfc x++lcs (ls.set i l)=((lfc x++lcs ls).take ((i+1)*8))++(lfc l++(lfc x++lcs ls).drop ((i+1)*8+8))
  rw[ih]
  have e1:(i+1)*8=(lfc x).length+i*8:=by rw[lfc_len];omega
  have e2:(i+1)*8+8=(lfc x).length+(i*8+8):=by rw[lfc_len];omega
  rw[e2,List.drop_length_add_append,e1,List.take_length_add_append,List.append_assoc]
theorem Blk.leaf_set {w:World}{g i:Nat}{ls:List Lf}{r:List Value}(h:Blk w g 103 (lcs ls++r).toArray) (hi:i<ls.length) (l:Lf):Blk (w.setCells g (i*8) (lfc l)) g 103 (lcs (ls.set i l)++r).toArray:=by
 have hl:=lcs_len ls
 have:=r27.Blk.setCells (w:=w) (lfc l) (lcs ls++r) (i*8) w h (by rw[lfc_len,List.length_append];omega)
 rw[lcs_set l hi]
 rw[lfc_len,List.take_append_of_le_length (by omega),List.drop_append_of_le_length (by omega)]at this
 rw[List.append_assoc,List.append_assoc]
 exact this
theorem Blk.leaf_there {w:World}{g i:Nat}{ls:List Lf}{r:List Value}(h:Blk w g 103 (lcs ls++r).toArray) (hi:i<ls.length):w.there g (i*8) 8:=by
 have hl:=lcs_len ls
 exact r27.there_of (cs:=lcs ls++r) h (by rw[List.length_append];omega)
theorem lfc_one (l:Lf):(lfc l).toArray.all (·.oneCell')=true:=by
 refine all_oneCell_toArray (fun v hv=>?_)
 simp[lfc]at hv
 rcases hv with rfl|rfl|rfl|rfl|rfl|rfl|rfl|rfl<;>rfl
theorem CchR.set_now {ρ:Rl}{w:World}{a:Ads}{cc m ag:Nat}{C:Cch}(h:CchR ρ w a cc m ag C) (hf:Fresh ρ w) {i:Nat}(hi:i<C.now.length) (l:Lf):
 ∃g cap,w.cell? ⟨cc,2,none⟩=some (.slice (some ⟨g,0,none⟩) C.now.length cap)/\w.there g (i*8) 8/\g<w.heap.size/\ρ g=rNow/\
  CchR ρ (w.setCells g (i*8) (lfc l)) a cc m ag ⟨C.W,C.M,C.now.set i l,C.was,C.age,C.T,C.pois⟩/\Ste (· =rNow) ρ w ρ (w.setCells g (i*8) (lfc l)):=by
 obtain⟨vn,vw,h1,h2,h3,h4,⟨g,cap,rr,rfl,h5,h5'⟩,h6,h7⟩:=h
 have hg:w.grownBy (w.setCells g (i*8) (lfc l)) (some g):=r27.only_setCells _ _ w (only_refl _ _)
 have hk:∀b,b<w.heap.size->ρ b≠rNow->(w.setCells g (i*8) (lfc l)).heap[b]? =w.heap[b]? /\ρ b=ρ b:=fun b hb e=>⟨hg.block b hb (fun c=>e (by injection c with c;rw[c];exact h5)),rfl⟩
 refine⟨g,cap,h1.cell_ 2 rfl,h5'.leaf_there hi,h5'.lt,h5,⟨.slice (some ⟨g,0,none⟩) C.now.length cap,vw,?_,h2,?_,?_,?_,?_,?_⟩,Ste.of_grown hg h5 hf⟩
 ·exact(hk cc h1.lt (by rw[h2];decide)).1.trans h1
 ·exact h3.keep hg.size (fun b hb e=>hk b hb (fun c=>by rw[c]at e;unfold rsW at e;exact absurd e.2 (by decide)))
 ·exact h4.keep (hk m h4.1.lt (by rw[h4.2.1];decide))
 ·exact⟨g,cap,rr,by rw[List.length_set],h5,h5'.leaf_set hi l⟩
 ·exact h6.keepR (fun b hb e=>hk b hb (by rw[e];decide))
 ·exact h7.keep (fun b hb e=>hk b hb (by rw[e];decide))
theorem zlfc:(lfc Lf.no).toArray=#[.int .i64 0,.bool false,.int .i64 0,.int .u32 0,.int .u32 0,.int .u64 0,.int .u64 0,.int .u64 0]:=rfl
set_option maxHeartbeats 2000000 in
set_option maxRecDepth 100000 in
theorem drops_ok (ρ:Rl) (a:Ads) (cc m ag:Nat) (C:Cch) (i:Nat) (w:World) (hf:Fresh ρ w) (h:CchR ρ w a cc m ag C) (hi:i<C.now.length) (hn:C.now.length<=16):
 Calls Tryz.prog 158 #[.pointer (some ⟨cc,0,none⟩),.int .i64 i] w fun e w'=>e=.returned (.tuple #[])/\∃ρ',CchR ρ' w' a cc m ag (cdrops C i)/\Ste rtC ρ w ρ' w':=by
 obtain⟨g,cap,c2,ht,lg,hrg,hC,hs⟩:=h.set_now hf hi Lf.no
 have hb:=h
 obtain⟨vn,vw,hb,hcc,_⟩:=hb
 have lc:=hb.lt
 have hC':=hC
 obtain⟨vn',vw',hb',_⟩:=hC'
 have c4:=hb'.cell_ 4 rfl
 have lc':=hb'.lt
 have hd:=adrop_ok ρ ag C.T (i:Int) C.age _ hs.fresh hC.age
 obtain⟨n,hn'⟩:∃n,n=C.now.length:=⟨_,rfl⟩
 rw[<-hn']at hi hn c2
 have m0:(0:Int)<=(i:Int):=by omega
 have m1:(i:Int)<(n:Int):=by omega
 have sz8:(Tryz.prog.info? 103).map (·.size)=some (#[.int .i64 0,.bool false,.int .i64 0,.int .u32 0,.int .u32 0,.int .u64 0,.int .u64 0,.int .u64 0]:Array Value).size:=sz103
 have hone:(#[.int .i64 0,.bool false,.int .i64 0,.int .u32 0,.int .u32 0,.int .u64 0,.int .u64 0,.int .u64 0]:Array Value).all (·.oneCell')=true:=lfc_one Lf.no
 have ht':w.there g (i*8) (#[.int .i64 0,.bool false,.int .i64 0,.int .u32 0,.int .u32 0,.int .u64 0,.int .u64 0,.int .u64 0]:Array Value).size:=ht
 have H:=Lib.hid (And.intro hC hs)
 obtain⟨W1,hW1⟩:∃W1,W1=w.setCells g (i*8) (lfc Lf.no):=⟨_,rfl⟩
 have hW2:w.setCells g (i*8) (#[.int .i64 0,.bool false,.int .i64 0,.int .u32 0,.int .u32 0,.int .u64 0,.int .u64 0,.int .u64 0]:Array Value).toList=W1:=hW1.symm
 rw[<-hW1]at H c4 lc' hd
 have HW:=Lib.hid hW2
 clear h hC hs hb hb' hn' hW1 hW2
 go_enter Tryz.func158,Tryz.ntmps158
 go_wp2_with ((with_reducible refine wpList_store_mid rfl 103 _ _ rfl g (i*8) #[.int .i64 0,.bool false,.int .i64 0,.int .u32 0,.int .u32 0,.int .u64 0,.int .u64 0,.int .u64 0] rfl rfl ht' sz8 hone ?_);rw[HW.out])
 refine hd.mono ?_
 rintro e w2 ⟨rfl,ρ2,hA,s2⟩
 have HA:=Lib.hid (And.intro hA s2)
 clear hd hA s2 c4 lc' ht ht' hone
 go_wp2_with fail
 go_end0
 obtain⟨hC,hs⟩:=H.out
 obtain⟨hA,s2⟩:=HA.out
 exact⟨rfl,ρ2,hC.put_age hA s2,(hs.mono (fun r e=>by rw[e];unfold rtC;decide)).trans (s2.mono (fun r e=>by rw[e];unfold rtC;decide))⟩
end Go.Proofs.YtggmdjdflaglpaaGreat
namespace Go.Proofs.YtggmdjdflaglpaaGreat
open Go.RowKit Go.Proofs.YtggmdjdflaglpaaGreat.geo
set_option linter.unusedVariables false
theorem s3c {w:World}{cc wl m:Nat}{vn x3 x4 x5:Value}(b:Blk w cc 107 #[.pointer (some ⟨wl,0,none⟩),.pointer (some ⟨m,0,none⟩),vn,x3,x4,x5]):
 w.cell? ⟨cc,0,none⟩=some (.pointer (some ⟨wl,0,none⟩))/\w.cell? ⟨cc,1,none⟩=some (.pointer (some ⟨m,0,none⟩))/\w.cell? ⟨cc,2,none⟩=some vn:=⟨b.cell_ 0 rfl,b.cell_ 1 rfl,b.cell_ 2 rfl⟩
theorem LvsP.of_row {w:World}{B:Nat}{v:Value}{ls:List Lf}(h:w.ownsRow B 103 8 v ls.length (lcs ls)) (h0:0<ls.length):∃g,LvsP (· =g) w v ls/\B<=g/\g<w.heap.size:=by
 rcases h.2 with⟨_,h4⟩|⟨r,c,cur,rfl,a2,a3,a4,a5,a6,a7⟩
 ·omega
 ·refine⟨r,⟨r,c,cur.toList.drop (ls.length*8),rfl,rfl,?_⟩,a2,(Array.getElem?_eq_some_iff.1 a3).1⟩
  have e:(lcs ls++cur.toList.drop (ls.length*8)).toArray=cur:=by
   rw[<-a7,List.take_append_drop]
  rw[e]
  exact a3
theorem CchR.put_was {ρ:Rl}{w:World}{a:Ads}{cc m ag:Nat}{C:Cch}{v:Value}{g:Nat}(h:CchR ρ w a cc m ag C) (hf:Fresh ρ w) (hv:LvsP (· =g) w v C.now) (hg:g<w.heap.size) (h0:ρ g=0):
 CchR (ρ.set g rWas) (w.setCell ⟨cc,3,none⟩ v) a cc m ag ⟨C.W,C.M,C.now,C.now,C.age,C.T,C.pois⟩:=by
 have hz:∀b,ρ b≠0->(ρ.set g rWas) b=ρ b:=fun b e=>Rl.set_other _ (fun c=>e (by rw[c];exact h0))
 have h':CchR (ρ.set g rWas) w a cc m ag C:=h.keep (Nat.le_refl _) (fun b hb e=>⟨rfl,hz b (by unfold rsC at e;omega)⟩)
 have h'':=h'
 obtain⟨vn,vw,h1,h2,h3,h4,h5,h6,h7⟩:=h''
 obtain⟨g',cap,rr,rfl,rfl,hb⟩:=hv
 exact h'.head (only_setCell (only_refl _ _) (.inl rfl) _) (h1.set_to 3 _ rfl) h5 ⟨g',cap,rr,rfl,Rl.set_same _ _ _,hb⟩ h7 rfl rfl
set_option maxHeartbeats 4000000 in
set_option maxRecDepth 100000 in
theorem ccm_ok (HS:SumOk) (HT:ShutOk) (ρ:Rl) (a:Ads) (cc m ag:Nat) (C:Cch) (k t:Nat) (w:World) (hf:Fresh ρ w) (h:CchR ρ w a cc m ag C) (hC:Cok C k t) (hk6:k<=600000):
 Calls Tryz.prog 109 #[.pointer (some ⟨cc,0,none⟩)] w fun e w'=>e=.returned (.int .i64 (ccommit C).1)/\∃ρ',CchR ρ' w' a cc m ag (ccommit C).2/\Ste rtC ρ w ρ' w':=by
 have hcm:=fun W' v h1 h2 h3 h4=>cmt_ok HS HT ρ a C.W m C.M v C.now W' h1 h2 h3 (hC.fit.mono hk6) h4 hC.nl hC.okn
 have h':=h
 obtain⟨vn,vw,hb,hcc,hw,hm,hn,_⟩:=h'
 have hn':LvsP (fun b=>¬rtW (ρ b)) w vn C.now:=by
  obtain⟨g,cap,rr,e1,e2,e3⟩:=hn
  exact⟨g,cap,rr,e1,by show ¬rtW (ρ g);rw[e2];unfold rtW;decide,e3⟩
 have hl:=hC.n16
 have hcc2:ccommit C=((cmt C.W C.M C.now).1,⟨(cmt C.W C.M C.now).2.1,(cmt C.W C.M C.now).2.2,C.now,if(cmt C.W C.M C.now).1=0 then C.now else C.was,C.age,C.T,C.pois⟩):=rfl
 obtain⟨R,hR⟩:∃R,R=cmt C.W C.M C.now:=⟨_,rfl⟩
 rw[<-hR]at hcm hcc2
 obtain⟨CC,hCC⟩:∃CC,CC=ccommit C:=⟨_,rfl⟩
 rw[<-hCC]at hcc2
 rw[<-hCC]
 obtain⟨e0,W0,M0⟩:=R
 simp only at hcm hcc2
 obtain⟨g,cap,rr,e1,hg1,hg2⟩:=hn
 subst e1
 have hnd:LvsP (fun b=>¬rtW (ρ b)) w.drew (.slice (some ⟨g,0,none⟩) C.now.length cap) C.now:=hn'
 have hca:=hcm w.drew (.slice (some ⟨g,0,none⟩) C.now.length cap) hf hw.drew (hm.below_ (Below.refl _ _).drew) hnd
 obtain⟨n,hnn⟩:∃n,n=C.now.length:=⟨_,rfl⟩
 rw[<-hnn]at hb hca hl
 have lc:=hb.lt
 have H:=Lib.hid (And.intro h (And.intro hnn hl))
 have HCC:=Lib.hid hcc2
 clear h hw hm hn' hnd hcm hR hcc2 hCC hnn hg1 hg2
 go_enter Tryz.func109,Tryz.ntmps109
 go_wp2_with fail
 have hb0:=hb
 go_region_held3 (fun w'=>w'.cell? ⟨cc,0,none⟩=some (.pointer (some ⟨a.wl,0,none⟩))/\w'.cell? ⟨cc,1,none⟩=some (.pointer (some ⟨m,0,none⟩))/\w'.cell? ⟨cc,2,none⟩=some (.slice (some ⟨g,0,none⟩) n cap))
  (first|(with_reducible exact s3c hb0)|(with_reducible exact s3c hb0.drew))
  (first
   |(go_at_call 145;(with_reducible refine hca.mono ?_);rintro e w2 ⟨rfl,ρ2,hW2,hM2,s2⟩;have t2:Ste rtLog ρ w ρ2 w2:=(Ste.of_below (Below.refl _ _).drew hf).trans s2;replace hb0:=hb.ste t2 (by rw[hcc];unfold rtLog rtW;decide)))
 clear hca hb
 have hC2:=H.out.1.put_log hW2 hM2 t2
 clear hW2 hM2 s2
 by_cases he:e0=0
 ·subst he
  have hC2':=hC2
  obtain⟨vn2,vw2,hb2,hcc2,_,_,hn2,_⟩:=hC2'
  have hcl:=lclone_ok (ρ2 · =rNow) vn2 C.now w2 hn2 (by have:=H.out.2;omega)
  have hvn:vn2=.slice (some ⟨g,0,none⟩) n cap:=by
   have q1:=hb2.cell_ 2 rfl
   have q2:=hb0.cell_ 2 rfl
   rw[q1]at q2
   injection q2
  rw[hvn]at hcl
  have c2:=hb0.cell_ 2 rfl
  have lc2:=hb0.lt
  have HX:=Lib.hid (And.intro hC2 t2)
  clear hC2 t2 hb2 hn2 hvn
  go_wp2_with fail
  refine hcl.mono ?_
  rintro e w3 ⟨v3,rfl,ho,q3⟩
  obtain⟨A3,z3,rfl⟩:=row_form ho
  have hb3:=hb0.below_ q3
  have f3:=hb3.frozen 3
  have c3:=hb3.cell_ 3 rfl
  have lc3:=hb3.lt
  have HY:=Lib.hid (And.intro ho q3)
  clear hcl c2 lc2 ho q3 hb0 hb3
  go_wp2_with fail
  go_ret
  obtain⟨hC2,t2⟩:=HX.out
  obtain⟨ho,q3⟩:=HY.out
  obtain⟨_,hnn,hl⟩:=H.out
  obtain⟨g3,hv3,hg3,hgl⟩:=LvsP.of_row ho (by omega)
  have hC3:=hC2.below_ q3
  have hz:ρ2 g3=0:=t2.fresh _ hg3
  have hf3:Fresh ρ2 w3:=fun i hi=>t2.fresh i (Nat.le_trans q3.size hi)
  have hs3:Ste rtC ρ2 w2 (ρ2.set g3 rWas) w3:=(Ste.of_below q3 t2.fresh).label hg3 hgl
  have hcw:=hC3.put_was hf3 hv3 hgl hz
  have hq:=HCC.out
  rw[if_pos trivial]at hq
  rw[hq]
  refine⟨rfl,ρ2.set g3 rWas,hcw,((t2.mono (fun r e=>e.c)).trans hs3).trans ?_⟩
  have hne:cc≠g3:=fun c=>by
   obtain⟨_,_,_,q,_⟩:=hC3
   rw[c,hz]at q
   exact absurd q (by decide)
  refine Ste.of_grown (g:=cc) (only_setCell (only_refl _ _) (.inl rfl) _) ?_ hs3.fresh
  rw[Rl.set_other _ hne]
  obtain⟨_,_,_,q,_⟩:=hC3
  rw[q]
  unfold rtC
  decide
 ·have t1:(e0 == 0)=false:=by simpa using he
  have HX:=Lib.hid (And.intro hC2 (And.intro t2 he))
  clear hC2 t2 he
  go_wp2_with fail
  go_ret
  obtain⟨hC2,t2,he⟩:=HX.out
  have hq:=HCC.out
  rw[if_neg he]at hq
  rw[hq]
  exact⟨rfl,ρ2,hC2,t2.mono (fun r e=>e.c)⟩
end Go.Proofs.YtggmdjdflaglpaaGreat
