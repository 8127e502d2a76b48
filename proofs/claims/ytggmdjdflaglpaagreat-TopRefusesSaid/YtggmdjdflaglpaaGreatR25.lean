/- The queue of age in memory, and its five methods. container/heap's up and down over age's queue. Age's heap: container/heap's Push and Remove; slices.Index. Age in memory: its functions by contract. -/
import Derived.Test.YtggmdjdflaglpaaGreatR01
import Derived.Test.YtggmdjdflaglpaaGreatR24
import Derived.BigRegion
import Derived.Deep.RegionHeld3
import Derived.Deep.RegionWith
import Derived.Deep.AppendLies
import Derived.WalkSmall
namespace Go.Proofs.YtggmdjdflaglpaaGreat
open Go.RowKit
set_option linter.unusedVariables false
def At (w:World) (g s:Nat):Prop:=∃A n c,w.cell? ⟨g,0,none⟩=some (.slice (some A) n c)/\A.block=s
def Fr (a g:Nat) (w w':World):Prop:=
 Below 0 w w'/\(∀b,b<w.heap.size->b≠a->b≠g->¬At w g b->w'.heap[b]? =w.heap[b]?)/\(∀s,At w' g s->At w g s\/w.heap.size<=s)
section
variable {a g:Nat}{u w w':World}
theorem Fr.refl (a g:Nat) (w:World):Fr a g w w:=⟨Below.refl _ _,fun _ _ _ _ _=>rfl,fun _ h=>.inl h⟩
theorem Fr.trans (h:Fr a g u w) (k:Fr a g w w'):Fr a g u w':=by
 refine⟨h.1.trans k.1,fun b hb h1 h2 h3=>?_,fun s hs=>?_⟩
 ·have hbw:=Nat.lt_of_lt_of_le hb h.1.size
  refine(k.2.1 b hbw h1 h2 fun c=>?_).trans (h.2.1 b hb h1 h2 h3)
  rcases h.2.2 b c with c|c
  ·exact h3 c
  ·omega
 ·rcases k.2.2 s hs with c|c
  ·exact h.2.2 s c
  ·have:=h.1.size
   exact .inr (by omega)
theorem Fr.drewN (h:Fr a g u w) (n:Nat):Fr a g u (w.drewN n):=⟨below_drewN h.1 n,h.2.1,h.2.2⟩
theorem Fr.drew (h:Fr a g u w):Fr a g u w.drew:=⟨h.1.drew,h.2.1,h.2.2⟩
theorem Fr.below {B:Nat}(h:Fr a g w w') (ha:B<=a) (hg:B<=g) (hr:∀s,At w g s->B<=s) (hB:B<=w.heap.size):Below B w w':=
 ⟨h.1.os,h.1.tape,h.1.output,h.1.size,fun i hi=>h.2.1 i (by omega) (by omega) (by omega) (fun c=>by have:=hr i c;omega)⟩
theorem Fr.setOld {r i t:Nat}{cs:Array Value}(hr:Blk w r t cs) (h:At w g r\/r=a) (hne:r≠g) (v:Value):Fr a g w (w.setCell ⟨r,i,none⟩ v):=by
 refine⟨(Below.refl 0 w).setCell (Nat.zero_le _) v,fun b hb h1 h2 h3=>Below.heap_setCell w _ v b (fun e=>?_),fun s ⟨A,n,c,hs,e⟩=>.inl ⟨A,n,c,?_,e⟩⟩
 ·simp only at e
  subst e
  rcases h with h|h
  ·exact h3 h
  ·exact h1 h
 ·rw[World.cell?_setCell_other _ _ _ _ (fun e=>hne (by injection e))]at hs
  exact hs
theorem Fr.setHead {A:Addr}{n c t:Nat}{cs:Array Value}(hg:Blk w g t cs) (h0:0<cs.size) (h:At w g A.block\/w.heap.size<=A.block):Fr a g w (w.setCell ⟨g,0,none⟩ (.slice (some A) n c)):=by
 refine⟨(Below.refl 0 w).setCell (Nat.zero_le _) _,fun b hb h1 h2 h3=>Below.heap_setCell w _ _ b h2,fun s ⟨A',n',c',hs,e⟩=>?_⟩
 have:=(hg.set_ 0 (.slice (some A) n c)).cell 0
 rw[hs,Array.getElem?_setIfInBounds,if_pos rfl,if_pos (by omega)]at this
 injection this with this
 injection this with this
 injection this with this
 rw[<-e,this]
 exact h
end
def ivals (zs:List Int):List Value:=zs.map (Value.int .i64)
theorem ivals_len (zs:List Int):(ivals zs).length=zs.length:=by simp[ivals]
def acells (lf:Nat->Int) (tk:Int) (g:Nat):Array Value:=((List.range 16).map (fun k=>Value.int .i64 (lf k))++[Value.int .i64 tk,Value.pointer (some ⟨g,0,none⟩)]).toArray
theorem acells_at (lf:Nat->Int) (tk:Int) (g:Nat) {k:Nat}(hk:k<16):(acells lf tk g)[k]? =some (.int .i64 (lf k)):=by
 unfold acells
 rw[List.getElem?_toArray,List.getElem?_append_left (by simpa using hk),List.getElem?_map,List.getElem?_range hk];rfl
theorem acells_set (lf:Nat->Int) (tk:Int) (g:Nat) {k:Nat}(hk:k<16) (v:Int):(acells lf tk g).setIfInBounds k (.int .i64 v)=acells (fun i=>if i=k then v else lf i) tk g:=by
 apply Array.ext_getElem?
 intro i
 rw[Array.getElem?_setIfInBounds]
 by_cases hi:i<16
 ·rw[acells_at _ _ _ hi,acells_at _ _ _ hi]
  by_cases e:k=i
  ·subst e;simp[acells];omega
  ·rw[if_neg e,if_neg (Ne.symm e)]
 ·rw[if_neg (by omega)]
  unfold acells
  rw[List.getElem?_toArray,List.getElem?_toArray,List.getElem?_append_right (by simp;omega),List.getElem?_append_right (by simp;omega)]
  simp
theorem acells_tick (lf:Nat->Int) (tk:Int) (g:Nat) (v:Int):(acells lf tk g).setIfInBounds 16 (.int .i64 v)=acells lf v g:=rfl
def kf (lf:Nat->Int) (z:Int):Int:=lf z.toNat
def QI (w:World) (B a g:Nat) (lf:Nat->Int) (tk:Int) (zs:List Int):Prop:=
 ∃A cap,Blk w g 151 #[.slice A zs.length cap,.func (.func 65) #[.pointer (some ⟨a,0,none⟩)] #[]]/\B<=g/\w.ownsRow B 3 1 (.slice A zs.length cap) zs.length (ivals zs)/\
  Blk w a 148 (acells lf tk g)/\B<=a/\∀z∈zs,0<=z/\z<16
theorem info3:(Tryz.prog.info? 3).map (fun i=>(i.zero,i.size,i.bytes))=some (some (.int .i64 0),1,8):=by kernel_rfl
section
variable {w w':World}{B a g:Nat}{lf:Nat->Int}{tk:Int}{zs:List Int}
theorem QI.drew (h:QI w B a g lf tk zs):QI w.drew B a g lf tk zs:=h
theorem QI.drewN (h:QI w B a g lf tk zs) (n:Nat):QI (w.drewN n) B a g lf tk zs:=h
theorem QI.rows (h:QI w B a g lf tk zs):∀s,At w g s->B<=s/\s<w.heap.size/\∃cs,Blk w s 3 cs:=by
 obtain⟨A,cap,hb,_,⟨_,ho⟩,_⟩:=h
 rintro s ⟨A',n,c,hs,rfl⟩
 rw[hb.cell_ 0 rfl]at hs
 injection hs with hs
 injection hs with e1 e2 e3
 subst e1
 rcases ho with⟨h1,_⟩|⟨r,c',cur,h1,h2,h3,_⟩
 ·injection h1 with h1;cases h1
 ·injection h1 with h1
  injection h1 with h1
  subst h1
  exact⟨h2,(show Blk w r 3 cur from h3).lt,cur,h3⟩
theorem QI.ne (h:QI w B a g lf tk zs):a≠g:=by
 obtain⟨A,cap,hb,_,_,ha,_⟩:=h
 exact ha.ne_ hb (by decide)
theorem QI.same (h:QI w B a g lf tk zs) (hk:∀x,(x=a\/x=g\/At w g x)->w'.heap[x]? =w.heap[x]?):QI w' B a g lf tk zs:=by
 obtain⟨A,cap,hb,h2,⟨h3,h4⟩,ha,h5⟩:=h
 refine⟨A,cap,(hk g (.inr (.inl rfl))).trans hb,h2,⟨h3,?_⟩,(hk a (.inl rfl)).trans ha,h5⟩
 rcases h4 with h4|⟨r,c,cur,a1,a2,a3,a4⟩
 ·exact .inl h4
 ·refine .inr ⟨r,c,cur,a1,a2,(hk r (.inr (.inr ?_))).trans a3,a4⟩
  rw[a1]at hb
  exact⟨_,_,_,hb.cell_ 0 rfl,rfl⟩
theorem QI.row (h:QI w B a g lf tk zs) (h0:0<zs.length):∃r cap cur,Blk w g 151 #[.slice (some ⟨r,0,none⟩) zs.length cap,.func (.func 65) #[.pointer (some ⟨a,0,none⟩)] #[]]/\B<=g/\B<=r/\Blk w r 3 cur/\zs.length<=cap/\cap<=maxLen/\cur.size=cap/\
 (∀k,k<zs.length->cur[k]? =some (.int .i64 (el zs k)))/\Blk w a 148 (acells lf tk g)/\B<=a/\(∀z∈zs,0<=z/\z<16)/\At w g r:=by
 obtain⟨A,cap,hb,h2,⟨h3,h4⟩,ha,h5,h6⟩:=h
 rcases h4 with⟨_,h4⟩|⟨r,c,cur,a1,a2,a3,a4,a5,a6,a7⟩
 ·omega
 ·injection a1 with b1 b2 b3
  subst b1;subst b3
  refine⟨r,cap,cur,hb,h2,a2,a3,a4,a5,by omega,fun k hk=>?_,ha,h5,h6,⟨_,_,_,hb.cell_ 0 rfl,rfl⟩⟩
  have e:(cur.toList.take (zs.length*1))[k]? =some (.int .i64 (el zs k)):=by
   rw[a7];unfold ivals
   rw[List.getElem?_map,el_get hk];rfl
  rw[List.getElem?_take,if_pos (by omega)]at e
  simpa using e
theorem QI.of {r cap:Nat}{cur:Array Value}(hb:Blk w g 151 #[.slice (some ⟨r,0,none⟩) zs.length cap,.func (.func 65) #[.pointer (some ⟨a,0,none⟩)] #[]]) (hg:B<=g) (hr:B<=r) (hc:Blk w r 3 cur) (h1:zs.length<=cap) (h2:cap<=maxLen) (h3:cur.size=cap)
 (h4:∀k,k<zs.length->cur[k]? =some (.int .i64 (el zs k))) (ha:Blk w a 148 (acells lf tk g)) (h5:B<=a) (h6:∀z∈zs,0<=z/\z<16):QI w B a g lf tk zs:=by
 refine⟨_,cap,hb,hg,⟨by simp[ivals],.inr ⟨r,cap,cur,rfl,hr,hc,h1,h2,by omega,?_⟩⟩,ha,h5,h6⟩
 apply List.ext_getElem?
 intro k
 rw[List.getElem?_take]
 by_cases hk:k<zs.length
 ·rw[if_pos (by omega)]
  unfold ivals
  rw[List.getElem?_map,el_get hk]
  simpa using h4 k hk
 ·rw[if_neg (by omega)]
  symm
  apply List.getElem?_eq_none
  simp[ivals];omega
end
theorem older_ok (a g x y:Nat) (lf:Nat->Int) (tk:Int) (w:World) (h:Blk w a 148 (acells lf tk g)) (hx:x<16) (hy:y<16):
 Calls Tryz.prog 65 #[.pointer (some ⟨a,0,none⟩),.int .i64 x,.int .i64 y] w fun e w'=>e=.returned (.bool (decide (lf x<lf y)))/\w'=w.drew:=by
 have cx:=h.cell_ x (acells_at lf tk g hx)
 have cy:=h.cell_ y (acells_at lf tk g hy)
 have l0:=h.lt
 have i0:(0:Int)<=(x:Int):=by omega
 have i1:(x:Int)<16:=by omega
 have j0:(0:Int)<=(y:Int):=by omega
 have j1:(y:Int)<16:=by omega
 clear h
 go_enter Tryz.func65,Tryz.ntmps65
 go_wp2
 go_region
 go_wp2
 go_ret
 exact⟨rfl,rfl⟩
theorem qlen (B a g:Nat) (lf:Nat->Int) (tk:Int) (zs:List Int) (w:World) (h:QI w B a g lf tk zs):
 Calls Tryz.prog 186 #[.pointer (some ⟨g,0,none⟩)] w fun e w'=>e=.returned (.int .i64 zs.length)/\w=w':=by
 obtain⟨A,cap,hb,_⟩:=h
 have c0:w.cell? ⟨g,0,none⟩=some (.slice A zs.length cap):=hb.cell_ 0 rfl
 have l0:=hb.lt
 go_enter Tryz.func186,Tryz.ntmps186
 go_wp2
 go_ret
 exact⟨rfl,rfl⟩
theorem qless (i j B a g:Nat) (lf:Nat->Int) (tk:Int) (zs:List Int) (w:World) (h:QI w B a g lf tk zs) (hi:i<zs.length) (hj:j<zs.length):
 Calls Tryz.prog 207 #[.pointer (some ⟨g,0,none⟩),.int .i64 i,.int .i64 j] w fun e w'=>e=.returned (.bool (decide (kf lf (el zs i)<kf lf (el zs j))))/\w'=w.drew.drew:=by
 obtain⟨r,cap,cur,hb,_,_,hc,h1,h2,h3,h4,ha,_,h5,_⟩:=h.row (by omega)
 obtain⟨a0,a1⟩:=h5 _ (el_mem hi)
 obtain⟨b0,b1⟩:=h5 _ (el_mem hj)
 have h4i:=h4 i hi
 have h4j:=h4 j hj
 obtain⟨p,hp⟩:=Int.eq_ofNat_of_zero_le a0
 obtain⟨q,hq⟩:=Int.eq_ofNat_of_zero_le b0
 rw[hp]at a1 h4i ⊢
 rw[hq]at b1 h4j ⊢
 have hp16:p<16:=by omega
 have hq16:q<16:=by omega
 have e1:kf lf (p:Int)=lf p:=rfl
 have e2:kf lf (q:Int)=lf q:=rfl
 rw[e1,e2]
 have c0:w.cell? ⟨g,0,none⟩=some (.slice (some ⟨r,0,none⟩) zs.length cap):=hb.cell_ 0 rfl
 have c1:w.cell? ⟨g,1,none⟩=some (.func (.func 65) #[.pointer (some ⟨a,0,none⟩)] #[]):=hb.cell_ 1 rfl
 have ci:w.cell? ⟨r,i,none⟩=some (.int .i64 (p:Int)):=hc.cell_ i h4i
 have cj:w.cell? ⟨r,j,none⟩=some (.int .i64 (q:Int)):=hc.cell_ j h4j
 have i0:(0:Int)<=(i:Int):=by omega
 have i1:(i:Int)<(zs.length:Int):=by omega
 have j0:(0:Int)<=(j:Int):=by omega
 have j1:(j:Int)<(zs.length:Int):=by omega
 clear h hb hc h1 h2 h3 h4 h4i h4j h5 a0 a1 b0 b1 hp hq e1 e2
 go_enter Tryz.func207,Tryz.ntmps207
 go_wp2_with fail
 go_region_held3 (fun w'=>w'.cell? ⟨g,0,none⟩=some (.slice (some ⟨r,0,none⟩) zs.length cap)/\w'.cell? ⟨g,1,none⟩=some (.func (.func 65) #[.pointer (some ⟨a,0,none⟩)] #[])/\w'.cell? ⟨r,i,none⟩=some (.int .i64 (p:Int))/\w'.cell? ⟨r,j,none⟩=some (.int .i64 (q:Int)))
  (exact⟨c0,c1,ci,cj⟩)
  (first|(go_at_call 65;refine(older_ok a g p q lf tk _ ha.drew hp16 hq16).mono ?_;rintro e w1 ⟨rfl,rfl⟩))
 go_wp2_with fail
 go_ret
 exact⟨rfl,rfl⟩
theorem assert_int (z:Int) (W:World):(Instr.typeAssert (.iface 3 (.int .i64 z)) 20 3 true).run Tryz.prog W=.ok (.tuple #[.int .i64 z,.bool true]) W:=by kernel_rfl
theorem qpop (B a g:Nat) (lf:Nat->Int) (tk:Int) (zs:List Int) (z:Int) (w:World) (h:QI w B a g lf tk (zs++[z])):
 Calls Tryz.prog 208 #[.pointer (some ⟨g,0,none⟩)] w fun e w'=>e=.returned (.iface 3 (.int .i64 z))/\QI w' B a g lf tk zs/\Fr a g w w':=by
 have hl:(zs++[z]).length=zs.length+1:=by simp
 obtain⟨r,cap,cur,hb,hg,hr,hc,h1,h2,h3,h4,ha,h5,h6,h7⟩:=h.row (by omega)
 have hez:el (zs++[z]) zs.length=z:=by
  unfold el;rw[List.getD_eq_getElem?_getD];simp
 have he:∀k,k<zs.length->el (zs++[z]) k=el zs k:=fun k hk=>by
  unfold el;rw[List.getD_eq_getElem?_getD,List.getD_eq_getElem?_getD,List.getElem?_append_left hk]
 have h4':=h4 zs.length (by omega)
 rw[hez]at h4'
 rw[hl]at hb h1
 have hb2:=hb.set_to 0 (.slice (some ⟨r,0,none⟩) zs.length cap) (cs':=#[.slice (some ⟨r,0,none⟩) zs.length cap,.func (.func 65) #[.pointer (some ⟨a,0,none⟩)] #[]]) rfl
 have hq:QI (w.setCell ⟨g,0,none⟩ (.slice (some ⟨r,0,none⟩) zs.length cap)) B a g lf tk zs:=
  QI.of hb2 hg hr (hc.far (p:=⟨g,0,none⟩) (hc.ne_ hb (by decide)) _) (by omega) h2 h3 (fun k hk=>by rw[<-he k hk];exact h4 k (by omega)) (ha.far (p:=⟨g,0,none⟩) (ha.ne_ hb (by decide)) _) h5 (fun y hy=>h6 y (List.mem_append_left _ hy))
 have hN2:Fr a g w (w.setCell ⟨g,0,none⟩ (.slice (some ⟨r,0,none⟩) zs.length cap)):=Fr.setHead hb (by simp) (.inl h7)
 have c0:w.cell? ⟨g,0,none⟩=some (.slice (some ⟨r,0,none⟩) (zs.length+1) cap):=hb.cell_ 0 rfl
 have f0:=hb.frozen 0
 have l0:=hb.lt
 have cz:w.cell? ⟨r,zs.length,none⟩=some (.int .i64 z):=hc.cell_ _ h4'
 have hm:zs.length+1<=cap:=h1
 have hm2:cap<=9223372036854775807:=by unfold maxLen at h2;omega
 have HQ:=Lib.hid hq;have HN:=Lib.hid hN2
 clear h hb hg hr hc h1 h2 h3 h4 he hez h4' hb2 hq hN2 hl ha h5 h6 h7
 go_enter Tryz.func208,Tryz.ntmps208
 go_wp2
 go_ret
 exact⟨rfl,HQ.out,HN.out⟩
theorem qpush (B a g:Nat) (lf:Nat->Int) (tk:Int) (zs:List Int) (z:Int) (w:World) (h:QI w B a g lf tk zs) (hl:zs.length<=100) (hB:B<=w.heap.size) (hz:0<=z/\z<16):
 Calls Tryz.prog 209 #[.pointer (some ⟨g,0,none⟩),.iface 3 (.int .i64 z)] w fun e w'=>e=.returned (.tuple #[])/\QI w' B a g lf tk (zs++[z])/\Fr a g w w':=by
 have hrows:=h.rows
 have hag:=h.ne
 obtain⟨A,cap,hb,hg,ho,hba,h5,h6⟩:=h
 obtain⟨i0,hi,hz0,hz1,hz2⟩:=info_parts info3
 have c0:w.cell? ⟨g,0,none⟩=some (.slice A zs.length cap):=hb.cell_ 0 rfl
 have l0:=hb.lt
 have hown:(w.alloc (.cells #[.int .i64 z] 3)).ownsRow B 3 1 (.slice A zs.length cap) zs.length (ivals zs):=ho.alloc _
 have hat:∀k,(Value.slice A zs.length cap).ownBlock=some k->At w g k:=fun k hk=>by
  cases A with
  |none=>simp[Value.ownBlock]at hk
  |some x=>
   simp only[Value.ownBlock]at hk
   injection hk with hk
   exact⟨_,_,_,c0,hk⟩
 have hneb:∀(y t:Nat) (cs:Array Value),Blk w y t cs->t≠3->some y≠(Value.slice A zs.length cap).ownBlock:=fun y t cs hy ht e=>by
  obtain⟨_,_,cs',hs⟩:=hrows y (hat y e.symm)
  exact(hy.ne_ hs ht) rfl
 have ha:=assert_int z
 have HAT:=Lib.hid (And.intro hat hneb)
 have HAG:=Lib.hid hag
 clear hat hneb hrows hag
 go_enter Tryz.func209,Tryz.ntmps209
 go_wp2_with (at_builtin;go_loud (refine wpList_append_lies _ rfl _ _ 149 rfl B 3 i0 (.int .i64 0) 1 8 Tryz.underlying149 hi hz0 hz1 hz2 rfl (by decide) _ _ _ rfl hown ⟨w.heap.size,0,none⟩ 1 1 [.int .i64 z] rfl (by simp) (cell_one_new _ _ _) (fun v hv=>by rw[List.mem_singleton.1 hv];rfl) (by omega) (by unfold maxLen;omega) (by omega) (by simp;omega) _ rfl ?_))
 obtain⟨hat,hneb⟩:=HAT.out
 have hag:=HAG.out
 intro g' cap' w1 hown1 hgrow hlies hlt1
 have hb1:Blk w1 g 151 #[.slice A zs.length cap,.func (.func 65) #[.pointer (some ⟨a,0,none⟩)] #[]]:=(hb.alloc _).grown hgrow (hneb g 151 _ hb (by decide))
 have ha1:Blk w1 a 148 (acells lf tk g):=(hba.alloc _).grown hgrow (hneb a 148 _ hba (by decide))
 have c1:w1.cell? ⟨g,0,none⟩=some (.slice A zs.length cap):=hb1.cell_ 0 rfl
 have f1:=hb1.frozen 0
 have l1:=hb1.lt
 have hF1:Fr a g w w1:=by
  refine⟨((Below.refl 0 w).alloc (Nat.zero_le _) _).grown hgrow (Nat.zero_le _) (fun _ _=>Nat.zero_le _),fun b hbl h1 h2 h3=>?_,fun s ⟨A',n,c,hs,e⟩=>.inl ⟨A',n,c,?_,e⟩⟩
  ·exact(hgrow.block b (by simp;omega) (fun e=>h3 (hat b e.symm))).trans (Below.heap_alloc w _ b hbl)
  ·rw[c1]at hs;rw[c0];exact hs
 have hF2:Fr a g w (w1.setCell ⟨g,0,none⟩ (.slice (some ⟨g',0,none⟩) (zs.length+1) cap')):=by
  refine⟨hF1.1.setCell (Nat.zero_le _) _,fun b hbl h1 h2 h3=>(Below.heap_setCell w1 _ _ b h2).trans (hF1.2.1 b hbl h1 h2 h3),fun s ⟨A',n',c',hs,e⟩=>?_⟩
  have:=(hb1.set_ 0 (.slice (some ⟨g',0,none⟩) (zs.length+1) cap')).cell 0
  rw[hs]at this
  simp at this
  obtain⟨rfl,_⟩:=this
  rcases hlies with hl|hl
  ·exact .inl (e▸hat _ hl)
  ·right
   rw[<-e]
   simp only
   rw[hl];simp
 have hb2:=hb1.set_to 0 (.slice (some ⟨g',0,none⟩) (zs.length+1) cap') (cs':=#[.slice (some ⟨g',0,none⟩) (zs.length+1) cap',.func (.func 65) #[.pointer (some ⟨a,0,none⟩)] #[]]) rfl
 have hq:QI (w1.setCell ⟨g,0,none⟩ (.slice (some ⟨g',0,none⟩) (zs.length+1) cap')) B a g lf tk (zs++[z]):=by
  refine⟨some ⟨g',0,none⟩,cap',by simpa using hb2,hg,?_,ha1.far (p:=⟨g,0,none⟩) hag _,h5,fun y hy=>?_⟩
  ·obtain⟨h1,h2⟩:=hown1
   rw[List.length_append,List.length_singleton]
   refine⟨by simp[ivals],?_⟩
   rcases h2 with⟨_,h0⟩|⟨r,c,cur,a1,a2,a3,a4⟩
   ·omega
   ·refine .inr ⟨r,c,cur,a1,a2,((show Blk w1 r 3 cur from a3).far (p:=⟨g,0,none⟩) ((show Blk w1 r 3 cur from a3).ne_ hb1 (by decide)) _),?_⟩
    simpa[ivals]using a4
  ·rw[List.mem_append,List.mem_singleton]at hy
   rcases hy with hy|rfl
   ·exact h6 y hy
   ·exact hz
 have HQ:=Lib.hid hq;have HN:=Lib.hid hF2
 clear hown hgrow hb1 hown1 hF1 hF2 hb2 hq hb hg ho c0 l0 hi hz0 hz1 hz2 hlies hlt1 hat hneb hba ha1 h6 HAT HAG hag
 go_wp2_with fail
 go_end0
 exact⟨rfl,HQ.out,HN.out⟩
theorem qswap (i j B a g:Nat) (lf:Nat->Int) (tk:Int) (zs:List Int) (w:World) (h:QI w B a g lf tk zs) (hi:i<zs.length) (hj:j<zs.length):
 Calls Tryz.prog 210 #[.pointer (some ⟨g,0,none⟩),.int .i64 i,.int .i64 j] w fun e w'=>e=.returned (.tuple #[])/\QI w' B a g lf tk (swp zs i j)/\Fr a g w w':=by
 obtain⟨r,cap,cur,hb,hg,hr,hc,h1,h2,h3,h4,ha,h5,h6,h7⟩:=h.row (by omega)
 have c0:w.cell? ⟨g,0,none⟩=some (.slice (some ⟨r,0,none⟩) zs.length cap):=hb.cell_ 0 rfl
 have ci:w.cell? ⟨r,i,none⟩=some (.int .i64 (el zs i)):=hc.cell_ i (h4 i hi)
 have cj:w.cell? ⟨r,j,none⟩=some (.int .i64 (el zs j)):=hc.cell_ j (h4 j hj)
 have i0:(0:Int)<=(i:Int):=by omega
 have i1:(i:Int)<(zs.length:Int):=by omega
 have j0:(0:Int)<=(j:Int):=by omega
 have j1:(j:Int)<(zs.length:Int):=by omega
 have fi:=hc.frozen i
 have fj:=hc.frozen j
 have lr:=hc.lt
 have hrg:r≠g:=hc.ne_ hb (by decide)
 have d1:=hc.set_ i (.int .i64 (el zs j))
 have d2:=d1.set_ j (.int .i64 (el zs i))
 have e1:=(hb.far (p:=⟨r,i,none⟩) (hb.ne_ hc (by decide)) (.int .i64 (el zs j))).far (p:=⟨r,j,none⟩) (hb.ne_ hc (by decide)) (.int .i64 (el zs i))
 have a1:=(ha.far (p:=⟨r,i,none⟩) (ha.ne_ hc (by decide)) (.int .i64 (el zs j))).far (p:=⟨r,j,none⟩) (ha.ne_ hc (by decide)) (.int .i64 (el zs i))
 have hq:QI ((w.setCell ⟨r,i,none⟩ (.int .i64 (el zs j))).setCell ⟨r,j,none⟩ (.int .i64 (el zs i))) B a g lf tk (swp zs i j):=by
  refine QI.of (by rw[swp_len];exact e1) hg hr d2 (by rw[swp_len];exact h1) h2 (by simp[h3]) (fun k hk=>?_) a1 h5 (fun z hz=>h6 z ((swp_perm hi hj).mem_iff.1 hz))
  rw[swp_len]at hk
  rw[el_swp hi hj,Array.getElem?_setIfInBounds,Array.getElem?_setIfInBounds]
  by_cases kj:k=j
  ·subst kj;simp;omega
  ·rw[if_neg (Ne.symm kj),if_neg kj]
   by_cases ki:k=i
   ·subst ki;simp;omega
   ·rw[if_neg (Ne.symm ki),if_neg ki];exact h4 k hk
 obtain⟨u,hu⟩:∃u,(w.setCell ⟨r,i,none⟩ (.int .i64 (el zs j))).cell? ⟨r,j,none⟩=some u:=⟨_,(d1.cell j).trans (Array.getElem?_eq_getElem (by simp;omega))⟩
 have F1:Fr a g w (w.setCell ⟨r,i,none⟩ (.int .i64 (el zs j))):=Fr.setOld hc (.inl h7) hrg _
 have h7':At (w.setCell ⟨r,i,none⟩ (.int .i64 (el zs j))) g r:=by
  obtain⟨A,n,c,hs,e⟩:=h7
  exact⟨A,n,c,(World.cell?_setCell_other _ _ _ _ (fun e=>hrg (by injection e))).trans hs,e⟩
 have hN2:=F1.trans (Fr.setOld (a:=a) (i:=j) d1 (.inl h7') hrg (.int .i64 (el zs i)))
 have HQ:=Lib.hid hq;have HN:=Lib.hid hN2
 clear h hb hg hr hc h1 h2 h3 h4 d1 d2 e1 a1 hq F1 hN2 h7 h7' ha h5 h6 hrg
 go_enter Tryz.func210,Tryz.ntmps210
 go_wp2_with fail
 go_region
 go_wp2
 go_end0
 exact⟨rfl,HQ.out,HN.out.drew⟩
end Go.Proofs.YtggmdjdflaglpaaGreat
namespace Go.Proofs.YtggmdjdflaglpaaGreat
open Go.RowKit
set_option linter.unusedVariables false
theorem m_len (g:Nat) (W:World):(method 380 146 (.pointer (some ⟨g,0,none⟩)) "Len").run Tryz.prog W=.ok (186,.pointer (some ⟨g,0,none⟩)) W:=by kernel_rfl
theorem m_less (g:Nat) (W:World):(method 380 146 (.pointer (some ⟨g,0,none⟩)) "Less").run Tryz.prog W=.ok (207,.pointer (some ⟨g,0,none⟩)) W:=by kernel_rfl
theorem m_pop (g:Nat) (W:World):(method 380 146 (.pointer (some ⟨g,0,none⟩)) "Pop").run Tryz.prog W=.ok (208,.pointer (some ⟨g,0,none⟩)) W:=by kernel_rfl
theorem m_push (g:Nat) (W:World):(method 380 146 (.pointer (some ⟨g,0,none⟩)) "Push").run Tryz.prog W=.ok (209,.pointer (some ⟨g,0,none⟩)) W:=by kernel_rfl
theorem m_swap (g:Nat) (W:World):(method 380 146 (.pointer (some ⟨g,0,none⟩)) "Swap").run Tryz.prog W=.ok (210,.pointer (some ⟨g,0,none⟩)) W:=by kernel_rfl
theorem up_ok (g j n:Nat) (B a:Nat) (lf:Nat->Int) (tk:Int) (zs:List Int) (w:World) (h:QI w B a g lf tk zs) (hu:UpBut (kf lf) zs n j) (hj:j<n) (hn:n<=zs.length) (hm:zs.length<=100):
 Calls Tryz.prog 105 #[.iface 146 (.pointer (some ⟨g,0,none⟩)),.int .i64 j] w fun e w'=>e=.returned (.tuple #[])/\∃zs',QI w' B a g lf tk zs'/\Fr a g w w'/\Heap (kf lf) zs' n/\zs'.Perm zs/\∀k,n<=k->el zs' k=el zs k:=by
 have ml:=m_less g
 have ms:=m_swap g
 go_enter Tryz.func105,Tryz.ntmps105
 go_wp2_with fail
 go_loopw [1] (fun i wr=>∃(k:Nat) (ys:List Int),i=.int .i64 k/\QI wr B a g lf tk ys/\Fr a g w wr/\UpBut (kf lf) ys n k/\k<n/\ys.Perm zs/\∀k,n<=k->el ys k=el zs k) (fun i _=>(intOf i).toNat)
 case atStart=>exact⟨j,zs,rfl,h,Fr.refl _ _ _,hu,hj,.refl _,fun _ _=>rfl⟩
 case round=>
  obtain⟨k,ys,rfl,hq,hN,hu',hk,hp,he⟩:=hrel
  have hyl:=hp.length_eq
  obtain⟨p,hpk⟩:∃p,p=(k-1) / 2:=⟨_,rfl⟩
  have hpi:((k:Int)-1).tdiv 2=(p:Int):=by
   by_cases h0:k=0
   ·subst h0;subst hpk;rfl
   ·rw[Int.tdiv_eq_ediv_of_nonneg (by omega)];omega
  have hkl:k<ys.length:=by omega
  have hpl:p<ys.length:=by omega
  have hp100:p<100:=by omega
  by_cases h0:k=0
  ·have ht:((p:Int) == (k:Int))=true:=by simp;omega
   have hh:Heap (kf lf) ys n:=by subst h0;exact hu'.heap0
   clear h0 hpk
   go_wp2_with fail
   go_end0
   exact⟨rfl,ys,hq,hN,hh,hp,he⟩
  ·have ht:((p:Int) == (k:Int))=false:=by simp;omega
   by_cases hlt:kf lf (el ys k)<kf lf (el ys p)
   ·have hd:decide (kf lf (el ys k)<kf lf (el ys p))=true:=by simpa using hlt
    have hstep:=hu'.step (by omega) hk (by omega) (by rw[<-hpk];exact hlt)
    rw[<-hpk]at hstep
    have hpn:p<n:=by omega
    have hpk':p<k:=by omega
    clear h0 hpk h hu
    go_wp2_with fail
    refine(qless k p B a g lf tk ys _ hq hkl hpl).mono ?_
    rintro e w1 ⟨rfl,rfl⟩
    go_wp2_with fail
    refine(qswap p k B a g lf tk ys _ hq.drew.drew hpl hkl).mono ?_
    rintro e w2 ⟨rfl,hq2,hN2⟩
    have hN3:=hN.drew.drew.trans hN2
    have hp3:=(swp_perm hpl hkl).trans hp
    have he3:∀j,n<=j->el (swp ys p k) j=el zs j:=fun j hj=>by
     rw[el_swp hpl hkl,if_neg (by omega),if_neg (by omega)];exact he j hj
    go_wp2_with fail
    go_roundw
    case rel=>exact⟨p,_,rfl,hq2,hN3,hstep,hpn,hp3,he3⟩
    case measure=>simp[intOf];omega
   ·have hd:decide (kf lf (el ys k)<kf lf (el ys p))=false:=by simpa using hlt
    have hh:Heap (kf lf) ys n:=hu'.heap (by rw[<-hpk];omega)
    clear h0 hpk h hu
    go_wp2_with fail
    refine(qless k p B a g lf tk ys _ hq hkl hpl).mono ?_
    rintro e w1 ⟨rfl,rfl⟩
    go_wp2_with fail
    go_end0
    exact⟨rfl,ys,hq.drew.drew,hN.drew.drew,hh,hp,he⟩
theorem hany {lf:Nat->Int}{i0 k n:Nat}{zs ys:List Int}(h:(k=i0/\ys=zs/\AnyBut (kf lf) ys n k)\/(i0<k/\DownBut (kf lf) ys n k)):AnyBut (kf lf) ys n k:=by
 rcases h with⟨_,_,h⟩|⟨_,h⟩
 ·exact h
 ·exact h.any
theorem fin_ {lf:Nat->Int}{i0 k n:Nat}{zs ys:List Int}(h:(k=i0/\ys=zs/\AnyBut (kf lf) ys n k)\/(i0<k/\DownBut (kf lf) ys n k)) (hc:∀i,0<i->i<n->(i-1) / 2=k->kf lf (el ys k)<=kf lf (el ys i)):
 (decide (i0<k)=false/\ys=zs/\UpBut (kf lf) zs n i0)\/(decide (i0<k)=true/\Heap (kf lf) ys n):=by
 rcases h with⟨rfl,rfl,h⟩|⟨h0,h⟩
 ·exact .inl ⟨by simp,rfl,h.up hc⟩
 ·exact .inr ⟨by simpa using h0,h.heap hc⟩
set_option maxHeartbeats 20000000 in
theorem down_ok (g i0 n:Nat) (B a:Nat) (lf:Nat->Int) (tk:Int) (zs:List Int) (w:World) (h:QI w B a g lf tk zs) (ha:AnyBut (kf lf) zs n i0) (hi:i0<=n) (hn:n<=zs.length) (hm:zs.length<=100):
 Calls Tryz.prog 143 #[.iface 146 (.pointer (some ⟨g,0,none⟩)),.int .i64 i0,.int .i64 n] w fun e w'=>∃b zs',e=.returned (.bool b)/\QI w' B a g lf tk zs'/\Fr a g w w'/\zs'.Perm zs/\(∀k,n<=k->el zs' k=el zs k)/\
  ((b=false/\zs'=zs/\UpBut (kf lf) zs n i0)\/(b=true/\Heap (kf lf) zs' n)):=by
 have ml:=m_less g
 have ms:=m_swap g
 go_enter Tryz.func143,Tryz.ntmps143
 go_wp2_with fail
 go_loopw [7] (fun i wr=>∃(k:Nat) (ys:List Int),i=.int .i64 k/\QI wr B a g lf tk ys/\Fr a g w wr/\ys.Perm zs/\(∀k,n<=k->el ys k=el zs k)/\k<=n/\((k=i0/\ys=zs/\AnyBut (kf lf) ys n k)\/(i0<k/\DownBut (kf lf) ys n k))) (fun i _=>n-(intOf i).toNat)
 case atStart=>exact⟨i0,zs,rfl,h,Fr.refl _ _ _,.refl _,fun _ _=>rfl,hi,.inl ⟨rfl,rfl,ha⟩⟩
 case round=>
  obtain⟨k,ys,rfl,hq,hN,hp,he,hkn,hinv⟩:=hrel
  have hyl:=hp.length_eq
  obtain⟨J1,hJ⟩:∃J1:Nat,J1=2*k+1:=⟨_,rfl⟩
  obtain⟨J2,hJ2⟩:∃J2:Nat,J2=J1+1:=⟨_,rfl⟩
  have hj1:2*(k:Int)+1=(J1:Int):=by omega
  have hj2:(J1:Int)+1=(J2:Int):=by omega
  have hb1:J2<300:=by omega
  have hik:i0<=k:=by omega
  have hz1:decide ((J1:Int)<0)=false:=by simp
  by_cases hA:n<=J1
  ·have hA':decide ((n:Int)<=(J1:Int))=true:=by simpa using hA
   have hf:=fin_ hinv (fun i _ _ _=>by omega)
   clear hinv h ha hJ hJ2 hi hik
   go_wp2_with fail
   go_ret
   exact⟨_,ys,rfl,hq,hN,hp,he,hf⟩
  ·have hA':decide ((n:Int)<=(J1:Int))=false:=by simp;omega
   have hAn:decide (n<=J1)=false:=by simp;omega
   have hkl:k<ys.length:=by omega
   by_cases hB:J2<n/\kf lf (el ys J2)<kf lf (el ys J1)
   ·have hB1:decide ((J2:Int)<(n:Int))=true:=by simp;omega
    have hB1n:decide (J2<n)=true:=by simp;omega
    have hB2:decide (kf lf (el ys J2)<kf lf (el ys J1))=true:=by simpa using hB.2
    have hmin:∀i,0<i->i<n->(i-1) / 2=k->kf lf (el ys J2)<=kf lf (el ys i):=fun i a b e=>by
     rcases(show i=J1\/i=J2 by omega)with rfl|rfl
     ·omega
     ·exact Int.le_refl _
    have hc1:(J2-1) / 2=k:=by omega
    have hcn:J2<n:=hB.1
    have hcl:J2<ys.length:=by omega
    clear hB hA
    by_cases hlt:kf lf (el ys J2)<kf lf (el ys k)
    ·have hd:decide (kf lf (el ys J2)<kf lf (el ys k))=true:=by simpa using hlt
     have hstep:=(hany hinv).step hc1 (by omega) hcn (by omega) hlt hmin
     have hp3:=(swp_perm hkl hcl).trans hp
     have he3:∀j,n<=j->el (swp ys k J2) j=el zs j:=fun j hj=>by
      rw[el_swp hkl hcl,if_neg (by omega),if_neg (by omega)];exact he j hj
     have hkc:k<J2:=by omega
     have hi0:i0<J2:=by omega
     clear hlt hmin hinv h ha hc1 hik hJ hJ2
     go_wp2_with fail
     refine(qless J2 J1 B a g lf tk ys _ hq (by omega) (by omega)).mono ?_
     rintro e w1 ⟨rfl,rfl⟩
     go_wp2_with fail
     refine(qless J2 k B a g lf tk ys _ hq.drew.drew hcl hkl).mono ?_
     rintro e w1 ⟨rfl,rfl⟩
     go_wp2_with fail
     refine(qswap k J2 B a g lf tk ys _ hq.drew.drew.drew.drew hkl hcl).mono ?_
     rintro e w2 ⟨rfl,hq2,hN2⟩
     have hN3:=hN.drew.drew.drew.drew.trans hN2
     go_wp2_with fail
     go_roundw
     case rel=>exact⟨J2,_,rfl,hq2,hN3,hp3,he3,by omega,.inr ⟨hi0,hstep⟩⟩
     case measure=>simp[intOf];omega
    ·have hd:decide (kf lf (el ys J2)<kf lf (el ys k))=false:=by simpa using hlt
     have hf:=fin_ hinv (fun i a b e=>Int.le_trans (show kf lf (el ys k)<=kf lf (el ys J2)by omega) (hmin i a b e))
     clear hlt hmin hinv h ha hc1 hik hJ hJ2
     go_wp2_with fail
     refine(qless J2 J1 B a g lf tk ys _ hq (by omega) (by omega)).mono ?_
     rintro e w1 ⟨rfl,rfl⟩
     go_wp2_with fail
     refine(qless J2 k B a g lf tk ys _ hq.drew.drew hcl hkl).mono ?_
     rintro e w1 ⟨rfl,rfl⟩
     go_wp2_with fail
     go_ret
     exact⟨_,ys,rfl,hq.drew.drew.drew.drew,hN.drew.drew.drew.drew,hp,he,hf⟩
   ·by_cases hB0:J2<n
    ·have hB1:decide ((J2:Int)<(n:Int))=true:=by simp;omega
     have hB1n:decide (J2<n)=true:=by simp;omega
     have hB3:¬(kf lf (el ys J2)<kf lf (el ys J1)):=fun e=>hB ⟨hB0,e⟩
     have hB2:decide (kf lf (el ys J2)<kf lf (el ys J1))=false:=by simpa using hB3
     have hmin:∀i,0<i->i<n->(i-1) / 2=k->kf lf (el ys J1)<=kf lf (el ys i):=fun i a b e=>by
      rcases(show i=J1\/i=J2 by omega)with rfl|rfl
      ·exact Int.le_refl _
      ·omega
     have hc1:(J1-1) / 2=k:=by omega
     have hcn:J1<n:=by omega
     have hcl:J1<ys.length:=by omega
     clear hB hA hB3
     by_cases hlt:kf lf (el ys J1)<kf lf (el ys k)
     ·have hd:decide (kf lf (el ys J1)<kf lf (el ys k))=true:=by simpa using hlt
      have hstep:=(hany hinv).step hc1 (by omega) hcn (by omega) hlt hmin
      have hp3:=(swp_perm hkl hcl).trans hp
      have he3:∀j,n<=j->el (swp ys k J1) j=el zs j:=fun j hj=>by
       rw[el_swp hkl hcl,if_neg (by omega),if_neg (by omega)];exact he j hj
      have hkc:k<J1:=by omega
      have hi0:i0<J1:=by omega
      clear hlt hmin hinv h ha hc1 hik hJ hJ2
      go_wp2_with fail
      refine(qless J2 J1 B a g lf tk ys _ hq (by omega) (by omega)).mono ?_
      rintro e w1 ⟨rfl,rfl⟩
      go_wp2_with fail
      refine(qless J1 k B a g lf tk ys _ hq.drew.drew hcl hkl).mono ?_
      rintro e w1 ⟨rfl,rfl⟩
      go_wp2_with fail
      refine(qswap k J1 B a g lf tk ys _ hq.drew.drew.drew.drew hkl hcl).mono ?_
      rintro e w2 ⟨rfl,hq2,hN2⟩
      have hN3:=hN.drew.drew.drew.drew.trans hN2
      go_wp2_with fail
      go_roundw
      case rel=>exact⟨J1,_,rfl,hq2,hN3,hp3,he3,by omega,.inr ⟨hi0,hstep⟩⟩
      case measure=>simp[intOf];omega
     ·have hd:decide (kf lf (el ys J1)<kf lf (el ys k))=false:=by simpa using hlt
      have hf:=fin_ hinv (fun i a b e=>Int.le_trans (show kf lf (el ys k)<=kf lf (el ys J1)by omega) (hmin i a b e))
      clear hlt hmin hinv h ha hc1 hik hJ hJ2
      go_wp2_with fail
      refine(qless J2 J1 B a g lf tk ys _ hq (by omega) (by omega)).mono ?_
      rintro e w1 ⟨rfl,rfl⟩
      go_wp2_with fail
      refine(qless J1 k B a g lf tk ys _ hq.drew.drew hcl hkl).mono ?_
      rintro e w1 ⟨rfl,rfl⟩
      go_wp2_with fail
      go_ret
      exact⟨_,ys,rfl,hq.drew.drew.drew.drew,hN.drew.drew.drew.drew,hp,he,hf⟩
    ·have hB1:decide ((J2:Int)<(n:Int))=false:=by simp;omega
     have hB1n:decide (J2<n)=false:=by simp;omega
     have hmin:∀i,0<i->i<n->(i-1) / 2=k->kf lf (el ys J1)<=kf lf (el ys i):=fun i a b e=>by
      obtain rfl:i=J1:=by omega
      exact Int.le_refl _
     have hc1:(J1-1) / 2=k:=by omega
     have hcn:J1<n:=by omega
     have hcl:J1<ys.length:=by omega
     clear hB hA hB0
     by_cases hlt:kf lf (el ys J1)<kf lf (el ys k)
     ·have hd:decide (kf lf (el ys J1)<kf lf (el ys k))=true:=by simpa using hlt
      have hstep:=(hany hinv).step hc1 (by omega) hcn (by omega) hlt hmin
      have hp3:=(swp_perm hkl hcl).trans hp
      have he3:∀j,n<=j->el (swp ys k J1) j=el zs j:=fun j hj=>by
       rw[el_swp hkl hcl,if_neg (by omega),if_neg (by omega)];exact he j hj
      have hkc:k<J1:=by omega
      have hi0:i0<J1:=by omega
      clear hlt hmin hinv h ha hc1 hik hJ hJ2
      go_wp2_with fail
      refine(qless J1 k B a g lf tk ys _ hq hcl hkl).mono ?_
      rintro e w1 ⟨rfl,rfl⟩
      go_wp2_with fail
      refine(qswap k J1 B a g lf tk ys _ hq.drew.drew hkl hcl).mono ?_
      rintro e w2 ⟨rfl,hq2,hN2⟩
      have hN3:=hN.drew.drew.trans hN2
      go_wp2_with fail
      go_roundw
      case rel=>exact⟨J1,_,rfl,hq2,hN3,hp3,he3,by omega,.inr ⟨hi0,hstep⟩⟩
      case measure=>simp[intOf];omega
     ·have hd:decide (kf lf (el ys J1)<kf lf (el ys k))=false:=by simpa using hlt
      have hf:=fin_ hinv (fun i a b e=>Int.le_trans (show kf lf (el ys k)<=kf lf (el ys J1)by omega) (hmin i a b e))
      clear hlt hmin hinv h ha hc1 hik hJ hJ2
      go_wp2_with fail
      refine(qless J1 k B a g lf tk ys _ hq hcl hkl).mono ?_
      rintro e w1 ⟨rfl,rfl⟩
      go_wp2_with fail
      go_ret
      exact⟨_,ys,rfl,hq.drew.drew,hN.drew.drew,hp,he,hf⟩
end Go.Proofs.YtggmdjdflaglpaaGreat
namespace Go.Proofs.YtggmdjdflaglpaaGreat
open Go.RowKit
set_option linter.unusedVariables false
theorem hpush (B a g:Nat) (lf:Nat->Int) (tk:Int) (zs:List Int) (z:Int) (w:World) (h:QI w B a g lf tk zs) (hh:Heap (kf lf) zs zs.length) (hl:zs.length<=90) (hB:B<=w.heap.size) (hz:0<=z/\z<16):
 Calls Tryz.prog 67 #[.iface 146 (.pointer (some ⟨g,0,none⟩)),.iface 3 (.int .i64 z)] w fun e w'=>e=.returned (.tuple #[])/\∃zs',QI w' B a g lf tk zs'/\Fr a g w w'/\Heap (kf lf) zs' zs'.length/\zs'.Perm (zs++[z]):=by
 have m1:=m_push g
 have m2:=m_len g
 have hup:=hh.push z
 obtain⟨ys,hys⟩:∃ys,ys=zs++[z]:=⟨_,rfl⟩
 have hyl:ys.length=zs.length+1:=by rw[hys];simp
 have hyi:((ys.length:Nat):Int)-1=(zs.length:Int):=by omega
 rw[<-hys]at hup ⊢
 have HZ:=Lib.hid hz
 clear hz
 go_enter Tryz.func67,Tryz.ntmps67
 go_wp2_with fail
 refine(qpush B a g lf tk zs z _ h (by omega) hB HZ.out).mono ?_
 rintro e w1 ⟨rfl,hq1,hN1⟩
 rw[<-hys]at hq1
 clear hys h
 go_wp2_with fail
 refine(qlen B a g lf tk ys _ hq1).mono ?_
 rintro e w2 ⟨rfl,rfl⟩
 go_wp2_with fail
 refine(up_ok g zs.length ys.length B a lf tk ys _ hq1 (by rw[hyl];exact hup) (by omega) (Nat.le_refl _) (by omega)).mono ?_
 rintro e w3 ⟨rfl,zs',hq3,hN3,hh3,hp3,_⟩
 have hl3:=hp3.length_eq
 go_wp2_with fail
 go_end0
 exact⟨rfl,zs',hq3,hN1.trans hN3,by rw[hl3];exact hh3,hp3⟩
theorem hrem_last {f:Int->Int}{ys zs:List Int}{z:Int}{m:Nat}(hp:ys.Perm zs) (hl:zs.length=m+1) (hz:el ys m=z) (hh:Heap f ys m):
 ys=ys.take m++[z]/\(ys.take m++[z]).Perm zs/\(ys.take m).length=m/\Heap f (ys.take m) (ys.take m).length:=by
 have hyl:=hp.length_eq
 have hys:=split_last (zs:=ys) (m:=m) (by omega)
 rw[hz]at hys
 have htl:(ys.take m).length=m:=by rw[List.length_take];omega
 exact⟨hys,by rw[<-hys];exact hp,htl,by rw[htl];exact hh.take⟩
set_option maxHeartbeats 2000000 in
theorem hrem (i m B a g:Nat) (lf:Nat->Int) (tk:Int) (zs:List Int) (w:World) (h:QI w B a g lf tk zs) (hh:Heap (kf lf) zs zs.length) (hm:zs.length=m+1) (hl:zs.length<=90) (hi:i<zs.length):
 Calls Tryz.prog 104 #[.iface 146 (.pointer (some ⟨g,0,none⟩)),.int .i64 i] w fun e w'=>e=.returned (.iface 3 (.int .i64 (el zs i)))/\∃zs',QI w' B a g lf tk zs'/\Fr a g w w'/\Heap (kf lf) zs' zs'.length/\(zs'++[el zs i]).Perm zs:=by
 have m1:=m_pop g
 have m2:=m_len g
 have m3:=m_swap g
 have hmi:((zs.length:Nat):Int)-1=(m:Int):=by omega
 have hm90:m<90:=by omega
 by_cases hc:m=i
 ·have ht:((m:Int) == (i:Int))=true:=by simp;omega
  have htn:(m == i)=true:=by simp;omega
  obtain⟨e1,e2,e3,e4⟩:=hrem_last (f:=kf lf) (ys:=zs) (zs:=zs) (z:=el zs i) (m:=m) (.refl _) hm (by rw[hc]) (fun k h0 h1=>hh k h0 (by omega))
  have hq1:QI w B a g lf tk (zs.take m++[el zs i]):=by rw[<-e1];exact h
  clear hc e1 hh e3
  go_enter Tryz.func104,Tryz.ntmps104
  go_wp2_with fail
  refine(qlen B a g lf tk zs _ h).mono ?_
  rintro e w1 ⟨rfl,rfl⟩
  go_wp2_with fail
  refine(qpop B a g lf tk (zs.take m) (el zs i) _ hq1).mono ?_
  rintro e w4 ⟨rfl,hq5,hN5⟩
  go_wp2_with fail
  go_ret
  exact⟨rfl,_,hq5,hN5,e4,e2⟩
 ·have ht:((m:Int) == (i:Int))=false:=by simp;omega
  have htn:(m == i)=false:=by simp;omega
  have hcut:AnyBut (kf lf) (swp zs i m) m i:=(show Heap (kf lf) zs (m+1)by rw[<-hm];exact hh).cut (by omega) (by omega)
  have hsl:=swp_len zs i m
  have hsw:=fun W hq=>qswap i m B a g lf tk zs W hq (by omega) (by omega)
  have hdn:=fun W hq=>down_ok g i m B a lf tk (swp zs i m) W hq hcut (by omega) (by omega) (by omega)
  have hlast:el (swp zs i m) m=el zs i:=by rw[el_swp (by omega) (by omega),if_pos rfl]
  have hperm:=swp_perm (zs:=zs) (i:=i) (j:=m) (by omega) (by omega)
  have him:i<m:=by omega
  go_enter Tryz.func104,Tryz.ntmps104
  go_wp2_with fail
  refine(qlen B a g lf tk zs _ h).mono ?_
  rintro e w1 ⟨rfl,rfl⟩
  go_wp2_with fail
  refine(hsw _ h).mono ?_
  rintro e w2 ⟨rfl,hq2,hN2⟩
  go_wp2_with fail
  refine(hdn _ hq2).mono ?_
  rintro e w3 ⟨b,ys,rfl,hq3,hN3,hp3,he3,hd3⟩
  rcases hd3 with⟨rfl,rfl,hu⟩|⟨rfl,hh3⟩
  ·have hup:=fun W hq=>up_ok g i m B a lf tk (swp zs i m) W hq hu him (by omega) (by omega)
   clear hsw hdn hcut h hh hu
   go_wp2_with fail
   refine(hup _ hq3).mono ?_
   rintro e w4 ⟨rfl,ys,hq4,hN4,hh4,hp4,he4⟩
   obtain⟨e1,e2,e3,e4⟩:=hrem_last (hp4.trans hperm) hm ((he4 m (Nat.le_refl _)).trans hlast) hh4
   have hq4':QI w4 B a g lf tk (ys.take m++[el zs i]):=by rw[<-e1];exact hq4
   have hN:=(hN2.trans hN3).trans hN4
   clear hup e1 hq4 hh4 hp4 he4 hp3 he3 hperm hlast hsl
   go_wp2_with fail
   refine(qpop B a g lf tk (ys.take m) (el zs i) _ hq4').mono ?_
   rintro e w5 ⟨rfl,hq5,hN5⟩
   go_wp2_with fail
   go_ret
   exact⟨rfl,_,hq5,hN.trans hN5,e4,e2⟩
  ·obtain⟨e1,e2,e3,e4⟩:=hrem_last (hp3.trans hperm) hm ((he3 m (Nat.le_refl _)).trans hlast) hh3
   have hq4':QI w3 B a g lf tk (ys.take m++[el zs i]):=by rw[<-e1];exact hq3
   have hN:=hN2.trans hN3
   clear hsw hdn hcut h hh e1 hq3 hh3 hp3 he3 hperm hlast hsl
   go_wp2_with fail
   refine(qpop B a g lf tk (ys.take m) (el zs i) _ hq4').mono ?_
   rintro e w5 ⟨rfl,hq5,hN5⟩
   go_wp2_with fail
   go_ret
   exact⟨rfl,_,hq5,hN.trans hN5,e4,e2⟩
def Idx (zs:List Int) (k r:Int):Prop:=(∃j:Nat,r=(j:Int)/\j<zs.length/\el zs j=k)\/(r=-1/\k∉zs)
theorem idx_ok (B:Nat) (zs:List Int) (k:Int) (w:World) (A:Option Addr) (cap:Nat) (h:w.ownsRow B 3 1 (.slice A zs.length cap) zs.length (ivals zs)) (hl:zs.length<=100):
 Calls Tryz.prog 103 #[.slice A zs.length cap,.int .i64 k] w fun e w'=>∃r,e=.returned (.int .i64 r)/\Idx zs k r/\w=w':=by
 by_cases h0:zs=[]
 ·subst h0
  have hx:((0:Nat):Int)=0:=rfl
  clear h
  go_enter Tryz.func103,Tryz.ntmps103
  go_wp2_with fail
  go_loopw [8] (fun i wr=>i=.int .i64 0/\w=wr) (fun _ _=>0)
  case atStart=>exact⟨rfl,rfl⟩
  case round=>
   obtain⟨rfl,rfl⟩:=hrel
   go_wp2_with fail
   go_ret
   exact⟨_,rfl,.inr ⟨rfl,by simp⟩,rfl⟩
 ·obtain⟨_,h1⟩:=h
  have hpos:0<zs.length:=List.length_pos_iff.2 h0
  rcases h1 with⟨_,h1⟩|⟨r,c,cur,a1,a2,a3,a4,a5,a6,a7⟩
  ·omega
  ·injection a1 with b1 b2 b3
   subst b1
   have hc:∀j,j<zs.length->w.cell? ⟨r,j,none⟩=some (.int .i64 (el zs j)):=fun j hj=>by
    rw[cell_of_row w r j cur 3 (0,0) a3]
    have e:(cur.toList.take (zs.length*1))[j]? =some (.int .i64 (el zs j)):=by
     rw[a7];unfold ivals
     rw[List.getElem?_map,el_get hj];rfl
    rw[List.getElem?_take,if_pos (by omega)]at e
    simpa using e
   clear a2 a3 a4 a5 a6 a7 b2 b3 h0
   go_enter Tryz.func103,Tryz.ntmps103
   go_wp2_with fail
   go_loopw [8] (fun i wr=>∃j:Nat,i=.int .i64 j/\w=wr/\j<=zs.length/\∀i,i<j->el zs i≠k) (fun i _=>zs.length-(intOf i).toNat)
   case atStart=>exact⟨0,rfl,rfl,by omega,fun i hi=>by omega⟩
   case round=>
    obtain⟨j,rfl,rfl,hj,hne⟩:=hrel
    by_cases hlt:j<zs.length
    ·have j0:(0:Int)<=(j:Int):=by omega
     have j1:(j:Int)<(zs.length:Int):=by omega
     have hcj:=hc j hlt
     by_cases he:k=el zs j
     ·have hE:(k == el zs j)=true:=by simpa using he
      have hfin:Idx zs k j:=.inl ⟨j,rfl,hlt,he.symm⟩
      clear he hne hc
      go_wp2_with fail
      go_ret
      exact⟨_,rfl,hfin,rfl⟩
     ·have hE:(k == el zs j)=false:=by simpa using he
      have hne2:∀i,i<j+1->el zs i≠k:=fun i hi=>by
       by_cases e:i=j
       ·rw[e];exact fun e=>he e.symm
       ·exact hne i (by omega)
      clear he hne hc
      go_wp2_with fail
      go_roundw
      case rel=>exact⟨j+1,by go_num,trivial,by omega,hne2⟩
      case measure=>simp[intOf];omega
    ·have hd:decide (j<zs.length)=false:=by simpa using hlt
     have hd2:decide ((j:Int)<(zs.length:Int))=false:=by simp;omega
     have hfin:Idx zs k (-1):=.inr ⟨rfl,fun hm=>by
      obtain⟨i,hi,e⟩:=mem_el hm
      exact hne i (by omega) e⟩
     clear hne hc
     go_wp2_with fail
     go_ret
     exact⟨_,rfl,hfin,rfl⟩
theorem Idx.iff {zs:List Int}{k r:Int}(h:Idx zs k r):decide (0<=r)=decide (k∈zs):=by
 rcases h with⟨j,rfl,hj,rfl⟩|⟨rfl,hn⟩
 ·have:=el_mem hj
  simp[this]
 ·simp[hn]
end Go.Proofs.YtggmdjdflaglpaaGreat
namespace Go.Proofs.YtggmdjdflaglpaaGreat
open Go.RowKit
set_option linter.unusedVariables false
def dl (k:Int) (L:List Int):List Int:=L.filter (fun z=>decide (z≠k))
theorem mem_dl {k z:Int}{L:List Int}:z∈dl k L↔z∈L/\z≠k:=by unfold dl;simp
theorem dl_not {k:Int}{L:List Int}(h:k∉L):dl k L=L:=by
 unfold dl
 rw[List.filter_eq_self]
 intro z hz
 simp only[decide_eq_true_eq]
 rintro rfl
 exact h hz
def AI (w:World) (B a g T:Nat) (L:List Int):Prop:=
 ∃lf tk zs,QI w B a g lf tk zs/\Heap (kf lf) zs zs.length/\zs.Perm L/\L.Nodup/\L.Pairwise (fun x y=>kf lf x<kf lf y)/\(∀z∈L,kf lf z<=tk)/\0<=tk/\tk<=T
theorem few {zs:List Int}(hn:zs.Nodup) (hr:∀z∈zs,0<=z/\z<16):zs.length<=16:=by
 have hp:zs.Perm (((List.range 16).filter (fun k:Nat=>decide ((k:Int)∈zs))).map (fun k:Nat=>(k:Int))):=by
  refine(List.perm_ext_iff_of_nodup hn ?_).2 fun z=>?_
  ·unfold List.Nodup
   rw[List.pairwise_map]
   exact((List.nodup_range (n:=16)).filter _).imp (fun h e=>h (by omega))
  ·simp only[List.mem_map,List.mem_filter,List.mem_range,decide_eq_true_eq]
   constructor
   ·intro h
    obtain⟨a,b⟩:=hr z h
    exact⟨z.toNat,⟨by omega,by rwa[Int.toNat_of_nonneg a]⟩,Int.toNat_of_nonneg a⟩
   ·rintro⟨k,⟨_,h⟩,rfl⟩
    exact h
 rw[hp.length_eq,List.length_map]
 have:=List.length_filter_le (fun k:Nat=>decide ((k:Int)∈zs)) (List.range 16)
 rwa[List.length_range]at this
section
variable {w w':World}{B a g T:Nat}{L:List Int}
theorem AI.drew (h:AI w B a g T L):AI w.drew B a g T L:=h
theorem AI.same (h:AI w B a g T L) (hk:∀x,(x=a\/x=g\/At w g x)->w'.heap[x]? =w.heap[x]?):AI w' B a g T L:=by
 obtain⟨lf,tk,zs,hq,h2⟩:=h
 exact⟨lf,tk,zs,hq.same hk,h2⟩
theorem AI.range (h:AI w B a g T L):∀z∈L,0<=z/\z<16:=by
 obtain⟨lf,tk,zs,⟨_,_,_,_,_,_,_,h6⟩,_,hp,_⟩:=h
 exact fun z hz=>h6 z (hp.mem_iff.2 hz)
theorem AI.nodup (h:AI w B a g T L):L.Nodup:=by
 obtain⟨lf,tk,zs,_,_,_,hn,_⟩:=h
 exact hn
theorem AI.len (h:AI w B a g T L):L.length<=16:=few h.nodup h.range
theorem AI.rows (h:AI w B a g T L):∀s,At w g s->B<=s/\s<w.heap.size/\∃cs,Blk w s 3 cs:=by
 obtain⟨lf,tk,zs,hq,_⟩:=h
 exact hq.rows
theorem AI.mono {T':Nat}(h:AI w B a g T L) (hT:T<=T'):AI w B a g T' L:=by
 obtain⟨lf,tk,zs,hq,h2,h3,h4,h5,h6,h7,h8⟩:=h
 exact⟨lf,tk,zs,hq,h2,h3,h4,h5,h6,h7,by omega⟩
end
theorem alen_ok (B a g T:Nat) (L:List Int) (w:World) (h:AI w B a g T L):
 Calls Tryz.prog 184 #[.pointer (some ⟨a,0,none⟩)] w fun e w'=>e=.returned (.int .i64 L.length)/\w=w':=by
 obtain⟨lf,tk,zs,hq,_,hp,_⟩:=h
 have hl:=hp.length_eq
 have hq':=hq
 obtain⟨A,cap,hb,_,_,ha,_⟩:=hq'
 have c17:w.cell? ⟨a,17,none⟩=some (.pointer (some ⟨g,0,none⟩)):=ha.cell_ 17 rfl
 have l0:=ha.lt
 rw[<-hl]
 clear hp hl hb ha
 go_enter Tryz.func184,Tryz.ntmps184
 go_wp2_with fail
 refine(qlen B a g lf tk zs _ hq).mono ?_
 rintro e w1 ⟨rfl,rfl⟩
 go_wp2_with fail
 go_ret
 exact⟨rfl,rfl⟩
theorem alen_nil (w:World):Calls Tryz.prog 184 #[.pointer none] w fun e w'=>e=.returned (.int .i64 0)/\w=w':=by
 go_enter Tryz.func184,Tryz.ntmps184
 go_wp2_with fail
 go_ret
 exact⟨rfl,rfl⟩
def om (L:List Int):Int:=if L=[]then 0 else el L 0
theorem old_ok (B a g T:Nat) (L:List Int) (w:World) (h:AI w B a g T L):
 Calls Tryz.prog 176 #[.pointer (some ⟨a,0,none⟩)] w fun e w'=>e=.returned (.tuple #[.int .i64 (om L),.bool (!decide (L=[]))])/\w=w':=by
 have h':=h
 obtain⟨lf,tk,zs,hq,hh,hp,hn,hpw,_⟩:=h'
 by_cases h0:L=[]
 ·subst h0
  clear hq hh hp hn hpw
  go_enter Tryz.func176,Tryz.ntmps176
  go_wp2_with fail
  refine(alen_ok B a g T [] _ h).mono ?_
  rintro e w1 ⟨rfl,rfl⟩
  go_wp2_with fail
  go_ret2
  exact⟨rfl,rfl⟩
 ·have hlp:0<L.length:=List.length_pos_iff.2 h0
  have hl:=hp.length_eq
  have hz:((L.length:Int) == 0)=false:=by simp;omega
  obtain⟨r,cap,cur,hb,_,_,hc,h1,h2,h3,h4,ha,_⟩:=hq.row (by omega)
  have hm:el zs 0=el L 0:=by
   have hin:el zs 0∈L:=hp.mem_iff.1 (el_mem (by omega))
   obtain⟨k,hk,he⟩:=mem_el hin
   by_cases hk0:k=0
   ·rw[<-he,hk0]
   ·have a1:kf lf (el L 0)<kf lf (el L k):=by
     have:=List.pairwise_iff_getElem.1 hpw 0 k hlp hk (by omega)
     rwa[el_at hlp,el_at hk]at this
    have hin2:el L 0∈zs:=hp.mem_iff.2 (el_mem hlp)
    obtain⟨j,hj,hje⟩:=mem_el hin2
    have a2:=hh.least j hj
    rw[hje,<-he]at a2
    omega
  have c17:w.cell? ⟨a,17,none⟩=some (.pointer (some ⟨g,0,none⟩)):=ha.cell_ 17 rfl
  have c0:w.cell? ⟨g,0,none⟩=some (.slice (some ⟨r,0,none⟩) zs.length cap):=hb.cell_ 0 rfl
  have cr:w.cell? ⟨r,0,none⟩=some (.int .i64 (el zs 0)):=hc.cell_ 0 (h4 0 (by omega))
  have l1:=ha.lt
  have l2:=hb.lt
  have l3:=hc.lt
  have hpos:(0:Int)<(zs.length:Int):=by omega
  have e1:(!decide (L=[]))=true:=by simpa using h0
  have e2:om L=el zs 0:=by unfold om;rw[if_neg h0,hm]
  rw[e1,e2]
  clear hq hh hp hn hpw hb hc h1 h2 h3 h4 ha hm e1 e2 h0 hl
  go_enter Tryz.func176,Tryz.ntmps176
  go_wp2_with fail
  refine(alen_ok B a g T L _ h).mono ?_
  rintro e w1 ⟨rfl,rfl⟩
  go_wp2_with fail
  go_ret2
  exact⟨rfl,rfl⟩
theorem old_nil (w:World):Calls Tryz.prog 176 #[.pointer none] w fun e w'=>e=.returned (.tuple #[.int .i64 0,.bool false])/\w=w':=by
 go_enter Tryz.func176,Tryz.ntmps176
 go_wp2_with fail
 refine(alen_nil _).mono ?_
 rintro e w1 ⟨rfl,rfl⟩
 go_wp2_with fail
 go_ret2
 exact⟨rfl,rfl⟩
theorem drop_ok (B a g T:Nat) (L:List Int) (k:Int) (w:World) (h:AI w B a g T L):
 Calls Tryz.prog 66 #[.pointer (some ⟨a,0,none⟩),.int .i64 k] w fun e w'=>e=.returned (.bool (decide (k∈L)))/\AI w' B a g T (dl k L)/\Fr a g w w':=by
 have hlen:=h.len
 have h':=h
 obtain⟨lf,tk,zs,hq,hh,hp,hn,hpw,ht,ht0,htT⟩:=h'
 have hl:=hp.length_eq
 have hq':=hq
 obtain⟨A,cap,hb,_,ho,ha,_⟩:=hq'
 have c17:w.cell? ⟨a,17,none⟩=some (.pointer (some ⟨g,0,none⟩)):=ha.cell_ 17 rfl
 have c0:w.cell? ⟨g,0,none⟩=some (.slice A zs.length cap):=hb.cell_ 0 rfl
 have l1:=ha.lt
 have l2:=hb.lt
 have hz90:zs.length<=90:=by omega
 clear hl
 by_cases hk:k∈L
 ·have e1:decide (k∈L)=true:=by simpa using hk
  rw[e1]
  have hkz:=hp.mem_iff.2 hk
  have HK:=Lib.hid hkz
  have HP:=Lib.hid (show Heap (kf lf) zs zs.length/\zs.Perm L/\L.Nodup/\L.Pairwise (fun x y=>kf lf x<kf lf y)/\(∀z∈L,kf lf z<=tk)/\0<=tk/\tk<=T from⟨hh,hp,hn,hpw,ht,ht0,htT⟩)
  clear hb ha e1 hk hkz hh hp hn hpw ht h
  go_enter Tryz.func66,Tryz.ntmps66
  go_wp2_with fail
  refine(idx_ok B zs k _ A cap ho (by omega)).mono ?_
  rintro e w1 ⟨r,rfl,hr,rfl⟩
  obtain⟨j,rfl,hj,hje⟩:=hr.resolve_right (fun c=>c.2 HK.out)
  have j0:decide ((j:Int)<0)=false:=by simp
  obtain⟨m,hm⟩:∃m,zs.length=m+1:=⟨zs.length-1,by omega⟩
  have HM:=Lib.hid hm
  clear hm ho hr
  go_wp2_with fail
  refine(hrem j m B a g lf tk zs _ hq HP.out.1 HM.out hz90 hj).mono ?_
  rintro e w2 ⟨rfl,zs',hq2,hF,hh2,hp2⟩
  rw[hje]at hp2
  obtain⟨hh,hp,hn,hpw,ht,ht0,htT⟩:=HP.out
  have hnd:=hp2.symm.nodup (hp.symm.nodup hn)
  have hnd2:(dl k L).Nodup:=hn.filter _
  have hp3:zs'.Perm (dl k L):=(List.perm_ext_iff_of_nodup (List.nodup_append.1 hnd).1 hnd2).2 fun z=>by
   rw[mem_dl,<-hp.mem_iff,<-hp2.mem_iff,List.mem_append,List.mem_singleton]
   constructor
   ·intro c
    exact⟨.inl c,(List.nodup_append.1 hnd).2.2 z c k (by simp)⟩
   ·rintro⟨c|c,d⟩
    ·exact c
    ·exact absurd c d
  have hA:AI w2 B a g T (dl k L):=⟨lf,tk,zs',hq2,hh2,hp3,hnd2,hpw.filter _,fun z hz=>ht z (mem_dl.1 hz).1,ht0,htT⟩
  clear HP hh hp hn hpw ht hnd hnd2 hp3 hp2 hq2 hh2 hq HK HM
  go_wp2_with fail
  go_ret
  exact⟨rfl,hA,hF⟩
 ·have e1:decide (k∈L)=false:=by simpa using hk
  rw[e1,dl_not hk]
  have hkz:k∉zs:=fun c=>hk (hp.mem_iff.1 c)
  have HK:=Lib.hid hkz
  clear hb ha e1 hk hkz hh hp hn hpw ht
  go_enter Tryz.func66,Tryz.ntmps66
  go_wp2_with fail
  refine(idx_ok B zs k _ A cap ho (by omega)).mono ?_
  rintro e w1 ⟨r,rfl,hr,rfl⟩
  obtain⟨rfl,_⟩:=hr.resolve_left (fun⟨j,_,hj,hje⟩=>HK.out (hje▸el_mem hj))
  go_wp2_with fail
  go_ret
  exact⟨rfl,h,Fr.refl _ _ _⟩
theorem atouch_nil (k:Int) (w:World):Calls Tryz.prog 42 #[.pointer none,.int .i64 k] w fun e w'=>e=.returned (.bool false)/\w=w':=by
 go_enter Tryz.func42,Tryz.ntmps42
 go_wp2_with fail
 go_ret
 exact⟨rfl,rfl⟩
theorem touch_no (a:Nat) (k:Int) (w:World) (hk:k<0\/16<=k):Calls Tryz.prog 42 #[.pointer (some ⟨a,0,none⟩),.int .i64 k] w fun e w'=>e=.returned (.bool false)/\w=w':=by
 rcases(show k<0\/(0<=k/\16<=k)by omega)with h|⟨h,h2⟩
 all_goals
  clear hk
  go_enter Tryz.func42,Tryz.ntmps42
  go_wp2_with fail
  go_ret
  exact⟨rfl,rfl⟩
set_option maxHeartbeats 2000000 in
theorem touch_ok (B a g T k:Nat) (L:List Int) (w:World) (h:AI w B a g T L) (hB:B<=w.heap.size) (hT:T<=1000) (hk:k<16):
 Calls Tryz.prog 42 #[.pointer (some ⟨a,0,none⟩),.int .i64 k] w fun e w'=>e=.returned (.bool true)/\AI w' B a g (T+1) (dl k L++[(k:Int)])/\Fr a g w w':=by
 have i0:(0:Int)<=(k:Int):=by omega
 have i1:(k:Int)<16:=by omega
 have i2:decide ((16:Int)<=(k:Int))=false:=by simp;omega
 go_enter Tryz.func42,Tryz.ntmps42
 go_wp2_with fail
 refine(drop_ok B a g T L k _ h).mono ?_
 rintro e w1 ⟨rfl,hA,hF⟩
 have hlen:=hA.len
 have hkn:(k:Int)∉dl k L:=fun c=>(mem_dl.1 c).2 rfl
 obtain⟨lf,tk,zs,hq,hh,hp,hn,hpw,ht,ht0,htT⟩:=hA
 obtain⟨L',hL'⟩:∃L',L'=dl k L:=⟨_,rfl⟩
 rw[<-hL']at hlen hkn hp hn hpw ht
 have HL:=Lib.hid hL'
 have hq':=hq
 obtain⟨A,cap,hb,hBg,ho,ha,hBa,h6⟩:=hq'
 have hne:=hq.ne
 have c16:w1.cell? ⟨a,16,none⟩=some (.int .i64 tk):=ha.cell_ 16 rfl
 have f16:=ha.frozen 16
 have fk:=ha.frozen k
 have la:=ha.lt
 have a2:=ha.set_to 16 (.int .i64 (tk+1)) (acells_tick lf tk g (tk+1))
 have a3:=a2.set_to k (.int .i64 (tk+1)) (acells_set lf (tk+1) g hk (tk+1))
 have d16:(w1.setCell ⟨a,16,none⟩ (.int .i64 (tk+1))).cell? ⟨a,16,none⟩=some (.int .i64 (tk+1)):=a2.cell_ 16 rfl
 have dk:(w1.setCell ⟨a,16,none⟩ (.int .i64 (tk+1))).cell? ⟨a,k,none⟩=some (.int .i64 (lf k)):=a2.cell_ k (acells_at _ _ _ hk)
 have c17:((w1.setCell ⟨a,16,none⟩ (.int .i64 (tk+1))).setCell ⟨a,k,none⟩ (.int .i64 (tk+1))).cell? ⟨a,17,none⟩=some (.pointer (some ⟨g,0,none⟩)):=a3.cell_ 17 rfl
 have F1:=Fr.setOld (g:=g) (i:=16) ha (.inr rfl) hne (.int .i64 (tk+1))
 have F2:=Fr.setOld (g:=g) (i:=k) a2 (.inr rfl) hne (.int .i64 (tk+1))
 have hF2:=hF.trans (F1.trans F2)
 have hq2:QI ((w1.setCell ⟨a,16,none⟩ (.int .i64 (tk+1))).setCell ⟨a,k,none⟩ (.int .i64 (tk+1))) B a g (fun i=>if i=k then tk+1 else lf i) (tk+1) zs:=by
  refine⟨A,cap,(hb.far (p:=⟨a,16,none⟩) (Ne.symm hne) _).far (p:=⟨a,k,none⟩) (Ne.symm hne) _,hBg,⟨ho.1,?_⟩,a3,hBa,h6⟩
  rcases ho.2 with h4|⟨r,c,cur,b1,b2,b3,b4⟩
  ·exact .inl h4
  ·have hra:=(show Blk w1 r 3 cur from b3).ne_ ha (by decide)
   exact .inr ⟨r,c,cur,b1,b2,((show Blk w1 r 3 cur from b3).far (p:=⟨a,16,none⟩) hra _).far (p:=⟨a,k,none⟩) hra _,b4⟩
 have hkf:∀z,z∈L'->kf (fun i=>if i=k then tk+1 else lf i) z=kf lf z:=fun z hz=>by
  have hz0:=h6 z (hp.mem_iff.2 hz)
  show(if z.toNat=k then tk+1 else lf z.toNat)=lf z.toNat
  rw[if_neg (fun e=>hkn (by have:z=(k:Int):=by omega
                            rw[<-this];exact hz))]
 have hkk:kf (fun i=>if i=k then tk+1 else lf i) (k:Int)=tk+1:=by simp[kf]
 have hh2:Heap (kf (fun i=>if i=k then tk+1 else lf i)) zs zs.length:=fun i p0 p1=>by
  rw[hkf _ (hp.mem_iff.1 (el_mem (by omega))),hkf _ (hp.mem_iff.1 (el_mem p1))]
  exact hh i p0 p1
 have hpl:=hp.length_eq
 have hz90:zs.length<=90:=by omega
 have HP:=Lib.hid (show zs.Perm L'/\L'.Nodup/\L'.Pairwise (fun x y=>kf lf x<kf lf y)/\(∀z∈L',kf lf z<=tk)/\(∀z,z∈L'->kf (fun i=>if i=k then tk+1 else lf i) z=kf lf z)/\(k:Int)∉L'/\kf (fun i=>if i=k then tk+1 else lf i) (k:Int)=tk+1 from⟨hp,hn,hpw,ht,hkf,hkn,hkk⟩)
 have HF:=Lib.hid hF2
 have HQ:=Lib.hid (And.intro hq2 hh2)
 have hsz:=hF.1.size
 clear hp hn hpw ht hkf hkn hkk hpl hF2 hq2 hh2 F1 F2 a2 a3 hb ho hh hq hF h hL' hlen h6 ha
 obtain⟨lf',hlf'⟩:∃lf':Nat->Int,lf'=fun i=>if i=k then tk+1 else lf i:=⟨_,rfl⟩
 rw[<-hlf']at HP HQ
 clear hlf'
 go_wp2_with fail
 go_region
 have HZ:=Lib.hid (And.intro i0 i1)
 clear c16 d16 dk f16 fk
 go_wp2_with fail
 refine(hpush B a g lf' (tk+1) zs k _ (QI.drew HQ.out.1) HQ.out.2 hz90 (by simp;omega) HZ.out).mono ?_
 rintro e w2 ⟨rfl,zs',hq3,hF3,hh3,hp3⟩
 obtain⟨hp,hn,hpw,ht,hkf,hkn,hkk⟩:=HP.out
 have hA:AI w2 B a g (T+1) (L'++[(k:Int)]):=by
  refine⟨lf',tk+1,zs',hq3,hh3,hp3.trans (hp.append_right _),?_,?_,?_,by omega,by omega⟩
  ·rw[List.nodup_append]
   exact⟨hn,by simp,fun x hx y hy=>by rw[List.mem_singleton]at hy;subst hy;rintro rfl;exact hkn hx⟩
  ·rw[List.pairwise_append]
   refine⟨hpw.imp_of_mem (fun hx hy hxy=>by rw[hkf _ hx,hkf _ hy];exact hxy),by simp,fun x hx y hy=>?_⟩
   rw[List.mem_singleton]at hy
   subst hy
   rw[hkk,hkf _ hx]
   have:=ht x hx
   omega
  ·intro z hz
   rw[List.mem_append,List.mem_singleton]at hz
   rcases hz with hz|rfl
   ·rw[hkf _ hz]
    have:=ht z hz
    omega
   ·rw[hkk];omega
 rw[HL.out]at hA
 have hF4:=HF.out.drew.trans hF3
 clear HP HQ HF HZ hp hn hpw ht hkf hkn hkk hq3 hh3 hp3 c17 HL
 go_wp2_with fail
 go_ret
 exact⟨rfl,hA,hF4⟩
theorem anew_ok (w:World):Calls Tryz.prog 41 #[] w fun e w'=>e=.returned (.pointer (some ⟨w.heap.size,0,none⟩))/\AI w' w.heap.size w.heap.size (w.heap.size+1) 0 []/\Below w.heap.size w w':=by
 have hb:Blk ((w.alloc (.cells (acells (fun _=>0) 0 (w.heap.size+1)) 148)).alloc (.cells #[.slice none 0 0,.func (.func 65) #[.pointer (some ⟨w.heap.size,0,none⟩)] #[]] 151)) (w.heap.size+1) 151 #[.slice none 0 0,.func (.func 65) #[.pointer (some ⟨w.heap.size,0,none⟩)] #[]]:=by
  have:=Blk.new (w.alloc (.cells (acells (fun _=>0) 0 (w.heap.size+1)) 148)) 151 #[.slice none 0 0,.func (.func 65) #[.pointer (some ⟨w.heap.size,0,none⟩)] #[]]
  rwa[World.size_alloc]at this
 have hA:AI ((w.alloc (.cells (acells (fun _=>0) 0 (w.heap.size+1)) 148)).alloc (.cells #[.slice none 0 0,.func (.func 65) #[.pointer (some ⟨w.heap.size,0,none⟩)] #[]] 151)) w.heap.size w.heap.size (w.heap.size+1) 0 []:=
  ⟨fun _=>0,0,[],⟨none,0,hb,by omega,World.ownsRow_nil _ _ _ _,(Blk.new w 148 _).alloc _,Nat.le_refl _,fun z hz=>by simp at hz⟩,fun i h0 h1=>by simp at h1,.refl _,.nil,.nil,fun z hz=>by simp at hz,by omega,by omega⟩
 have hbel:Below w.heap.size w ((w.alloc (.cells (acells (fun _=>0) 0 (w.heap.size+1)) 148)).alloc (.cells #[.slice none 0 0,.func (.func 65) #[.pointer (some ⟨w.heap.size,0,none⟩)] #[]] 151)):=((Below.refl _ _).alloc (Nat.le_refl _) _).alloc (by simp) _
 have HA:=Lib.hid (And.intro hA hbel)
 clear hb hA hbel
 go_enter Tryz.func41,Tryz.ntmps41
 go_wp2_with fail
 go_ret
 exact⟨rfl,HA.out.1,HA.out.2⟩
theorem drop_nil (k:Int) (w:World):Calls Tryz.prog 66 #[.pointer none,.int .i64 k] w fun e w'=>e=.returned (.bool false)/\w=w':=by
 go_enter Tryz.func66,Tryz.ntmps66
 go_wp2_with fail
 go_ret
 exact⟨rfl,rfl⟩
end Go.Proofs.YtggmdjdflaglpaaGreat
