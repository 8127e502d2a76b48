/- The cache: its piece of the world; head, isFree. The cache: isFree. The cache: free. slices.Clone of leaves. The cache: slot. -/
import Derived.Test.YtggmdjdflaglpaaGreatR23
import Derived.Test.YtggmdjdflaglpaaGreatR25
namespace Go.Proofs.YtggmdjdflaglpaaGreat
open Go.RowKit Go.Proofs.YtggmdjdflaglpaaGreat.geo
set_option linter.unusedVariables false
structure Cch where
 W:Wld
 M:Mk
 now:List Lf
 was:List Lf
 age:List Int
 T:Nat
 pois:Bool
def AgeR (ρ:Rl) (w:World) (ag T:Nat) (L:List Int):Prop:=∃g,AI w 0 ag g T L/\ρ ag=rAge/\ρ g=rAge/\∀s,At w g s->ρ s=rAge
def CchR (ρ:Rl) (w:World) (a:Ads) (cc m ag:Nat) (C:Cch):Prop:=
 ∃vn vw,Blk w cc 107 #[.pointer (some ⟨a.wl,0,none⟩),.pointer (some ⟨m,0,none⟩),vn,vw,.pointer (some ⟨ag,0,none⟩),.bool C.pois]/\ρ cc=rCch/\WldR ρ w a C.W/\MkR ρ w m C.M/\LvsP (ρ · =rNow) w vn C.now/\LvsP (ρ · =rWas) w vw C.was/\AgeR ρ w ag C.T C.age
def headB (k:Nat):By:=putB k 2
theorem head_ok (k:Nat) (w:World) (h:k<32):Calls Tryz.prog 151 #[.int .i64 k] w fun e w'=>∃v,e=.returned v/\OwnB w.heap.size w' v (headB k)/\Below w.heap.size w w':=by
 have k0:(0:Int)<=(k:Int):=by omega
 have k1:(k:Int)<32:=by omega
 have wk:=IntWalk.u64_in (k:Int) ⟨by omega,by omega⟩
 go_enter Tryz.func151,Tryz.ntmps151
 go_wp2_with fail
 refine(put2_ok _ _ (by omega) (by omega)).mono ?_
 rintro e w1 ⟨v,rfl,o,q⟩
 clear wk
 go_wp2_with fail
 go_ret
 exact⟨_,rfl,o,q⟩
end Go.Proofs.YtggmdjdflaglpaaGreat
namespace Go.Proofs.YtggmdjdflaglpaaGreat
open Go.RowKit Go.Proofs.YtggmdjdflaglpaaGreat.geo
set_option linter.unusedVariables false
def freeAt (now was:List Lf) (i:Nat):Bool:=decide (((now.getD i Lf.no).kind:Int)=0)&&decide (((was.getD i Lf.no).kind:Int)=0)
theorem LvsP.kind {p:Nat->Prop}{w:World}{v:Value}{ls:List Lf}(h:LvsP p w v ls) {i:Nat}(hi:i<ls.length):∃g cap,v=.slice (some ⟨g,0,none⟩) ls.length cap/\g<w.heap.size/\w.cell? ⟨g,i*8,none⟩=some (.int .i64 ((ls.getD i Lf.no).kind:Int)):=by
 obtain⟨g,cap,rr,rfl,_,hb⟩:=h
 have hl:ls[i]? =some (ls.getD i Lf.no):=by rw[List.getD_eq_getElem?_getD,List.getElem?_eq_getElem hi];rfl
 have:=hb.leaf hl 0 _ rfl
 exact⟨g,cap,rfl,hb.lt,by simpa using this⟩
theorem isfree_ok (ρ:Rl) (a:Ads) (cc m ag:Nat) (C:Cch) (i:Nat) (w:World) (h:CchR ρ w a cc m ag C) (h1:i<C.now.length) (h2:C.was.length=C.now.length) (h3:C.now.length<=16):
 Calls Tryz.prog 153 #[.pointer (some ⟨cc,0,none⟩),.int .i64 i] w fun e w'=>e=.returned (.bool (freeAt C.now C.was i))/\w=w':=by
 obtain⟨vn,vw,hb,_,_,_,hn,hw,_⟩:=h
 obtain⟨g1,p1,rfl,l1,k1⟩:=hn.kind h1
 obtain⟨g2,p2,rfl,l2,k2⟩:=hw.kind (i:=i) (by omega)
 rw[h2]at hb
 have c2:=hb.cell_ 2 rfl
 have c3:=hb.cell_ 3 rfl
 have lc:=hb.lt
 obtain⟨n,hn'⟩:∃n,n=C.now.length:=⟨_,rfl⟩
 have m0:(0:Int)<=(i:Int):=by omega
 have m1:(i:Int)<(n:Int):=by omega
 obtain⟨x,hx⟩:∃x:Int,x=((C.now.getD i Lf.no).kind:Int):=⟨_,rfl⟩
 obtain⟨y,hy⟩:∃y:Int,y=((C.was.getD i Lf.no).kind:Int):=⟨_,rfl⟩
 have hR:freeAt C.now C.was i=(decide (x=0)&&decide (y=0)):=by rw[hx,hy];rfl
 rw[hR]
 rw[<-hn']at c2 c3
 rw[<-hx]at k1
 rw[<-hy]at k2
 clear hR hx hy hn' hn hw hb h1 h2 h3
 by_cases e:x=0
 ·subst e
  by_cases e2:y=0
  ·subst e2
   go_enter Tryz.func153,Tryz.ntmps153
   go_wp2_with fail
   go_ret
   exact⟨by simp,rfl⟩
  ·have t:(y == 0)=false:=by simpa using e2
   go_enter Tryz.func153,Tryz.ntmps153
   go_wp2_with fail
   go_ret
   exact⟨by simp[e2],rfl⟩
 ·have t:(x == 0)=false:=by simpa using e
  go_enter Tryz.func153,Tryz.ntmps153
  go_wp2_with fail
  go_ret
  exact⟨by simp[e],rfl⟩
end Go.Proofs.YtggmdjdflaglpaaGreat
namespace Go.Proofs.YtggmdjdflaglpaaGreat
open Go.RowKit Go.Proofs.YtggmdjdflaglpaaGreat.geo
set_option linter.unusedVariables false
def freeFrom (now was:List Lf) (n i:Nat):Int:=match (List.range' i (n-i)).find? (freeAt now was)with|some k=>(k:Int)|none=>-1
theorem freeFrom_no {now was:List Lf}{n i:Nat}(h:i<n) (hf:freeAt now was i=false):freeFrom now was n i=freeFrom now was n (i+1):=by
 unfold freeFrom
 have e:n-i=(n-(i+1))+1:=by omega
 rw[e,List.range'_succ,List.find?_cons,hf]
theorem freeFrom_yes {now was:List Lf}{n i:Nat}(h:i<n) (hf:freeAt now was i=true):freeFrom now was n i=i:=by
 unfold freeFrom
 have e:n-i=(n-(i+1))+1:=by omega
 rw[e,List.range'_succ,List.find?_cons,hf]
theorem freeFrom_end (now was:List Lf) (n:Nat):freeFrom now was n n=-1:=by
 unfold freeFrom
 rw[Nat.sub_self]
 rfl
def free (C:Cch):Int:=freeFrom C.now C.was C.now.length 0
theorem free_ok (ρ:Rl) (a:Ads) (cc m ag:Nat) (C:Cch) (w:World) (h:CchR ρ w a cc m ag C) (h2:C.was.length=C.now.length) (h3:C.now.length<=16):
 Calls Tryz.prog 116 #[.pointer (some ⟨cc,0,none⟩)] w fun e w'=>e=.returned (.int .i64 (free C))/\w=w':=by
 have hif:=fun i hi=>isfree_ok ρ a cc m ag C i w h hi h2 h3
 obtain⟨vn,vw,hb,_,_,_,⟨g1,p1,rr1,rfl,_⟩,_⟩:=h
 have c2:=hb.cell_ 2 rfl
 have lc:=hb.lt
 unfold free
 obtain⟨n,hn⟩:∃n,n=C.now.length:=⟨_,rfl⟩
 rw[<-hn]at c2 h3 hif ⊢
 obtain⟨R,hR⟩:∃R,R=freeFrom C.now C.was n 0:=⟨_,rfl⟩
 rw[<-hR]
 have HR:=Lib.hid hR
 clear hb hn hR h2
 go_enter Tryz.func116,Tryz.ntmps116
 go_wp2_with fail
 go_loopw [3,9] (fun _ t wr=>∃i:Nat,t=.int .i64 i/\i<=n/\Hid (R=freeFrom C.now C.was n i)/\wr=w) (fun _ t _=>n-(intOf t).toNat)
 case atStart=>exact⟨0,rfl,by omega,HR,rfl⟩
 case round=>
  obtain⟨i,rfl,hi,hF,rfl⟩:=hrel
  clear HR
  by_cases hlt:i<n
  ·have m0:(0:Int)<=(i:Int):=by omega
   have m1:(i:Int)<(n:Int):=by omega
   have hc:=hif i hlt
   cases hfa:freeAt C.now C.was i with
   |true=>
    rw[hfa]at hc
    have HA:=Lib.hid hfa
    clear hfa hif
    go_wp2_with fail
    refine hc.mono ?_
    rintro e w1 ⟨rfl,rfl⟩
    clear hc
    go_wp2_with fail
    go_ret
    exact⟨by rw[hF.out,freeFrom_yes hlt HA.out];rfl,rfl⟩
   |false=>
    rw[hfa]at hc
    have HA:=Lib.hid hfa
    clear hfa hif
    go_wp2_with fail
    refine hc.mono ?_
    rintro e w1 ⟨rfl,rfl⟩
    clear hc
    go_wp2_with fail
    go_roundw
    case rel=>exact⟨i+1,by go_num,by omega,Lib.hid (by rw[hF.out,freeFrom_no hlt HA.out]),by first|rfl|trivial⟩
    case measure=>simp[intOf];omega
  ·obtain rfl:n=i:=by omega
   have hd:decide ((n:Int)<(n:Int))=false:=by simp
   clear hif
   go_wp2_with fail
   go_ret
   exact⟨by rw[hF.out,freeFrom_end];rfl,rfl⟩
end Go.Proofs.YtggmdjdflaglpaaGreat
namespace Go.Proofs.YtggmdjdflaglpaaGreat
open Go.RowKit Go.Proofs.YtggmdjdflaglpaaGreat.geo
set_option linter.unusedVariables false
theorem info103:(Tryz.prog.info? 103).map (fun i=>(i.zero,i.size,i.bytes))=some (some (.agg (lfc Lf.no).toArray),8,56):=by kernel_rfl
theorem lcs_one (ls:List Lf):∀v∈lcs ls,v.oneCell'=true:=fun v hv=>by
 unfold lcs at hv
 obtain⟨l,_,hl⟩:=List.mem_flatMap.1 hv
 simp[lfc]at hl
 rcases hl with rfl|rfl|rfl|rfl|rfl|rfl|rfl|rfl<;>rfl
set_option maxRecDepth 100000 in
theorem lclone_ok (p:Nat->Prop) (v:Value) (ls:List Lf) (w:World) (h:LvsP p w v ls) (hl:ls.length<=1000):
 Calls Tryz.prog 40 #[v] w fun e w'=>∃v',e=.returned v'/\w'.ownsRow w.heap.size 103 8 v' ls.length (lcs ls)/\Below w.heap.size w w':=by
 obtain⟨g,cap,rr,rfl,_,hb⟩:=h
 obtain⟨i0,hi,hz0,hz1,hz2⟩:=info_parts info103
 obtain⟨n,hn⟩:∃n,n=ls.length:=⟨_,rfl⟩
 rw[<-hn]at hl ⊢
 have hc:∀(j:Nat) (u:Value),(lcs ls)[j]? =some u->w.cell? ((⟨g,0,none⟩:Addr).add j)=some u:=fun j u hj=>by
  rw[add_plain,Nat.zero_add]
  exact hb.cell_ j (by rw[List.getElem?_toArray,List.getElem?_append_left (List.getElem?_eq_some_iff.1 hj).1];exact hj)
 have hlen:(lcs ls).length=n*8:=by rw[lcs_len,hn,Nat.mul_comm]
 have hlt:=hb.lt
 have HL:=Lib.hid hlen
 have hn1:=fun W=>Lib.run_eql_slice_nil (P:=Tryz.prog) W 89 103 (some ⟨g,0,none⟩) n cap 0 0 Tryz.underlying89
 have hown:(w.alloc (.cells #[] 103)).ownsRow w.heap.size 103 8 (.slice (some ⟨w.heap.size,0,none⟩) 0 0) 0 []:=World.ownsRow_lit w #[] 0 (Nat.le_refl _) (by unfold maxLen;omega) rfl
 clear hb hn hlen
 go_enter Tryz.func40,Tryz.ntmps40
 go_wp2_with (at_builtin;go_loud (refine wpList_append_own _ rfl _ _ 89 rfl w.heap.size 103 i0 (.agg (lfc Lf.no).toArray) 8 56 Tryz.underlying89 hi hz0 hz1 hz2 rfl (by decide) _ _ _ rfl hown ⟨g,0,none⟩ n cap (lcs ls) rfl HL.out (fun j u hj=>(World.cell?_alloc_lt _ _ _ (by simpa[add_plain]using hlt)).trans (hc j u hj)) (lcs_one ls) (by unfold maxLen;omega) (by omega) (by simp) ?_))
 intro v' w1 hown1 hgrow _
 have hh:w1.ownsRow w.heap.size 103 8 v' n (lcs ls):=by simpa using hown1
 have hb:=((Below.refl _ w).alloc (Nat.le_refl _) (.cells #[] 103)).grown hgrow (by simp) (fun k hk=>by simp[Value.ownBlock]at hk;omega)
 clear hown1 hgrow
 go_wp2_with fail
 go_ret
 exact⟨_,rfl,hh,hb⟩
end Go.Proofs.YtggmdjdflaglpaaGreat
namespace Go.Proofs.YtggmdjdflaglpaaGreat
open Go.RowKit Go.Proofs.YtggmdjdflaglpaaGreat.geo
set_option linter.unusedVariables false
def Lf.hasL (l:Lf) (k:Nat):Bool:=decide (l.kind≠0)&&decide (l.lba=k)
theorem hasL_ok (l:Lf) (k B:Nat) (w:World) (h:w.cell? ⟨B,0,none⟩=some (.int .i64 k)):
 Calls Tryz.prog 149 #[lfv l,.pointer (some ⟨B,0,none⟩)] w fun e w'=>e=.returned (.bool (l.hasL k))/\Below w.heap.size w w':=by
 obtain⟨kind,dirty,lba,⟨ep,sl,ver⟩,ta,tb⟩:=l
 have hB:B<w.heap.size:=by
  rcases Nat.lt_or_ge B w.heap.size with h'|h'
  ·exact h'
  ·simp[World.cell?,h']at h
 have hx:∀o,(w.alloc o).cell? ⟨B,0,none⟩=some (.int .i64 k):=fun o=>(World.cell?_alloc_lt _ _ _ hB).trans h
 unfold lfv lfc Lf.hasL
 simp only
 by_cases e1:kind=0
 ·subst e1
  go_enter Tryz.func149,Tryz.ntmps149
  go_wp2_with fail
  go_ret
  exact⟨rfl,(Below.refl _ _).alloc (Nat.le_refl _) _⟩
 ·have t1:((kind:Int) == 0)=false:=by simpa using e1
  by_cases e2:lba=k
  ·subst e2
   have t2:((lba:Int) == (lba:Int))=true:=by simp
   go_enter Tryz.func149,Tryz.ntmps149
   go_wp2_with fail
   go_ret
   exact⟨by simp[e1],(Below.refl _ _).alloc (Nat.le_refl _) _⟩
  ·have t2:((lba:Int) == (k:Int))=false:=by simp;omega
   go_enter Tryz.func149,Tryz.ntmps149
   go_wp2_with fail
   go_ret
   exact⟨by simp[e1,e2],(Below.refl _ _).alloc (Nat.le_refl _) _⟩
def fstOf (f:Nat->Bool) (n i:Nat):Int:=match (List.range' i (n-i)).find? f with|some k=>(k:Int)|none=>-1
theorem fstOf_no {f:Nat->Bool}{n i:Nat}(h:i<n) (hf:f i=false):fstOf f n i=fstOf f n (i+1):=by
 unfold fstOf
 have e:n-i=(n-(i+1))+1:=by omega
 rw[e,List.range'_succ,List.find?_cons,hf]
theorem fstOf_yes {f:Nat->Bool}{n i:Nat}(h:i<n) (hf:f i=true):fstOf f n i=i:=by
 unfold fstOf
 have e:n-i=(n-(i+1))+1:=by omega
 rw[e,List.range'_succ,List.find?_cons,hf]
theorem fstOf_end (f:Nat->Bool) (n:Nat):fstOf f n n=-1:=by
 unfold fstOf
 rw[Nat.sub_self]
 rfl
def slotF (ls:List Lf) (k i:Nat):Bool:=(ls.getD i Lf.no).hasL k
def slotOf (ls:List Lf) (k:Nat):Int:=fstOf (slotF ls k) ls.length 0
theorem lidx_ok (g cap B k:Nat) (ls:List Lf) (rr:List Value) (w:World) (hb:Blk w g 103 (lcs ls++rr).toArray) (h:w.cell? ⟨B,0,none⟩=some (.int .i64 k)) (hl:ls.length<=1000):
 Calls Tryz.prog 148 #[.slice (some ⟨g,0,none⟩) ls.length cap,.func (.func 149) #[] #[.pointer (some ⟨B,0,none⟩)]] w fun e w'=>e=.returned (.int .i64 (slotOf ls k))/\Below w.heap.size w w':=by
 obtain⟨n,hn⟩:∃n,n=ls.length:=⟨_,rfl⟩
 have hB:B<w.heap.size:=by
  rcases Nat.lt_or_ge B w.heap.size with h'|h'
  ·exact h'
  ·simp[World.cell?,h']at h
 have hd:∀i,i<n->ls[i]? =some (ls.getD i Lf.no):=fun i hi=>by rw[List.getD_eq_getElem?_getD,List.getElem?_eq_getElem (by omega)];rfl
 unfold slotOf
 rw[<-hn]at hl ⊢
 obtain⟨R,hR⟩:∃R,R=fstOf (slotF ls k) n 0:=⟨_,rfl⟩
 rw[<-hR]
 have HR:=Lib.hid hR
 have HD:=Lib.hid hd
 have HB:=Lib.hid (And.intro hb h)
 clear hR hd hn
 go_enter Tryz.func148,Tryz.ntmps148
 go_wp2_with fail
 go_loopw [5,8] (fun _ t wr=>∃i:Nat,t=.int .i64 i/\i<=n/\Hid (R=fstOf (slotF ls k) n i)/\Below w.heap.size w wr) (fun _ t _=>n-(intOf t).toNat)
 case atStart=>exact⟨0,rfl,by omega,HR,Below.refl _ _⟩
 case round=>
  obtain⟨i,rfl,hi,hF,hbw⟩:=hrel
  have hb':=HB.out.1.below_ hbw
  have h':wr.cell? ⟨B,0,none⟩=some (.int .i64 k):=(hbw.cell hB).trans HB.out.2
  clear HR hb h
  by_cases hlt:i<n
  ·have m0:(0:Int)<=(i:Int):=by omega
   have m1:(i:Int)<(n:Int):=by omega
   have hgr:=hb'.leaf (HD.out i hlt)
   have hc:=hasL_ok (ls.getD i Lf.no) k B wr h'
   have hsl:slotF ls k i=(ls.getD i Lf.no).hasL k:=rfl
   obtain⟨l,hL⟩:∃l,l=ls.getD i Lf.no:=⟨_,rfl⟩
   rw[<-hL]at hgr hc hsl
   have sz8:(Tryz.prog.info? 103).map (·.size)=some (lfc l).length:=sz103
   unfold lfv at hc
   cases hfa:l.hasL k with
   |true=>
    rw[hfa]at hc hsl
    have HA:=Lib.hid hsl
    have HQ:=Lib.hid hbw
    clear hfa hsl hL hbw
    go_wp2_with (with_reducible refine wpList_load_mid rfl 103 _ rfl g (i*8) rfl _ _ hgr Tryz.underlying103 rfl sz8 ?_)
    refine hc.mono ?_
    rintro e w1 ⟨rfl,q⟩
    clear hc hgr
    go_wp2_with fail
    go_ret
    exact⟨by rw[hF.out,fstOf_yes hlt HA.out];rfl,HQ.out.trans (q.mono HQ.out.size)⟩
   |false=>
    rw[hfa]at hc hsl
    have HA:=Lib.hid hsl
    have HQ:=Lib.hid hbw
    clear hfa hsl hL hbw
    go_wp2_with (with_reducible refine wpList_load_mid rfl 103 _ rfl g (i*8) rfl _ _ hgr Tryz.underlying103 rfl sz8 ?_)
    refine hc.mono ?_
    rintro e w1 ⟨rfl,q⟩
    clear hc hgr
    go_wp2_with fail
    go_roundw
    case rel=>exact⟨i+1,by go_num,by omega,Lib.hid (by rw[hF.out,fstOf_no hlt HA.out]),HQ.out.trans (q.mono HQ.out.size)⟩
    case measure=>simp[intOf];omega
  ·obtain rfl:n=i:=by omega
   have hd:decide ((n:Int)<(n:Int))=false:=by simp
   go_wp2_with fail
   go_ret
   exact⟨by rw[hF.out,fstOf_end];rfl,hbw⟩
theorem slot_ok (ρ:Rl) (a:Ads) (cc m ag k:Nat) (C:Cch) (w:World) (h:CchR ρ w a cc m ag C) (hl:C.now.length<=16):
 Calls Tryz.prog 113 #[.pointer (some ⟨cc,0,none⟩),.int .i64 k] w fun e w'=>e=.returned (.int .i64 (slotOf C.now k))/\Below w.heap.size w w':=by
 obtain⟨vn,vw,hb,_,_,_,⟨g1,p1,rr,rfl,_,h1⟩,_⟩:=h
 have c2:=hb.cell_ 2 rfl
 have lc:=hb.lt
 obtain⟨s,hs⟩:∃s,s=slotOf C.now k:=⟨_,rfl⟩
 have hc:=lidx_ok g1 p1 w.heap.size k C.now rr (w.alloc (.cells #[.int .i64 k] 3)) (h1.alloc _) ((Blk.new w 3 #[.int .i64 k]).cell_ 0 rfl) (by omega)
 rw[<-hs]at hc ⊢
 obtain⟨n,hn⟩:∃n,n=C.now.length:=⟨_,rfl⟩
 rw[<-hn]at c2 hc
 clear hb hs h1 hn hl
 have hmf:∀(fn:Fn) (first cap:Array Value) (w:World),(Instr.makeFunc fn first cap).run Tryz.prog w=.ok (.func fn first cap) w:=fun _ _ _ _=>rfl
 go_enter Tryz.func113,Tryz.ntmps113
 go_wp2_with (go_at_call 148;refine hc.mono ?_;rintro e w1 ⟨rfl,q⟩)
 go_ret
 exact⟨rfl,((Below.refl _ _).alloc (Nat.le_refl _) _).trans (q.mono (by simp))⟩
end Go.Proofs.YtggmdjdflaglpaaGreat
