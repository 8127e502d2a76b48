/- Keys: one epoch, or two. Keys: Add. The slow disk: Read. The slow disk: Crash. -/
import Derived.Test.YtggmdjdflaglpaaGreatR08
import Derived.Test.YtggmdjdflaglpaaGreatR04
import Derived.Test.YtggmdjdflaglpaaGreatR05
namespace Go.Proofs.YtggmdjdflaglpaaGreat
open Go.RowKit
set_option linter.unusedVariables false
structure Kys where
 seed:Nat
 a:Nat
 two:Bool
def Kys.es (K:Kys):List Nat:=if K.two then [K.a,K.a+1]else [K.a]
def Kys.cur (K:Kys):Nat:=if K.two then K.a+1 else K.a
def evals (l:List Nat):List Value:=l.map (fun e:Nat=>Value.int .u32 (e:Int))
theorem Kys.es_len (K:Kys):K.es.length=if K.two then 2 else 1:=by unfold Kys.es;split<;>rfl
def KysR (ρ:Rl) (w:World) (p k:Nat) (K:Kys):Prop:=
 ∃g cap,Blk w k 137 #[.pointer (some ⟨p,0,none⟩),.int .u64 K.seed,.slice (some ⟨g,0,none⟩) K.es.length cap]/\ρ k=rKys/\
  w.ownsRow 0 97 1 (.slice (some ⟨g,0,none⟩) K.es.length cap) K.es.length (evals K.es)/\ρ g=rEpo/\K.seed<18446744073709551616/\1<=K.a/\K.a<=1000000
def rsKys (r:Nat):Prop:=r=rKys\/r=rEpo
def rtKys (r:Nat):Prop:=r=rPow\/r=rKys\/r=rEpo
theorem KysR.keep {ρ ρ':Rl}{w w':World}{p k:Nat}{K:Kys}(h:KysR ρ w p k K) (hs:w.heap.size<=w'.heap.size) (hk:∀b,b<w.heap.size->rsKys (ρ b)->w'.heap[b]? =w.heap[b]? /\ρ' b=ρ b):KysR ρ' w' p k K:=by
 obtain⟨g,cap,h1,h2,h3,h4,h5⟩:=h
 have k1:=hk k h1.lt (by rw[h2];simp[rsKys])
 have hg:=row_lt h3 (b:=g) rfl
 have k2:=hk g hg (by rw[h4];simp[rsKys])
 refine⟨g,cap,k1.1.trans h1,k1.2.trans h2,row_keep h3 (fun b hb e=>?_),k2.2.trans h4,h5⟩
 injection e with e
 rw[<-e];exact k2.1
theorem info97:(Tryz.prog.info? 97).map (fun i=>(i.zero,i.size,i.bytes))=some (some (.int .u32 0),1,4):=by kernel_rfl
theorem evals_one (l:List Nat):∀v∈evals l,v.oneCell'=true:=fun v hv=>by
 obtain⟨u,_,rfl⟩:=List.mem_map.1 hv
 rfl
theorem knew_ok (p seed:Nat) (w:World):Calls Tryz.prog 34 #[.int .u64 seed,.pointer (some ⟨p,0,none⟩)] w fun e w'=>e=.returned (.pointer (some ⟨w.heap.size+1,0,none⟩))/\(seed<18446744073709551616->∀ρ:Rl,KysR ((ρ.set w.heap.size rEpo).set (w.heap.size+1) rKys) w' p (w.heap.size+1) ⟨seed,1,false⟩)/\w'.heap.size=w.heap.size+2/\Below w.heap.size w w':=by
 go_enter Tryz.func34,Tryz.ntmps34
 go_wp2_with fail
 go_ret
 refine⟨by simp,fun hs ρ=>⟨w.heap.size,1,?_,Rl.set_same _ _ _,?_,?_,hs,by simp,by simp⟩,by simp,?_⟩
 ·have:=Blk.new (w.alloc (.cells #[.int .u32 1] 97)) 137 #[.pointer (some ⟨p,0,none⟩),.int .u64 seed,.slice (some ⟨w.heap.size,0,none⟩) 1 1]
  simpa[Kys.es]using this
 ·refine⟨by simp[evals,Kys.es],.inr ⟨w.heap.size,1,#[.int .u32 1],rfl,by omega,?_,by simp[Kys.es],by unfold maxLen;omega,by simp,by simp[evals,Kys.es]⟩⟩
  exact(Blk.new w 97 #[.int .u32 1]).alloc _
 ·rw[Rl.set_other _ (by omega)];exact Rl.set_same _ _ _
 ·exact((Below.refl _ _).alloc (Nat.le_refl _) _).alloc (by simp) _
set_option maxRecDepth 100000 in
theorem eclone_ok (g n cap:Nat) (l:List Nat) (w:World) (h:w.ownsRow 0 97 1 (.slice (some ⟨g,0,none⟩) n cap) n (evals l)) (hn:n=l.length) (hl:l.length<=1000):
 Calls Tryz.prog 106 #[.slice (some ⟨g,0,none⟩) n cap] w fun e w'=>∃v',e=.returned v'/\w'.ownsRow w.heap.size 97 1 v' l.length (evals l)/\Below w.heap.size w w':=by
 obtain⟨i0,hi,hz0,hz1,hz2⟩:=info_parts info97
 have HL:=Lib.hid hn
 have hn2:n<=1000:=by omega
 have hn1:=fun W=>Lib.run_eql_slice_nil (P:=Tryz.prog) W 135 97 (some ⟨g,0,none⟩) n cap 0 0 Tryz.underlying135
 have hlt:=row_lt h (b:=g) rfl
 have hc:=h.cells (g:=g) rfl
 have hown:(w.alloc (.cells #[] 97)).ownsRow w.heap.size 97 1 (.slice (some ⟨w.heap.size,0,none⟩) 0 0) 0 []:=World.ownsRow_lit w #[] 0 (Nat.le_refl _) (by unfold maxLen;omega) rfl
 clear h hn
 go_enter Tryz.func106,Tryz.ntmps106
 go_wp2_with (at_builtin;go_loud (refine wpList_append_own _ rfl _ _ 135 rfl w.heap.size 97 i0 (.int .u32 0) 1 4 Tryz.underlying135 hi hz0 hz1 hz2 rfl (by decide) _ _ _ rfl hown ⟨g,0,none⟩ n cap (evals l) rfl (by rw[HL.out];simp[evals]) (fun j u hj=>(World.cell?_alloc_lt _ _ _ (by simpa[add_plain]using hlt)).trans (hc j u hj)) (evals_one l) (by unfold maxLen;omega) (by omega) (by simp) ?_))
 intro v' w1 hown1 hgrow _
 have hh:w1.ownsRow w.heap.size 97 1 v' l.length (evals l):=by rw[<-HL.out];simpa using hown1
 have hb:=((Below.refl _ w).alloc (Nat.le_refl _) (.cells #[] 97)).grown hgrow (by simp) (fun k hk=>by simp[Value.ownBlock]at hk;omega)
 clear hown1 hgrow
 go_wp2_with fail
 go_ret
 exact⟨_,rfl,hh,hb⟩
theorem epochs_ok (ρ:Rl) (p k:Nat) (K:Kys) (w:World) (h:KysR ρ w p k K):
 Calls Tryz.prog 68 #[.pointer (some ⟨k,0,none⟩)] w fun e w'=>∃v',e=.returned v'/\w'.ownsRow w.heap.size 97 1 v' K.es.length (evals K.es)/\Below w.heap.size w w':=by
 obtain⟨g,cap,h1,h2,h3,h4,h5⟩:=h
 have hc:=eclone_ok g K.es.length cap K.es w h3 rfl (by rw[K.es_len];split<;>omega)
 have c2:=h1.cell_ 2 rfl
 have hl:=h1.lt
 clear h1
 go_enter Tryz.func68,Tryz.ntmps68
 go_wp2_with fail
 refine hc.mono ?_
 rintro e w1 ⟨v',rfl,h1,h2⟩
 clear hc
 go_wp2_with fail
 go_ret
 exact⟨_,rfl,h1,h2⟩
theorem KysR.open_ {ρ:Rl}{p k:Nat}{K:Kys}{w:World}(h:KysR ρ w p k K):∃g cap n:Nat,Blk w k 137 #[.pointer (some ⟨p,0,none⟩),.int .u64 K.seed,.slice (some ⟨g,0,none⟩) (n+1) cap]/\(n:Int)<1000/\w.cell? ⟨g,n,none⟩=some (.int .u32 K.cur)/\g<w.heap.size:=by
 obtain⟨g,cap,h1,h2,h3,h4,h5⟩:=h
 have hc:=h3.cells (g:=g) rfl
 have hlt:=row_lt h3 (b:=g) rfl
 clear h3 h5
 obtain⟨s,a,two⟩:=K
 cases two with
 |false=>exact⟨g,cap,0,h1,by omega,hc 0 _ rfl,hlt⟩
 |true=>exact⟨g,cap,1,h1,by omega,hc 1 _ rfl,hlt⟩
theorem current_ok (ρ:Rl) (p k:Nat) (K:Kys) (w:World) (h:KysR ρ w p k K):
 Calls Tryz.prog 111 #[.pointer (some ⟨k,0,none⟩)] w fun e w'=>e=.returned (.int .u32 K.cur)/\Below w.heap.size w w':=by
 obtain⟨g,cap,n,h1,hn,hc,hg⟩:=h.open_
 have c2:=h1.cell_ 2 rfl
 have hl:=h1.lt
 have n0:(0:Int)<=(n:Int):=by omega
 have n1:(n:Int)<(n:Int)+1:=by omega
 have n2:((n:Int)+1)-1=n:=by omega
 clear h1 h
 go_enter Tryz.func111,Tryz.ntmps111
 go_wp2_with fail
 have c2':=c2
 go_quiet (fail)
 go_wp2_with fail
 go_ret
 exact⟨rfl,below_drewN (Below.refl _ _) _⟩
theorem eindex_ok (v:Value) (l:List Nat) (e:Nat) (w:World) (B:Nat) (h:w.ownsRow B 97 1 v l.length (evals l)) (hl:l.length<=1000):
 Calls Tryz.prog 179 #[v,.int .u32 e] w fun x w'=>(∃r:Int,x=.returned (.int .i64 r)/\(decide (r≥0)=decide (e∈l)))/\w=w':=by
 obtain⟨A,cap,rfl⟩:=row_form h
 obtain⟨n,hn⟩:∃n,n=l.length:=⟨_,rfl⟩
 have HN:=Lib.hid hn
 have HR:=Lib.hid h
 rw[<-hn]at hl h ⊢
 clear hn h
 go_enter Tryz.func179,Tryz.ntmps179
 go_wp2_with fail
 go_loopw [5,8] (fun _ t wr=>∃i:Nat,t=.int .i64 i/\i<=n/\(∀j,j<i->l[j]?≠some e)/\wr=w) (fun _ t _=>n-(intOf t).toNat)
 case atStart=>exact⟨0,rfl,by omega,fun j hj=>by omega,rfl⟩
 case round=>
  obtain⟨i,rfl,hi,hno,rfl⟩:=hrel
  have HO:=Lib.hid hno
  clear hno
  by_cases hlt:i<n
  ·obtain⟨y,hy⟩:∃y,l[i]? =some y:=⟨_,List.getElem?_eq_getElem (by have:=HN.out;omega)⟩
   obtain⟨g,c,hv,hc⟩:∃g c,A=some ⟨g,0,none⟩/\wr.cell? ⟨g,i,none⟩=some (.int .u32 (y:Int)):=by
    have hr:=HR.out
    rcases hr.2 with⟨_,h0⟩|⟨g,c,cur,hv,_⟩
    ·have:=HN.out;omega
    ·have hA:A=some ⟨g,0,none⟩:=by simpa using(Value.slice.inj hv).1
     subst hA
     refine⟨g,c,rfl,?_⟩
     have:=hr.cells (g:=g) rfl i _ (by show(evals l)[i]? =some (.int .u32 (y:Int));simp[evals,hy])
     simpa[add_plain]using this
   subst hv
   have m0:(0:Int)<=(i:Int):=by omega
   have m1:(i:Int)<(n:Int):=by omega
   by_cases he:e=y
   ·have t1:((e:Int) == (y:Int))=true:=by simp[he]
    have HE:=Lib.hid (And.intro he hy)
    clear he hy
    go_wp2_with fail
    go_ret
    refine⟨⟨i,rfl,?_⟩,rfl⟩
    have:e∈l:=by rw[HE.out.1];exact List.mem_of_getElem? HE.out.2
    simp[this]
   ·have t1:((e:Int) == (y:Int))=false:=by simp;omega
    have HE:=Lib.hid (And.intro he hy)
    clear he hy
    go_wp2_with fail
    go_roundw
    case rel=>
     refine⟨i+1,by go_num,by omega,fun j hj=>?_,by first|rfl|trivial⟩
     by_cases c:j=i
     ·subst c;rw[HE.out.2];intro h;injection h with h;exact HE.out.1 h.symm
     ·exact HO.out j (by omega)
    case measure=>simp[intOf];omega
  ·obtain rfl:i=n:=by omega
   have hd':decide ((i:Int)<(i:Int))=false:=by simp
   go_wp2_with fail
   go_ret
   refine⟨⟨-1,rfl,?_⟩,rfl⟩
   have:e∉l:=fun h=>by
    obtain⟨j,hj⟩:=List.mem_iff_getElem?.1 h
    have hjl:=(List.getElem?_eq_some_iff.1 hj).1
    exact HO.out j (by have:=HN.out;omega) hj
   simp[this]
theorem econt_ok (v:Value) (l:List Nat) (e:Nat) (w:World) (B:Nat) (h:w.ownsRow B 97 1 v l.length (evals l)) (hl:l.length<=1000):
 Calls Tryz.prog 165 #[v,.int .u32 e] w fun x w'=>x=.returned (.bool (decide (e∈l)))/\w=w':=by
 have hi:=eindex_ok v l e w B h hl
 clear h
 go_enter Tryz.func165,Tryz.ntmps165
 go_wp2_with fail
 refine hi.mono ?_
 rintro x w1 ⟨⟨r,rfl,hr⟩,rfl⟩
 clear hi
 go_wp2_with fail
 go_ret
 exact⟨by rw[<-hr];rfl,rfl⟩
def Kys.key (K:Kys) (e:Nat):Two:=if e∈K.es then keyOf K.seed e else(0,0)
theorem key_ok (ρ:Rl) (p k:Nat) (K:Kys) (e:Nat) (w:World) (h:KysR ρ w p k K) (he:e<4294967296):
 Calls Tryz.prog 134 #[.pointer (some ⟨k,0,none⟩),.int .u32 e] w fun x w'=>x=.returned (.tuple #[.agg #[.int .u64 (K.key e).1,.int .u64 (K.key e).2],.bool (decide (e∈K.es))])/\Below w.heap.size w w':=by
 have hes:K.es.length<=1000:=by rw[K.es_len];split<;>omega
 have hsd:K.seed<18446744073709551616:=by obtain⟨g,cap,h1,h2,h3,h4,h5⟩:=h;exact h5.1
 have ho:=fun W=>of_ok K.seed e W ⟨by omega,by omega⟩ (by omega) (by omega)
 have hE:=fun W hh=>epochs_ok ρ p k K W hh
 have hk:KysR ρ (w.alloc (.cells #[.int .u64 0,.int .u64 0] 101)) p k K:=h.keep (by simp) (fun b hb _=>⟨Below.heap_alloc w _ b hb,rfl⟩)
 have hB:Blk (w.alloc (.cells #[.int .u64 0,.int .u64 0] 101)) w.heap.size 101 #[.int .u64 0,.int .u64 0]:=Blk.new w 101 _
 have hbw:Below w.heap.size w (w.alloc (.cells #[.int .u64 0,.int .u64 0] 101)):=(Below.refl _ _).alloc (Nat.le_refl _) _
 obtain⟨W,hW⟩:∃W,W=w.alloc (.cells #[.int .u64 0,.int .u64 0] 101):=⟨_,rfl⟩
 rw[<-hW]at hk hB hbw
 have hwl:=hB.lt
 go_enter Tryz.func134,Tryz.ntmps134
 go_wp2_with fail
 rw[<-hW]
 clear hW
 refine(hE _ hk).mono ?_
 rintro x w1 ⟨v,rfl,hr,hb1⟩
 go_wp2_with fail
 refine(econt_ok v K.es e _ _ hr hes).mono ?_
 rintro x w2 ⟨rfl,rfl⟩
 clear hE
 have hB1:=hB.below_ hb1
 have hk1:KysR ρ w1 p k K:=hk.keep hb1.size (fun b hb _=>⟨hb1.block b hb,rfl⟩)
 have hbw1:=hbw.trans (hb1.mono hbw.size)
 clear hr hb1 hk hB hbw
 by_cases hm:e∈K.es
 ·have hd:decide (e∈K.es)=true:=by simp[hm]
  have hky:K.key e=keyOf K.seed e:=by unfold Kys.key;rw[if_pos hm]
  rw[hd]
  obtain⟨g,cap,q1,_⟩:=hk1
  have c1:=q1.cell_ 1 rfl
  have l1:=q1.lt
  have HK:=Lib.hid (And.intro hd hky)
  clear q1 hd hky hm
  go_wp2_with fail
  refine(ho _).mono ?_
  rintro x w3 ⟨rfl,hb3⟩
  have hB3:=hB1.below_ hb3
  have hbw3:=hbw1.trans (hb3.mono hbw1.size)
  obtain⟨k1,hk1⟩:∃k1,k1=(keyOf (K.seed:Int) (e:Int)).1:=⟨_,rfl⟩
  obtain⟨k2,hk2⟩:∃k2,k2=(keyOf (K.seed:Int) (e:Int)).2:=⟨_,rfl⟩
  rw[<-hk1,<-hk2]
  have HK2:=Lib.hid (And.intro hk1 hk2)
  clear hk1 hk2 ho c1 l1
  have f0:=hB3.frozen 0
  have f1:=hB3.frozen 1
  have c0:=hB3.cell_ 0 rfl
  have c1:=hB3.cell_ 1 rfl
  have l3:=hB3.lt
  go_wp2_with fail
  have hf:=(hB3.set_ 0 (.int .u64 k1)).set_ 1 (.int .u64 k2)
  have ra:((w3.setCell ⟨w.heap.size,0,none⟩ (.int .u64 k1)).setCell ⟨w.heap.size,1,none⟩ (.int .u64 k2)).cell? ⟨w.heap.size,0,none⟩=some (.int .u64 k1):=hf.cell_ 0 rfl
  have rb:((w3.setCell ⟨w.heap.size,0,none⟩ (.int .u64 k1)).setCell ⟨w.heap.size,1,none⟩ (.int .u64 k2)).cell? ⟨w.heap.size,1,none⟩=some (.int .u64 k2):=hf.cell_ 1 rfl
  refine bodyPost_ret (v:=.tuple #[.agg #[.int .u64 k1,.int .u64 k2],.bool true]) (by simp[results,Tryz.results134,go_sem,ra,rb]) rfl ⟨by rw[HK.out.1,HK.out.2,HK2.out.1,HK2.out.2],below_only hbw3 (only_set2 _ _ _ _ _ _) hbw3.size (Nat.le_refl _)⟩
 ·have hd:decide (e∈K.es)=false:=by simp[hm]
  have hky:K.key e=(0,0):=by unfold Kys.key;rw[if_neg hm]
  rw[hd]
  have HK:=Lib.hid (And.intro hd hky)
  clear hd hky hm ho hk1
  have f0:=hB1.frozen 0
  have f1:=hB1.frozen 1
  have c0:=hB1.cell_ 0 rfl
  have c1:=hB1.cell_ 1 rfl
  have l3:=hB1.lt
  go_wp2_with fail
  have hf:=(hB1.set_ 0 (.int .u64 0)).set_ 1 (.int .u64 0)
  have ra:((w1.setCell ⟨w.heap.size,0,none⟩ (.int .u64 0)).setCell ⟨w.heap.size,1,none⟩ (.int .u64 0)).cell? ⟨w.heap.size,0,none⟩=some (.int .u64 0):=hf.cell_ 0 rfl
  have rb:((w1.setCell ⟨w.heap.size,0,none⟩ (.int .u64 0)).setCell ⟨w.heap.size,1,none⟩ (.int .u64 0)).cell? ⟨w.heap.size,1,none⟩=some (.int .u64 0):=hf.cell_ 1 rfl
  refine bodyPost_ret (v:=.tuple #[.agg #[.int .u64 0,.int .u64 0],.bool false]) (by simp[results,Tryz.results134,go_sem,ra,rb]) rfl ⟨by rw[HK.out.1,HK.out.2],below_only hbw1 (only_set2 _ _ _ _ _ _) hbw1.size (Nat.le_refl _)⟩
end Go.Proofs.YtggmdjdflaglpaaGreat
namespace Go.Proofs.YtggmdjdflaglpaaGreat
open Go.RowKit
set_option linter.unusedVariables false
theorem not_rk_pow:¬rsKys rPow:=by unfold rsKys;decide
theorem cell_one_new (w:World) (a:Value) (t:TypeId):∀(j:Nat) (u:Value),[a][j]? =some u->(w.alloc (.cells #[a] t)).cell? ((⟨w.heap.size,0,none⟩:Addr).add j)=some u:=fun j u h=>by
 rw[add_plain,World.cell?_alloc_new,Nat.zero_add]
 simpa using h
theorem role_push {ρ:Rl}{r:Nat}{W W':World}{t:TypeId}{z m:Nat}{v v':Value}{xs:List Value}(h0:r≠0) (hrole:∀b,v.ownBlock=some b->ρ b=r) (hnew:W'.ownsRow 0 t z v' m xs) (hg:W.grownBy W' v.ownBlock)
 (hor:v'.ownBlock=v.ownBlock\/v'.ownBlock=some W.heap.size) (hf:Fresh ρ W):
 ∃ρ',(∀b,ρ b≠0->ρ' b=ρ b)/\(∀b,ρ' b≠ρ b->b=W.heap.size)/\Fresh ρ' W'/\∀b,v'.ownBlock=some b->ρ' b=r:=by
 have hsz:=hg.size
 rcases hor with hor|hor
 ·exact⟨ρ,fun _ _=>rfl,fun b hb=>absurd rfl hb,fun i hi=>hf i (by omega),fun b hb=>hrole b (by rw[<-hor];exact hb)⟩
 ·have hlt:W.heap.size<W'.heap.size:=row_lt hnew hor
  refine⟨ρ.set W.heap.size r,fun x hx=>?_,fun x hx=>?_,fun i hi=>?_,fun b hb=>?_⟩
  ·by_cases e:x=W.heap.size
   ·exact absurd (hf x (by omega)) hx
   ·rw[Rl.set_other _ e]
  ·by_cases e:x=W.heap.size
   ·exact e
   ·rw[Rl.set_other _ e]at hx;exact absurd rfl hx
  ·rw[Rl.set_other _ (by omega)];exact hf i (by omega)
  ·rw[hor]at hb
   injection hb with hb
   rw[<-hb]
   exact Rl.set_same _ _ _
theorem ownsRow_form2 {w:World}{base size n:Nat}{e:TypeId}{v:Value}{xs:List Value}(h:w.ownsRow base e size v n xs) (hn:0<n):∃g cap,v=.slice (some ⟨g,0,none⟩) n cap:=by
 rcases h.2 with⟨_,h0⟩|⟨g,c,cur,rfl,_⟩
 ·omega
 ·exact⟨_,_,rfl⟩
set_option maxHeartbeats 4000000 in
set_option maxRecDepth 100000 in
theorem kadd_ok (ρ:Rl) (p k:Nat) (P:Pow) (K:Kys) (w:World) (hf:Fresh ρ w) (hP:PowR w p P) (hp:ρ p=rPow) (h:KysR ρ w p k K) (h2:K.two=false) (hc:K.a<1000000):
 Calls Tryz.prog 121 #[.pointer (some ⟨k,0,none⟩)] w fun e w'=>e=.returned (.bool (spend P).2)/\PowR w' p (spend P).1/\∃ρ',KysR ρ' w' p k (if(spend P).2 then⟨K.seed,K.a,true⟩else K)/\Ste rtKys ρ w ρ' w':=by
 obtain⟨sd,a,two⟩:=K
 simp only at h2 hc
 subst h2
 have hsp:=spend_ok p P w hP
 have H:=Lib.hid h
 obtain⟨g,cap,h1,hk0,_⟩:=h
 have c0:=h1.cell_ 0 rfl
 have hl:=h1.lt
 have hpl:=hP.lt
 clear h1
 cases hs:(spend P).2 with
 |false=>
  rw[hs]at hsp
  go_enter Tryz.func121,Tryz.ntmps121
  go_wp2_with fail
  refine hsp.mono ?_
  rintro e w1 ⟨rfl,hp1,hg⟩
  go_wp2_with fail
  go_ret
  have hst:Ste rtKys ρ w ρ w1:=Ste.of_grown hg (by rw[hp];exact .inl rfl) hf
  refine⟨by simp,hp1,ρ,?_,hst⟩
  exact H.out.keep hg.size (fun b hb hr=>⟨hg.block b hb (fun e=>by injection e with e;rw[e,hp]at hr;exact not_rk_pow hr),rfl⟩)
 |true=>
  rw[hs]at hsp
  go_enter Tryz.func121,Tryz.ntmps121
  go_wp2_with fail
  refine hsp.mono ?_
  rintro e w1 ⟨rfl,hp1,hg⟩
  have hst:Ste rtKys ρ w ρ w1:=Ste.of_grown hg (by rw[hp];exact .inl rfl) hf
  have hS1:KysR ρ w1 p k ⟨sd,a,false⟩:=H.out.keep hg.size (fun b hb hr=>⟨hg.block b hb (fun e=>by injection e with e;rw[e,hp]at hr;exact not_rk_pow hr),rfl⟩)
  have HP1:=Lib.hid hp1
  clear hsp c0 hp1
  have hcur:∀(W:World),KysR ρ W p k ⟨sd,a,false⟩->Calls Tryz.prog 111 #[.pointer (some ⟨k,0,none⟩)] W fun e w'=>e=.returned (.int .u32 (a:Int))/\Below W.heap.size W w':=fun(W:World) (hh:KysR ρ W p k ⟨sd,a,false⟩)=>current_ok ρ p k ⟨sd,a,false⟩ W hh
  obtain⟨g,cap,h1,_,r1,r2,r5⟩:=id hS1
  have HST:=Lib.hid hst
  have HR5:=Lib.hid r5
  have n1:k≠g:=fun e=>by rw[e,r2]at hk0;exact absurd hk0 (by decide)
  clear hst r5
  obtain⟨i0,hi,hz0,hz1,hz2⟩:=info_parts info97
  have hl2:=h1.lt
  have hw1:(a:Int)+1<4294967296:=by omega
  go_wp2_with fail
  have hB:=(Below.refl w1.heap.size w1).drew
  replace hS1:KysR ρ w1.drew p k ⟨sd,a,false⟩:=hS1.keep (Nat.le_refl _) (fun _ _ _=>⟨rfl,rfl⟩)
  replace h1:=h1.drew
  have c2:w1.drew.cell? ⟨k,2,none⟩=some (.slice (some ⟨g,0,none⟩) 1 cap):=h1.cell_ 2 rfl
  replace r1:w1.drew.ownsRow 0 97 1 (.slice (some ⟨g,0,none⟩) 1 cap) 1 [.int .u32 (a:Int)]:=r1
  go_region_law
   (first
    |(refine step_append_own (by rfl) _ _ _ (by rfl) 0 97 i0 _ 1 4 Tryz.underlying135 hi hz0 hz1 hz2 rfl (by omega) _ 1 _ (by rfl) (World.ownsRow.alloc r1 _) ⟨w3.heap.size,0,none⟩ 1 1 [.int .u32 (IntKind.u32.wrap ((a:Int)+1))] (by rfl) (by simp) (cell_one_new _ _ _) (fun v hv=>by simp at hv;rcases hv with rfl;rfl) (by unfold maxLen;omega) (by omega) (by omega) ?_;intro v2 w2 hown2 hgrow2 hor2;obtain⟨A2,cap2,rfl⟩:=row_form hown2;have hS2':=(h1.alloc (.cells #[.int .u32 (IntKind.u32.wrap ((a:Int)+1))] 97)).grown hgrow2 (fun e=>n1 (by injection e));have d2:=hS2'.cell_ 2 rfl;have e2:=hS2'.frozen 2;have k2:=hS2'.lt)
    |(go_simp;go_at_call 111;refine(hcur _ hS1).mono ?_;rintro e w3 ⟨rfl,l1⟩;replace h1:=h1.below_ l1;replace r1:=row_keep r1 (fun b hb _=>l1.block b hb);replace hB:=hB.trans (l1.mono hB.size);replace c2:=h1.cell_ 2 rfl;replace hl2:=h1.lt))
  all_goals
   have hwr:IntKind.u32.wrap ((a:Int)+1)=((a+1:Nat):Int):=by
    simp[IntKind.wrap,IntKind.bits,IntKind.signed]
    omega
   rw[hwr]at hown2
   have HF:=Lib.hid (And.intro hS2' (And.intro hown2 (And.intro hgrow2 (And.intro hor2 (And.intro hB hi)))))
   clear hS2' hown2 hgrow2 hor2 d2 e2 r1 c2 h1 hS1 hB hi hz0 hz1 hz2 hcur hwr hw1
   go_wp2_with fail
   go_ret
   obtain⟨hS2',hown2,hgrow2,hor2,hB,_⟩:=HF.out
   have hBa:Below w1.heap.size w1 (w3.alloc (.cells #[.int .u32 (IntKind.u32.wrap ((a:Int)+1))] 97)):=hB.alloc hB.size _
   have hfa:Fresh ρ (w3.alloc (.cells #[.int .u32 (IntKind.u32.wrap ((a:Int)+1))] 97)):=fun i hi=>HST.out.fresh i (Nat.le_trans hBa.size hi)
   obtain⟨ρ4,q1,q2,q3,q4⟩:=role_push (r:=rEpo) (by decide) (fun b hb=>by injection hb with hb;rw[<-hb];exact r2) hown2 hgrow2 hor2 hfa
   obtain⟨g2,c3,hv2⟩:=ownsRow_form2 hown2 (by omega)
   rw[hv2]at hown2 q4 ⊢
   have hg2:=q4 g2 rfl
   have hk4:ρ4 k=rKys:=(q1 k (by rw[hk0];decide)).trans hk0
   have n2:g2≠k:=fun e=>by rw[e,hk4]at hg2;exact absurd hg2 (by decide)
   have hch:Ch (fun i=>rsKys (ρ i)) w1 (w2.setCell ⟨k,2,none⟩ (.slice (some ⟨g2,0,none⟩) 2 c3)):=by
    refine((Ch.of_below hBa).trans ⟨hgrow2.os,hgrow2.tape,hgrow2.output,hgrow2.size,fun i hi hn=>hgrow2.block i hi (fun e=>hn ?_)⟩).trans (Ch.set_ (S:=fun i=>rsKys (ρ i)) (p:=⟨k,2,none⟩) ?_ _ _)
    ·injection e with e;rw[e,r2];simp[rsKys]
    ·simp only;rw[hk0];simp[rsKys]
   refine⟨by simp,HP1.out.keep ?_,ρ4,⟨g2,c3,hS2'.set_to 2 _ (by simp[Kys.es]),hk4,row_keep hown2 (fun b hb e=>?_),hg2,HR5.out⟩,HST.out.trans ⟨hch.mono (fun i e=>.inr e),fun i hi=>?_,fun i hi=>q3 i (by simpa[World.setCell]using hi)⟩⟩
   ·refine hch.keep p HP1.out.lt ?_ |>.trans rfl
    rw[hp];exact not_rk_pow
   ·injection e with e
    exact Below.heap_setCell _ _ _ _ (by simp only;rw[<-e];exact n2)
   ·by_cases e:ρ4 i=ρ i
    ·exact e
    ·have:=q2 i e
     have:=hBa.size
     omega
end Go.Proofs.YtggmdjdflaglpaaGreat
namespace Go.Proofs.YtggmdjdflaglpaaGreat
open Go.RowKit
set_option linter.unusedVariables false
theorem dread_off (ρ:Rl) (p d:Nat) (P:Pow) (D:Dsk) (k:Int) (w:World) (hP:PowR w p P) (h:DskR ρ w p d D) (k0:0<=k) (k1:k<32) (hg:P.gone=true):
 Calls Tryz.prog 115 #[.pointer (some ⟨d,0,none⟩),.int .i64 k] w fun e w'=>e=.returned (.tuple #[.slice none 0 0,.bool false])/\w=w':=by
 have his:=dis_ok d k w k0 k1
 have hon:=on_ok p P w hP
 rw[hg]at hon
 obtain⟨vs,vW,vT,T,h1,h2,_⟩:=h
 have c:=h1.cell_ 0 dc0
 have hl:=h1.lt
 clear h1
 go_enter Tryz.func115,Tryz.ntmps115
 go_wp2_with fail
 refine his.mono ?_
 rintro e w1 ⟨rfl,rfl⟩
 go_wp2_with fail
 refine hon.mono ?_
 rintro e w1 ⟨rfl,rfl⟩
 go_wp2_with fail
 go_ret2
 exact⟨rfl,rfl⟩
set_option maxHeartbeats 2000000 in
theorem dread_on (ρ:Rl) (p d:Nat) (P:Pow) (D:Dsk) (k:Nat) (w:World) (hP:PowR w p P) (h:DskR ρ w p d D) (k1:k<32) (hg:P.gone=false) (hc:D.cnt<=1000000):
 Calls Tryz.prog 115 #[.pointer (some ⟨d,0,none⟩),.int .i64 k] w fun e w'=>∃v,e=.returned (.tuple #[v,.bool true])/\OwnB w.heap.size w' v (dread D k)/\(dread D k).length=32/\Below w.heap.size w w':=by
 have his:=dis_ok d k w (by omega) (by omega)
 have hon:=on_ok p P w hP
 rw[hg]at hon
 obtain⟨vs,vW,vT,T,h1,h2,h3,h4,h5,h6,h7,h8⟩:=h
 obtain⟨Aw,cw,rfl⟩:=h4.form
 have c0:=h1.cell_ 0 dc0
 have ck:=h1.cell_ (1+k) (dck k1)
 have cW:=h1.cell_ 33 dc33
 have hl:=h1.lt
 have hvk:=h3 k k1
 obtain⟨A0,cap0,hv0⟩:=hvk.1.slice
 rw[hvk.2]at hv0
 rw[hv0]at ck hvk
 obtain⟨n,hn⟩:∃n,n=D.waits.length:=⟨_,rfl⟩
 rw[<-hn]at cW h7
 have HN:=Lib.hid hn
 have i0:(0:Int)<=(k:Int):=by omega
 have i1:(k:Int)<32:=by omega
 clear h1 h3 h5 h6 hn hv0
 go_enter Tryz.func115,Tryz.ntmps115
 go_wp2_with fail
 refine his.mono ?_
 rintro e w1 ⟨rfl,rfl⟩
 go_wp2_with fail
 refine hon.mono ?_
 rintro e w1 ⟨rfl,rfl⟩
 clear his hon
 go_wp2_with fail
 go_loopw [6,8,32] (fun b _ t wr=>∃(i:Nat) (V:Value),V=b/\t=.int .i64 i/\i<=n/\HasP (fun _=>True) w V (dreadTo D i k)/\(dreadTo D i k).length=32/\Below w.heap.size w wr) (fun _ _ t _=>n-(intOf t).toNat)
 case atStart=>exact⟨0,_,rfl,rfl,by omega,hvk.1.any,hvk.2,Below.refl _ _⟩
 case round=>
  obtain⟨i,V,rfl,rfl,hin,hV,hVl,hb⟩:=hrel
  clear hvk c0 ck cW
  by_cases hlt:i<n
  ·obtain⟨o,ho⟩:∃o,D.waits[i]? =some o:=⟨_,List.getElem?_eq_getElem (by have:=HN.out;omega)⟩
   obtain⟨rb,rc,u,hv,hrr,hrl,q0,q1,hu⟩:=h4.at_ ho
   obtain⟨rfl,rfl⟩:Aw=some ⟨rb,0,none⟩/\cw=rc:=by simpa using hv
   have hdk:=h8 o (List.mem_of_getElem? ho)
   obtain⟨A1,c1,rfl⟩:=hu.slice
   have j0:=(hb.cell (p:=⟨rb,i*2,none⟩) hrl).trans q0
   have j1:=(hb.cell (p:=⟨rb,i*2+1,none⟩) hrl).trans q1
   have hds:=dreadTo_succ D i k o ho
   have m0:(0:Int)<=(i:Int):=by omega
   have m1:(i:Int)<(n:Int):=by omega
   have hb1:=hb.alloc hb.size (.cells #[.int .i64 o.off,.slice A1 o.bytes.length c1] 119)
   by_cases he:o.off=(k:Int)
   ·have t1:(o.off == (k:Int))=true:=by simpa using he
    have hnew:dreadTo D (i+1) k=o.bytes:=by rw[hds];unfold dstep;rw[if_pos he]
    have hVn:HasP (fun _=>True) w (.slice A1 o.bytes.length c1) (dreadTo D (i+1) k):=by rw[hnew];exact hu.any
    have hVl2:(dreadTo D (i+1) k).length=32:=by rw[hnew];exact hdk.2.2
    have HV:=Lib.hid (And.intro hVn (And.intro hVl2 hb1))
    obtain⟨x,hx⟩:∃x,x=o.off:=⟨_,rfl⟩
    rw[<-hx]at t1 j0
    obtain⟨m,hm⟩:∃m,m=o.bytes.length:=⟨_,rfl⟩
    rw[<-hm]at j1
    rw[<-hx,<-hm]at HV
    clear he hds hnew hVn hVl2 hV hVl hdk hu ho hv q0 q1 hx hm hb1
    go_wp2_with fail
    go_roundw
    case rel=>exact⟨i+1,_,rfl,by go_num,by omega,HV.out.1,HV.out.2.1,HV.out.2.2⟩
    case measure=>simp[intOf];omega
   ·have t1:(o.off == (k:Int))=false:=by simpa using he
    have hnew:dreadTo D (i+1) k=dreadTo D i k:=by rw[hds];unfold dstep;rw[if_neg he]
    have HV:=Lib.hid (And.intro hV (And.intro hVl hb1))
    rw[<-hnew]at HV
    obtain⟨x,hx⟩:∃x,x=o.off:=⟨_,rfl⟩
    rw[<-hx]at t1 j0
    obtain⟨m,hm⟩:∃m,m=o.bytes.length:=⟨_,rfl⟩
    rw[<-hm]at j1
    rw[<-hx,<-hm]at HV
    clear he hds hnew hV hVl hdk hu ho hv q0 q1 hx hm hb1
    go_wp2_with fail
    go_roundw
    case rel=>exact⟨i+1,_,rfl,by go_num,by omega,HV.out.1,HV.out.2.1,HV.out.2.2⟩
    case measure=>simp[intOf];omega
  ·obtain rfl:i=n:=by omega
   have hd:decide ((i:Int)<(i:Int))=false:=by simp
   have hfull:dreadTo D i k=dread D k:=by rw[HN.out];exact dreadTo_all D k
   rw[hfull]at hV hVl
   have hcl:=clone_ok (fun _=>True) V _ wr (hV.below_ hb) (by omega)
   have HL:=Lib.hid hVl
   clear hV hVl hfull
   go_wp2_with fail
   refine hcl.mono ?_
   rintro e w2 ⟨v2,rfl,o2,l2⟩
   have HO:=Lib.hid (And.intro (o2.weak hb.size) (hb.trans (l2.mono hb.size)))
   clear hcl o2 l2
   go_wp2_with fail
   go_ret2
   exact⟨_,rfl,HO.out.1,HL.out,HO.out.2⟩
end Go.Proofs.YtggmdjdflaglpaaGreat
namespace Go.Proofs.YtggmdjdflaglpaaGreat
open Go.RowKit
set_option linter.unusedVariables false
def dcrTo (D:Dsk) (ks:List Bool) (i k:Nat):By:=(kept (D.waits.take i) ks).foldl (dstep k) (D.lasts k)
def dcrashed (D:Dsk) (ks:List Bool):Dsk:=⟨fun k=>(kept D.waits ks).foldl (dstep k) (D.lasts k),[],D.refuses,D.cnt⟩
theorem dcrTo_succ (D:Dsk) (ks:List Bool) (i k:Nat) (o:Opn) (h:D.waits[i]? =some o):dcrTo D ks (i+1) k=if ks.getD i false then dstep k (dcrTo D ks i k) o else dcrTo D ks i k:=by
 have hi:(D.waits.take i).length=i:=by rw[List.length_take];have:=(List.getElem?_eq_some_iff.1 h).1;omega
 unfold dcrTo
 rw[List.take_add_one,h,show(some o).toList=[o]from rfl,kept_snoc,hi,List.foldl_append]
 split<;>rfl
theorem dcrTo_all (D:Dsk) (ks:List Bool) (k:Nat):dcrTo D ks D.waits.length k=(dcrashed D ks).lasts k:=by unfold dcrTo dcrashed;rw[List.take_length]
set_option maxHeartbeats 4000000 in
set_option maxRecDepth 100000 in
theorem dcrash_ok (ρ:Rl) (p d:Nat) (D:Dsk) (ks:List Bool) (kv:Value) (w:World) (hf:Fresh ρ w) (h:DskR ρ w p d D) (hc:D.cnt<=1000000) (hkv:HasK (fun b=>ρ b≠rDsk) w kv ks) (hkl:ks.length<=1000):
 Calls Tryz.prog 78 #[.pointer (some ⟨d,0,none⟩),kv] w fun e w'=>e=.returned (.tuple #[])/\DskR ρ w' p d (dcrashed D ks)/\Ste (fun r=>r=rDsk) ρ w ρ w':=by
 have hd0:=h.role
 obtain⟨vs,vW,vT,T,h1,h2,h3,h4,h5,h7,h8,h9⟩:=h
 obtain⟨Aw,cw,rfl⟩:=h4.form
 obtain⟨n,hn⟩:∃n,n=D.waits.length:=⟨_,rfl⟩
 rw[<-hn]at h1 h8
 have HN:=Lib.hid hn
 have hn1:n<=1000000:=by omega
 have cW:=h1.cell_ 33 dc33
 have hl1:=h1.lt
 obtain⟨Ak,ck,rfl,hkc⟩:=hkv
 obtain⟨nk,hnk⟩:∃nk,nk=ks.length:=⟨_,rfl⟩
 rw[<-hnk]at hkl ⊢
 have HK:=Lib.hid (And.intro hnk hkc)
 have H5:=Lib.hid (And.intro h5 h7)
 clear hn hnk hkc h5 h7
 go_enter Tryz.func78,Tryz.ntmps78
 go_wp2_with fail
 go_loopw [4,5,13] (fun _ _ t wr=>∃(i:Nat) (us:Nat->Value),t=.int .i64 i/\i<=n/\Blk wr d 123 (dcells p us (.slice Aw n cw) vT D.refuses)/\(∀k,k<32->HasP (ρ · =rImm) w (us k) (dcrTo D ks i k)/\(dcrTo D ks i k).length=32)/\Ch (fun b=>b=d) w wr) (fun _ _ t _=>n-(intOf t).toNat)
 case atStart=>exact⟨0,vs,rfl,by omega,h1,h3,Ch.refl _ _⟩
 case round=>
  obtain⟨i,us,rfl,hin,hB,hU,hch⟩:=hrel
  clear h1 cW h3
  by_cases hlt:i<n
  ·obtain⟨o,ho⟩:∃o,D.waits[i]? =some o:=⟨_,List.getElem?_eq_getElem (by have:=HN.out;omega)⟩
   have hsu:=fun k=>dcrTo_succ D ks i k o ho
   obtain⟨hnk,hkc⟩:=HK.out
   by_cases hik:i<nk
   ·rcases hkc with hkc|⟨bk,ok,rfl,hkr,hkb,hk1,hk2,hkcl⟩
    ·rw[hkc]at hnk;simp at hnk;omega
    obtain⟨x,hx⟩:∃x,ks[i]? =some x:=⟨_,List.getElem?_eq_getElem (by omega)⟩
    have hxd:ks.getD i false=x:=by rw[List.getD_eq_getElem?_getD,hx];rfl
    rw[hxd]at hsu
    have hkcell:=hkcl i x hx
    have nkd:¬(bk=d):=fun e=>hkr (by rw[e];exact hd0)
    have kx0:=(hch.cell (j:=ok+i) hkb nkd).trans hkcell
    have kx1:(i:Int)<(nk:Int):=by omega
    have hkbw:=Nat.lt_of_lt_of_le hkb hch.size
    clear hkcl hx hxd hkcell hk1 hk2 hnk
    cases x with
    |true=>
     obtain⟨rb,rc,u,hv,hrr,hrl,q0,q1,hu⟩:=h4.at_ ho
     obtain⟨rfl,rfl⟩:Aw=some ⟨rb,0,none⟩/\cw=rc:=by simpa using hv
     have hdk:=h9 o (List.mem_of_getElem? ho)
     obtain⟨A1,c1,rfl⟩:=hu.slice
     have n1:¬(rb=d):=fun e=>by rw[e]at hrr;rw[hd0]at hrr;exact absurd hrr (by decide)
     have j0:=(hch.cell (j:=i*2) hrl n1).trans q0
     have j1:=(hch.cell (j:=i*2+1) hrl n1).trans q1
     have m0:(0:Int)<=(i:Int):=by omega
     have m1:(i:Int)<(n:Int):=by omega
     obtain⟨f,hf0⟩:=Int.eq_ofNat_of_zero_le hdk.1
     have hf1:f<32:=by have:=hdk.2.1;omega
     obtain⟨m,hm⟩:∃m,m=o.bytes.length:=⟨_,rfl⟩
     have hU2:∀k,k<32->HasP (ρ · =rImm) w ((fun j=>if j=f then .slice A1 o.bytes.length c1 else us j) k) (dcrTo D ks (i+1) k)/\(dcrTo D ks (i+1) k).length=32:=fun k hk=>by
      rw[hsu,if_pos rfl]
      unfold dstep
      by_cases e:k=f
      ·subst e
       simp only[if_pos hf0,if_true]
       exact⟨hu,hdk.2.2⟩
      ·simp only[if_neg (show ¬o.off=(k:Int)by omega),if_neg e]
       exact hU k hk
     have m2:(0:Int)<=(f:Int):=by omega
     have m3:(f:Int)<32:=by omega
     rw[hf0]at j0
     rw[<-hm]at j1 hU2
     obtain⟨W,hW⟩:∃W,W=wr.alloc (.cells #[.int .i64 (f:Int),.slice A1 m c1] 119):=⟨_,rfl⟩
     have hX:Blk W wr.heap.size 119 #[.int .i64 (f:Int),.slice A1 m c1]:=by rw[hW];exact Blk.new wr 119 _
     have k0:W.drew.cell? ⟨wr.heap.size,0,none⟩=some (.int .i64 (f:Int)):=hX.drew.cell_ 0 rfl
     have k1:W.drew.cell? ⟨wr.heap.size,1,none⟩=some (.slice A1 m c1):=hX.drew.cell_ 1 rfl
     have hBW:Blk W.drew d 123 (dcells p us (.slice (some ⟨rb,0,none⟩) n cw) vT D.refuses):=by rw[hW];exact(hB.alloc _).drew
     have hchW:Ch (fun b=>b=d) w W.drew:=by rw[hW];exact(hch.trans (Ch.alloc_ _ _)).trans (Ch.drew_ _)
     have cf:=hBW.cell_ (1+f) (dck hf1)
     have ff:=hBW.frozen (1+f)
     have lW:=hBW.lt
     have HB:=Lib.hid (And.intro (hBW.set_to (1+f) (.slice A1 m c1) (dsk_ hf1 _)) (And.intro hU2 (hchW.trans (Ch.set_ (S:=fun b=>b=d) (p:=⟨d,1+f,none⟩) rfl _ (.slice A1 m c1)))))
     clear hX hBW hchW hB hU hch hU2 hu ho hv q0 q1 hdk hf0 hm h4 hsu
     go_wp2_with fail
     rw[<-hW]
     clear hW
     go_region_law (fail)
     all_goals
      go_wp2_with fail
      go_roundw
      case rel=>exact⟨i+1,_,by go_num,by omega,HB.out.1,HB.out.2.1,HB.out.2.2⟩
      case measure=>simp[intOf];omega
    |false=>
     obtain⟨rb,rc,u,hv,hrr,hrl,q0,q1,hu⟩:=h4.at_ ho
     obtain⟨rfl,rfl⟩:Aw=some ⟨rb,0,none⟩/\cw=rc:=by simpa using hv
     have hdk:=h9 o (List.mem_of_getElem? ho)
     obtain⟨A1,c1,rfl⟩:=hu.slice
     have n1:¬(rb=d):=fun e=>by rw[e]at hrr;rw[hd0]at hrr;exact absurd hrr (by decide)
     have j0:=(hch.cell (j:=i*2) hrl n1).trans q0
     have j1:=(hch.cell (j:=i*2+1) hrl n1).trans q1
     have m0:(0:Int)<=(i:Int):=by omega
     have m1:(i:Int)<(n:Int):=by omega
     obtain⟨f,hf0⟩:=Int.eq_ofNat_of_zero_le hdk.1
     have hf1:f<32:=by have:=hdk.2.1;omega
     obtain⟨m,hm⟩:∃m,m=o.bytes.length:=⟨_,rfl⟩
     have hU2:∀k,k<32->HasP (ρ · =rImm) w (us k) (dcrTo D ks (i+1) k)/\(dcrTo D ks (i+1) k).length=32:=fun k hk=>by
      rw[hsu,if_neg (by simp)]
      exact hU k hk
     rw[hf0]at j0
     rw[<-hm]at j1
     have HB:=Lib.hid (And.intro (hB.alloc (.cells #[.int .i64 (f:Int),.slice A1 m c1] 119)) (And.intro hU2 (hch.trans (Ch.alloc_ _ (.cells #[.int .i64 (f:Int),.slice A1 m c1] 119)))))
     clear hB hU hch hU2 hu ho hv q0 q1 hdk hf0 hm h4 hsu
     go_wp2_with fail
     go_roundw
     case rel=>exact⟨i+1,_,by go_num,by omega,HB.out.1,HB.out.2.1,HB.out.2.2⟩
     case measure=>simp[intOf];omega
   ·have hxd:ks.getD i false=false:=by rw[List.getD_eq_getElem?_getD,List.getElem?_eq_none (by omega)];rfl
    rw[hxd]at hsu
    have kx1:¬((i:Int)<(nk:Int)):=by omega
    clear hkc hxd hnk
    obtain⟨rb,rc,u,hv,hrr,hrl,q0,q1,hu⟩:=h4.at_ ho
    obtain⟨rfl,rfl⟩:Aw=some ⟨rb,0,none⟩/\cw=rc:=by simpa using hv
    have hdk:=h9 o (List.mem_of_getElem? ho)
    obtain⟨A1,c1,rfl⟩:=hu.slice
    have n1:¬(rb=d):=fun e=>by rw[e]at hrr;rw[hd0]at hrr;exact absurd hrr (by decide)
    have j0:=(hch.cell (j:=i*2) hrl n1).trans q0
    have j1:=(hch.cell (j:=i*2+1) hrl n1).trans q1
    have m0:(0:Int)<=(i:Int):=by omega
    have m1:(i:Int)<(n:Int):=by omega
    obtain⟨f,hf0⟩:=Int.eq_ofNat_of_zero_le hdk.1
    have hf1:f<32:=by have:=hdk.2.1;omega
    obtain⟨m,hm⟩:∃m,m=o.bytes.length:=⟨_,rfl⟩
    have hU2:∀k,k<32->HasP (ρ · =rImm) w (us k) (dcrTo D ks (i+1) k)/\(dcrTo D ks (i+1) k).length=32:=fun k hk=>by
     rw[hsu,if_neg (by simp)]
     exact hU k hk
    rw[hf0]at j0
    rw[<-hm]at j1
    have HB:=Lib.hid (And.intro (hB.alloc (.cells #[.int .i64 (f:Int),.slice A1 m c1] 119)) (And.intro hU2 (hch.trans (Ch.alloc_ _ (.cells #[.int .i64 (f:Int),.slice A1 m c1] 119)))))
    clear hB hU hch hU2 hu ho hv q0 q1 hdk hf0 hm h4 hsu
    go_wp2_with fail
    go_roundw
    case rel=>exact⟨i+1,_,by go_num,by omega,HB.out.1,HB.out.2.1,HB.out.2.2⟩
    case measure=>simp[intOf];omega
  ·obtain rfl:i=n:=by omega
   have hd':decide ((i:Int)<(i:Int))=false:=by simp
   have d33:=hB.cell_ 33 dc33
   have e33:=hB.frozen 33
   have hlr:=hB.lt
   have hB2:=hB.set_to 33 (.slice none 0 0) (ds33 (.slice none 0 0))
   have hch2:Ch (fun b=>b=d) w (wr.setCell ⟨d,33,none⟩ (.slice none 0 0)):=hch.trans (Ch.set_ (S:=fun b=>b=d) (p:=⟨d,33,none⟩) rfl _ _)
   have HH:=Lib.hid (And.intro hB2 (And.intro hU hch2))
   clear hB hB2 hU hch hch2 h4 h9
   go_wp2_with fail
   go_end0
   obtain⟨hB2,hU,hch2⟩:=HH.out
   obtain⟨h5,h7⟩:=H5.out
   have hst:Ste (fun r=>r=rDsk) ρ w ρ (wr.setCell ⟨d,33,none⟩ (.slice none 0 0)):=Ste.of_ch (hch2.mono (fun i e=>by rw[e];exact hd0)) hf
   have hkd:∀b,b<w.heap.size->ρ b≠rDsk->(wr.setCell ⟨d,33,none⟩ (.slice none 0 0)).heap[b]? =w.heap[b]? :=fun b hb e=>hch2.keep b hb (fun c=>e (by rw[c];exact hd0))
   refine⟨rfl,⟨_,_,_,T,hB2,hd0,fun k hk=>?_,OpRow.nil _ _ _,h5.keepR hch2.size (fun b hb e=>⟨hkd b hb (by rcases e with e|e<;>rw[e]<;>decide),rfl⟩),h7,Nat.zero_le _,fun o ho=>by simp[dcrashed]at ho⟩,hst⟩
   have:=hU k hk
   rw[HN.out,dcrTo_all]at this
   exact⟨this.1.keep hch2.size (fun b hb e=>hkd b hb (by rw[e];decide)),this.2⟩
end Go.Proofs.YtggmdjdflaglpaaGreat
