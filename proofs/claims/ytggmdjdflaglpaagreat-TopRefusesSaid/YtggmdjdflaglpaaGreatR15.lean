/- The ideal sealer: bytes as strings, bytes.Equal, the sums. The ideal sealer: Sum. The ideal sealer: Open. The ideal sealer: one more issue (no walk). The lock: ideal; its piece of the world; Sum, Open. -/
import Derived.Test.YtggmdjdflaglpaaGreatR11
import Derived.Test.YtggmdjdflaglpaaGreatR14
import Derived.Test.YtggmdjdflaglpaaGreatR07
import Derived.ChangeKeysEq
import Derived.Deep.RegionHeld3
namespace Go.Proofs.YtggmdjdflaglpaaGreat
open Go.RowKit Go.Maps
set_option linter.unusedVariables false
def bstr (l:By):ByteArray:=⟨l.toArray⟩
theorem bstr_inj {a b:By}(h:bstr a=bstr b):a=b:=by
 have:=congrArg (fun x=>x.data.toList) h
 simpa[bstr]using this
theorem HasP.conv {p:Nat->Prop}{w:World}{v:Value}{l:By}(h:HasP p w v l):(convert 32 9 v).run Tryz.prog w=.ok (.string (bstr l)) w:=by
 rcases h with⟨rfl,rfl⟩|⟨b,o,cap,rfl,h2,h3,h4,h5,h6⟩
 ·exact run_convert_bytes_nil (P:=Tryz.prog) w 32 5 Tryz.underlying32 Tryz.underlying5 0 0 9 Tryz.underlying9
 ·exact run_convert_bytes_back (P:=Tryz.prog) w 32 9 5 ⟨b,o,none⟩ cap l Tryz.underlying32 Tryz.underlying5 Tryz.underlying9 (fun j hj=>by
  rw[add_plain]
  exact h6 j _ (List.getElem?_eq_getElem hj))
theorem bequal_ok (p q:Nat->Prop) (u v:Value) (a b:By) (w:World) (h:HasP p w u a) (k:HasP q w v b):
 Calls Tryz.prog 93 #[u,v] w fun e w'=>e=.returned (.bool (decide (a=b)))/\w=w':=by
 have h1:=h.conv
 have k1:=k.conv
 obtain⟨x,hx⟩:∃x,x=bstr a:=⟨_,rfl⟩
 obtain⟨y,hy⟩:∃y,y=bstr b:=⟨_,rfl⟩
 rw[<-hx]at h1
 rw[<-hy]at k1
 have HX:=Lib.hid (And.intro hx hy)
 clear hx hy h k
 by_cases e:a=b
 ·have t:x=y:=by rw[HX.out.1,HX.out.2,e]
  have hd:decide (a=b)=true:=by simp[e]
  rw[hd]
  subst t
  clear hd e
  go_enter Tryz.func93,Tryz.ntmps93
  go_wp2_with fail
  go_ret
  exact⟨by simp,rfl⟩
 ·have t2:¬x.toList=y.toList:=by
   rw[HX.out.1,HX.out.2,ByteArray.toList_eq,ByteArray.toList_eq]
   simpa[bstr]using e
  have hd:decide (a=b)=false:=by simp[e]
  rw[hd]
  clear hd e
  go_enter Tryz.func93,Tryz.ntmps93
  go_wp2_with fail
  go_ret
  exact⟨by simp[t2],rfl⟩
abbrev sk (s:By):Lit:=.string s
theorem sk_key (s:By):WideAt.IsKeyLit (sk s):=by simp[WideAt.IsKeyLit]
theorem sk_of (s:By) (h:s.length<=maxLen):Go.keyOf Tryz.prog 9 (.string (bstr s))=some (sk s):=by
 have:=Go.WideMaps.keyOf_string_mk (P:=Tryz.prog) (k:=9) Tryz.underlying9 (s:=bstr s) (by simpa[bstr,ByteArray.size]using h)
 simpa[bstr]using this
def SX (D:DataW Unit) (L:List By):Prop:=
 IsMap D/\Tidy D/\(∀s,has D (sk s)=decide (s∈L))/\(∀(i:Nat) s,L[i]? =some s->∀zd,D.atKey (sk s) zd=.lit (.int .u64 ((i:Int)+1)))/\Maps.size D=L.length
theorem SX.start:SX (.map []) []:=⟨isMap_empty,tidy_empty,fun x=>by simp[has],fun i s h=>by simp at h,rfl⟩
theorem SX.put {D:DataW Unit}{L:List By}(h:SX D L) {s:By}(hs:s∉L) (hT:Tidy (D.put (sk s) (.lit (.int .u64 ((L.length:Int)+1))))):SX (D.put (sk s) (.lit (.int .u64 ((L.length:Int)+1)))) (L++[s]):=by
 obtain⟨h1,h2,h3,h4,h5⟩:=h
 refine⟨h1.put _ _,hT,fun x=>?_,fun i x hx zd=>?_,?_⟩
 ·by_cases e:x=s
  ·subst e
   rw[has_put_same h1 (sk_key _)]
   simp
  ·rw[has_put_other (fun c=>e (by injection c)),h3]
   simp[e]
 ·by_cases e:i<L.length
  ·rw[List.getElem?_append_left e]at hx
   have hne:x≠s:=fun c=>hs (by rw[<-c];exact List.mem_of_getElem? hx)
   rw[atKey_put_other (fun c=>hne (by injection c))]
   exact h4 i x hx zd
  ·have hil:=(List.getElem?_eq_some_iff.1 hx).1
   rw[List.length_append,List.length_singleton]at hil
   obtain rfl:i=L.length:=by omega
   rw[List.getElem?_append_right (Nat.le_refl _)]at hx
   simp at hx
   subst hx
   rw[atKey_put_same h1 (sk_key _)]
 ·rw[size_put h2,h3,h5]
  simp[hs]
structure Orc where
 iss:List Iss
 sums:List By
 sealing:Nat
theorem kd9:Keyed Tryz.prog 9:=string_keyed Tryz.underlying9
theorem zero30 (w:World):(zeroValue 30).run Tryz.prog w=.ok (.int .u64 0) w:=Tryz.zeroValue30 w
def OrcR (ρ:Rl) (w:World) (o:Nat) (O:Orc):Prop:=
 ∃(vI:Value) (b:Nat) (cs:List Value) (n:Nat) (D:DataW Unit),Blk w o 174 #[vI,.map (some b)]/\ρ o=rOrc/\w.ownsRow 0 176 10 vI O.iss.length cs/\(∀g,vI.ownBlock=some g->ρ g=rIss)/\
  RowV 10 (IssE (ρ · =rImm) w) cs O.iss/\w.ownsMap Tryz.prog 9 (plainElem (H:=Unit) Tryz.prog 30) b n D/\ρ b=rSum/\n<=O.sums.length/\SX D O.sums/\O.iss.length<=1000000/\O.sums.length<=1000000/\∀x∈O.iss,U2 x.key/\x.n.ok/\x.head.length<=4000/\x.data.length<=4000/\x.out.length<=4000/\U64 x.num
def rsOrc (r:Nat):Prop:=r=rImm\/r=rOrc\/r=rIss\/r=rSum
theorem OrcR.keep {ρ ρ':Rl}{w w':World}{o:Nat}{O:Orc}(h:OrcR ρ w o O) (hs:w.heap.size<=w'.heap.size) (hk:∀b,b<w.heap.size->rsOrc (ρ b)->w'.heap[b]? =w.heap[b]? /\ρ' b=ρ b):OrcR ρ' w' o O:=by
 obtain⟨vI,b,cs,n,D,h1,h2,h3,h4,h5,h6,h7,h8⟩:=h
 have k1:=hk o h1.lt (by rw[h2];simp[rsOrc])
 have k2:=hk b h6.lt (by rw[h7];simp[rsOrc])
 refine⟨vI,b,cs,n,D,k1.1.trans h1,k1.2.trans h2,row_keep h3 (fun g hg e=>(hk g hg (by rw[h4 g e];simp[rsOrc])).1),fun g e=>(hk g (row_lt h3 e) (by rw[h4 g e];simp[rsOrc])).2.trans (h4 g e),?_,?_,k2.2.trans h7,h8⟩
 ·refine h5.weak (fun c x _ hx=>?_)
  have:=(hx.weak (q:=fun b=>ρ b=rImm/\ρ' b=rImm) (fun b hb e=>⟨e,(hk b hb (by rw[e];simp[rsOrc])).2.trans e⟩)).keep hs (fun b hb e=>(hk b hb (by rw[e.1];simp[rsOrc])).1)
  exact this.weak (fun b _ e=>e.2)
 ·obtain⟨es,clock,hm,h2⟩:=h6
  exact⟨es,clock,k2.1.trans hm,h2⟩
end Go.Proofs.YtggmdjdflaglpaaGreat
namespace Go.Proofs.YtggmdjdflaglpaaGreat
open Go.RowKit Go.Maps
set_option linter.unusedVariables false
def rtOrc (r:Nat):Prop:=r=rOrc\/r=rIss\/r=rSum
def kSum:Int:=17216961135462248174
def sumsOf (L:List By) (s:By):List By:=if s∈L then L else L++[s]
def osum (O:Orc) (s:By):Orc:={O with sums:=sumsOf O.sums s}
theorem Rows.below_ {w w':World}{v:Value}{Ls:List By}(h:Rows w v Ls) (hb:Below w.heap.size w w'):Rows w' v Ls:=by
 obtain⟨b,off,cap,h1,h2,h3,h4⟩:=h
 refine⟨b,off,cap,h1,Nat.lt_of_lt_of_le h2 hb.size,h3,fun j l hj=>?_⟩
 obtain⟨h5,vj,h6,h7⟩:=h4 j l hj
 exact⟨h5,vj,(hb.cell (p:=⟨b,off+j,Option.none⟩) h2).trans h6,h7.below_ hb⟩
theorem Ch.then_only {S:Nat->Prop}{a b c:World}{g:Nat}(h:Ch S a b) (k:b.grownBy c (some g)) (hg:a.heap.size<=g):Ch S a c:=
 ⟨k.os.trans h.os,k.tape.trans h.tape,k.output.trans h.output,Nat.le_trans h.size k.size,fun i hi hn=>(k.block i (Nat.lt_of_lt_of_le hi h.size) (fun e=>by injection e with e;omega)).trans (h.keep i hi hn)⟩
theorem sum_has {b:Nat}{n:Nat}{D:DataW Unit}{L:List By}(h:SX D L) {s:By}{c:Int}(hat:D.atKey (sk s) (.lit (.int .u64 0))=.lit (.int .u64 c)) (hm:s∈L):c=(L.idxOf s:Int)+1:=by
 have hi:L[L.idxOf s]? =some s:=by
  have:=List.idxOf_lt_length_of_mem hm
  rw[List.getElem?_eq_getElem this,List.getElem_idxOf this]
 rw[h.2.2.2.1 _ s hi]at hat
 injection hat with hat
 injection hat with _ hat
 exact hat.symm
set_option maxHeartbeats 4000000 in
set_option maxRecDepth 100000 in
theorem osum_ok (ρ:Rl) (o:Nat) (O:Orc) (v:Value) (Ls:List By) (w:World) (hf:Fresh ρ w) (h:OrcR ρ w o O) (hR:Rows w v Ls) (ht:total Ls<=100000) (hc:O.sums.length<1000000):
 Calls Tryz.prog 59 #[.pointer (some ⟨o,0,none⟩),v] w fun e w'=>e=.returned (.agg #[.int .u64 kSum,.int .u64 ((O.sums.idxOf Ls.flatten:Int)+1)])/\OrcR ρ w' o (osum O Ls.flatten)/\Ste rtOrc ρ w ρ w':=by
 have hcat:=concat_ok v Ls (w.alloc (.cells #[.int .u64 0,.int .u64 0] 101)) (hR.below_ ((Below.refl _ _).alloc (Nat.le_refl _) _)) ht
 have hsl:Ls.flatten.length<=100000:=by rw[flat_len];exact ht
 obtain⟨s,hs⟩:∃s,s=Ls.flatten:=⟨_,rfl⟩
 rw[<-hs]at hcat hsl ⊢
 have H:=Lib.hid h
 have ho:=(show o<w.heap.size by obtain⟨_,_,_,_,_,h1,_⟩:=h;exact h1.lt)
 have ho0:=(show ρ o=rOrc by obtain⟨_,_,_,_,_,_,h1,_⟩:=h;exact h1)
 have hkey:=sk_of s (by unfold maxLen;omega)
 clear h hR hs
 go_enter Tryz.func59,Tryz.ntmps59
 go_wp2_with fail
 refine hcat.mono ?_
 rintro e w1 ⟨v1,rfl,o1,l1⟩
 have hbw:Below w.heap.size w w1:=((Below.refl _ _).alloc (Nat.le_refl _) _).trans (l1.mono (by simp))
 have hB:Blk w1 w.heap.size 101 #[.int .u64 0,.int .u64 0]:=(Blk.new w 101 _).below_ l1
 have hS1:OrcR ρ w1 o O:=H.out.keep hbw.size (fun b hb _=>⟨hbw.block b hb,rfl⟩)
 have hcv:=o1.has.conv
 obtain⟨vI,b,cs,n,D,h1,h2,h3,h4,h5,h6,h7,h8,h9,h10,h11,h12⟩:=hS1
 have c1:=h1.cell_ 1 rfl
 have hl1:=h1.lt
 have hsx:=Lib.hid h9
 have hB0:=hB.cell_ 0 rfl
 have hB1:=hB.cell_ 1 rfl
 have f0:=hB.frozen 0
 have f1:=hB.frozen 1
 have hlB:=hB.lt
 have hsz:=h9.2.2.2.2
 have hz:=zero30 w1
 clear hcat o1 l1
 by_cases hm:s∈O.sums
 ·have hh:has D (sk s)=true:=by rw[h9.2.2.1];simp[hm]
  have hval:∀c,D.atKey (sk s) (.lit (.int .u64 0))=.lit (.int .u64 c)->c=(O.sums.idxOf s:Int)+1:=fun c hc=>sum_has (b:=0) (n:=0) hsx.out hc hm
  obtain⟨k,hk⟩:∃k:Int,k=(O.sums.idxOf s:Int)+1:=⟨_,rfl⟩
  rw[<-hk]at hval
  have HK:=Lib.hid hk
  have HH:=Lib.hid (And.intro h1 (And.intro h2 (And.intro h3 (And.intro h4 (And.intro h5 (And.intro h6 (And.intro h7 (And.intro h8 (And.intro h9 (And.intro h10 (And.intro h11 h12)))))))))))
  have h6':=h6
  clear h1 h3 h4 h5 h7 h8 h9 h10 h11 h12 hk hsz
  go_wp2_with (at_lookup;refine wpList_lookup_own_ok_int _ rfl _ _ 172 rfl 9 30 .u64 kd9 Tryz.underlying172 Tryz.underlying30 hz b n D rfl h6' _ (.string s) rfl hkey ?_;intro c hat hwc;rw[show has D (Lit.string s)=true from hh,hval c hat])
  have hf2:=(hB.set_ 0 (.int .u64 17216961135462248174)).set_ 1 (.int .u64 k)
  have ra:((w1.setCell ⟨w.heap.size,0,Option.none⟩ (.int .u64 17216961135462248174)).setCell ⟨w.heap.size,1,Option.none⟩ (.int .u64 k)).cell? ⟨w.heap.size,0,Option.none⟩=some (.int .u64 17216961135462248174):=hf2.cell_ 0 rfl
  have rb:((w1.setCell ⟨w.heap.size,0,Option.none⟩ (.int .u64 17216961135462248174)).setCell ⟨w.heap.size,1,Option.none⟩ (.int .u64 k)).cell? ⟨w.heap.size,1,Option.none⟩=some (.int .u64 k):=hf2.cell_ 1 rfl
  have hbl:=below_only hbw (only_set2 w1 w.heap.size 0 1 (.int .u64 17216961135462248174) (.int .u64 k)) hbw.size (Nat.le_refl _)
  refine bodyPost_ret (v:=.agg #[.int .u64 17216961135462248174,.int .u64 k]) (by simp[results,Tryz.results59,go_sem,ra,rb]) rfl ⟨by rw[HK.out];rfl,?_,Ste.of_below hbl hf⟩
  have:osum O s=O:=by unfold osum sumsOf;rw[if_pos hm]
  rw[this]
  exact H.out.keep hbl.size (fun b hb _=>⟨hbl.block b hb,rfl⟩)
 ·have hh:has D (sk s)=false:=by rw[h9.2.2.1];simp[hm]
  have hk0:(O.sums.idxOf s:Int)=O.sums.length:=by rw[List.idxOf_eq_length hm]
  obtain⟨k,hk⟩:∃k:Nat,k=O.sums.length:=⟨_,rfl⟩
  have hkb:k<1000000:=by omega
  have hnm:n<maxLen:=by unfold maxLen;omega
  rw[<-hk]at hsz
  have HK:=Lib.hid (And.intro hk hk0)
  have hn1:o≠b:=fun e=>by rw[<-e,ho0]at h7;exact absurd h7 (by decide)
  have hn2:w.heap.size≠b:=fun e=>by rw[<-e,hf _ (Nat.le_refl _)]at h7;exact absurd h7 (by decide)
  have h6':=h6
  have hpv:plainElem (H:=Unit) Tryz.prog 30 (.int .u64 ((k:Int)+1))=some (.lit (.int .u64 ((k:Int)+1)),[]):=plainElem_int Tryz.underlying30 (by simp[Lit.wf,IntKind.min,IntKind.max,IntKind.bits,IntKind.signed];omega)
  have HH:=Lib.hid (And.intro h1 (And.intro h2 (And.intro h3 (And.intro h4 (And.intro h5 (And.intro h6 (And.intro h7 (And.intro h8 (And.intro h9 (And.intro h10 (And.intro h11 h12)))))))))))
  have HSZ:=Lib.hid hsz
  have HB:=Lib.hid hB
  have HN2:=Lib.hid hn2
  clear h1 h3 h4 h5 h7 h8 h9 h10 h11 h12 hk hk0 hsz hB hn1 hn2 h2 hB0 hB1 f0 f1
  go_wp2_with (first
   |(at_lookup;refine wpList_lookup_own_ok_int _ rfl _ _ 172 rfl 9 30 .u64 kd9 Tryz.underlying172 Tryz.underlying30 hz b n D rfl h6' _ (.string s) rfl hkey ?_;intro c hat hwc;rw[show has D (Lit.string s)=false from hh])
   |(at_len;refine wpList_len_own _ rfl _ 172 rfl 9 30 Tryz.underlying172 _ b n D rfl h6' ?_;rw[HSZ.out])
   |(at_mapUpdate;refine wpList_mapUpdate_own _ rfl _ _ _ 172 rfl 9 30 kd9 Tryz.underlying172 _ b n D rfl h6' hnm _ _ (.string s) rfl rfl hkey _ [] hpv ?_;intro w2 hown2 hgrow2;have HG2:=Lib.hid (And.intro hown2 hgrow2);have hB2:=HB.out.grown hgrow2 (fun e=>HN2.out (by injection e));have HB2:=Lib.hid hB2;have g0:=hB2.cell_ 0 rfl;have g1:=hB2.cell_ 1 rfl;have f0:=hB2.frozen 0;have f1:=hB2.frozen 1;have l2:=hB2.lt;clear hown2 hgrow2 hB2 h6'))
  obtain⟨h1,h2,h3,h4,h5,h6,h7,h8,h9,h10,h11,h12⟩:=HH.out
  obtain⟨hown2,hgrow2⟩:=HG2.out
  have hf2:=(HB2.out.set_ 0 (.int .u64 17216961135462248174)).set_ 1 (.int .u64 ((k:Int)+1))
  have ra:((w2.setCell ⟨w.heap.size,0,Option.none⟩ (.int .u64 17216961135462248174)).setCell ⟨w.heap.size,1,Option.none⟩ (.int .u64 ((k:Int)+1))).cell? ⟨w.heap.size,0,Option.none⟩=some (.int .u64 17216961135462248174):=hf2.cell_ 0 rfl
  have rb:((w2.setCell ⟨w.heap.size,0,Option.none⟩ (.int .u64 17216961135462248174)).setCell ⟨w.heap.size,1,Option.none⟩ (.int .u64 ((k:Int)+1))).cell? ⟨w.heap.size,1,Option.none⟩=some (.int .u64 ((k:Int)+1)):=hf2.cell_ 1 rfl
  have hg23:=only_set2 w2 w.heap.size 0 1 (.int .u64 17216961135462248174) (.int .u64 ((k:Int)+1))
  have hch:Ch (fun i=>i=b) w _:=((Ch.of_below hbw).trans (Ch.of_grown (S:=fun i=>i=b) hgrow2 rfl)).then_only hg23 (Nat.le_refl _)
  obtain⟨w3,hw3⟩:∃w3,w3=(w2.setCell ⟨w.heap.size,0,Option.none⟩ (.int .u64 17216961135462248174)).setCell ⟨w.heap.size,1,Option.none⟩ (.int .u64 ((k:Int)+1)):=⟨_,rfl⟩
  have hkey2:(k:Int)+1=(O.sums.idxOf s:Int)+1:=by rw[HK.out.2,HK.out.1]
  refine bodyPost_ret (v:=.agg #[.int .u64 17216961135462248174,.int .u64 ((k:Int)+1)]) (by simp[results,Tryz.results59,go_sem,ra,rb]) rfl ⟨by rw[hkey2];rfl,?_,⟨hch.mono (fun i e=>by rw[e,h7];simp[rtOrc]),fun _ _=>rfl,fun i hi=>hf i (Nat.le_trans hch.size hi)⟩⟩
  rw[<-hw3]at hch hg23 ⊢
  have hch1:Ch (fun i=>i=b\/i=w.heap.size) w1 w3:=(Ch.of_grown (S:=fun i=>i=b\/i=w.heap.size) hgrow2 (.inl rfl)).trans (Ch.of_grown hg23 (.inr rfl))
  have hkp:∀i,i<w1.heap.size->ρ i≠0->ρ i≠rSum->w3.heap[i]? =w1.heap[i]? :=fun i hi e1 e2=>hch1.keep i hi (by
   rintro(e|e)
   ·rw[e]at e2;exact e2 h7
   ·rw[e]at e1;exact e1 (hf _ (Nat.le_refl _)))
  have hown3:w3.ownsMap Tryz.prog 9 (plainElem (H:=Unit) Tryz.prog 30) b (n+1) _:=hown2.kept hg23 (fun e=>HN2.out (Option.some.inj e).symm)
  have hos:osum O s={O with sums:=O.sums++[s]}:=by unfold osum sumsOf;rw[if_neg hm]
  rw[hos]
  rw[HK.out.1]at hown3
  refine⟨vI,b,cs,n+1,_,?_,h2,row_keep h3 (fun g hg e=>hkp g hg (by rw[h4 g e];decide) (by rw[h4 g e];decide)),h4,?_,hown3,h7,by simp;omega,SX.put h9 hm (hown3.tidy kd9),h10,by simp;omega,h12⟩
  ·exact(hch1.keep o hl1 (by
   rintro(e|e)
   ·rw[e]at ho0;rw[h7]at ho0;exact absurd ho0 (by decide)
   ·omega)).trans h1
  ·exact h5.weak (fun c x _ hx=>hx.keep hch1.size (fun i hi e=>hkp i hi (by rw[e];decide) (by rw[e];decide)))
end Go.Proofs.YtggmdjdflaglpaaGreat
namespace Go.Proofs.YtggmdjdflaglpaaGreat
open Go.RowKit
set_option linter.unusedVariables false
theorem cellsOf30:Tryz.prog.cellsOf 30=1:=by kernel_rfl
theorem eqin_pair (a b c d:Int) (w:World):(Op.equalIn 10000 101 (.agg #[.int .u64 a,.int .u64 b]) (.agg #[.int .u64 c,.int .u64 d])).run Tryz.prog w=.ok (a == c&&b == d) w:=by
 obtain⟨i0,hi,_⟩:=info_parts info30
 rw[show(10000:Nat)=9999+1 from rfl,run_equalIn_array w 9999 _ _ Tryz.underlying101 hi,cellsOf30]
 show(Sem.run Tryz.prog (Op.eqItems 9999 30 1 #[.int .u64 a,.int .u64 b] #[.int .u64 c,.int .u64 d] [0,1]) w)=_
 simp[Op.eqItems,go_sem]
 by_cases h1:a=c<;>by_cases h2:b=d<;>simp[h1,h2]
theorem eq_pair (a b c d:Int) (w:World):(binOp .eql 101 (.agg #[.int .u64 a,.int .u64 b]) (.agg #[.int .u64 c,.int .u64 d])).run Tryz.prog w=.ok (.bool (a == c&&b == d)) w:=by
 obtain⟨i0,hi,_⟩:=info_parts info30
 rw[run_eql_struct,show(10000:Nat)=9999+1 from rfl,run_equalIn_array w 9999 _ _ Tryz.underlying101 hi,cellsOf30]
 show((Sem.run Tryz.prog (Op.eqItems 9999 30 1 #[.int .u64 a,.int .u64 b] #[.int .u64 c,.int .u64 d] [0,1]) w).andThen fun b w'=>Result.ok (Value.bool b) w')=_
 simp[Op.eqItems,go_sem]
 by_cases h1:a=c<;>by_cases h2:b=d<;>simp[h1,h2]
theorem eq_nonce (a b c d e f:Int) (w:World):(binOp .eql 99 (.agg #[.int .u32 a,.int .u32 b,.int .u64 c]) (.agg #[.int .u32 d,.int .u32 e,.int .u64 f])).run Tryz.prog w=.ok (.bool (a == d&&b == e&&c == f)) w:=by
 simp[go_sem]
 by_cases h1:a=d<;>by_cases h2:b=e<;>by_cases h3:c=f<;>simp[h1,h2,h3]
instance:DecidableEq Nce:=fun a b=>by
 cases a;cases b
 simp only[Nce.mk.injEq]
 exact inferInstance
def isIss (key:Two) (n:Nce) (head b:By) (tag:Two) (x:Iss):Bool:=
 decide (x.key=key)&&decide (x.n=n)&&decide (((kSeal,x.num):Two)=tag)&&decide (x.head=head)&&decide (x.out=b)
def oopen (L:List Iss) (key:Two) (n:Nce) (head b:By) (tag:Two):Option By:=(L.find? (isIss key n head b tag)).map (·.data)
theorem find_at {α:Type}(L:List α) (f:α->Bool) (i:Nat) (x:α) (hx:L[i]? =some x) (hno:∀j y,j<i->L[j]? =some y->f y=false) (hf:f x=true):L.find? f=some x:=by
 rw[List.find?_eq_some_iff_getElem]
 have hil:=(List.getElem?_eq_some_iff.1 hx).1
 refine⟨hf,i,hil,(List.getElem?_eq_some_iff.1 hx).2,fun j hj=>?_⟩
 have:=hno j _ hj (List.getElem?_eq_getElem (by omega))
 simp[this]
def nv (n:Nce):Value:=.agg #[.int .u32 n.ep,.int .u32 n.slot,.int .u64 n.ver]
set_option maxHeartbeats 8000000 in
set_option maxRecDepth 100000 in
theorem oopen_ok (ρ:Rl) (p q:Nat->Prop) (o:Nat) (O:Orc) (key:Two) (n:Nce) (vh:Value) (head:By) (vb:Value) (b:By) (tag:Two) (w:World) (h:OrcR ρ w o O) (hh:HasP p w vh head) (hb:HasP q w vb b):
 Calls Tryz.prog 58 #[.pointer (some ⟨o,0,none⟩),pv key,nv n,vh,.agg #[vb,.int .u64 tag.1,.int .u64 tag.2]] w fun e w'=>
  ∃v,e=.returned (.tuple #[v,.bool (oopen O.iss key n head b tag).isSome])/\OwnB w.heap.size w' v ((oopen O.iss key n head b tag).getD [])/\Below w.heap.size w w':=by
 unfold pv nv
 obtain⟨ka,kb⟩:=key
 obtain⟨ne,ns,nr⟩:=n
 obtain⟨ta,tb⟩:=tag
 simp only
 obtain⟨vI,bm,cs,mn,D,h1,h2,h3,h4,h5,_,_,_,_,h10,_,h12⟩:=h
 obtain⟨AI,cI,rfl⟩:=row_form h3
 obtain⟨m,hm⟩:∃m,m=O.iss.length:=⟨_,rfl⟩
 rw[<-hm]at h1 h3
 have hmb:m<=1000000:=by omega
 have HM:=Lib.hid hm
 obtain⟨W,hW⟩:∃W,W=((w.alloc (.cells #[.int .u64 ka,.int .u64 kb] 101)).alloc (.cells #[.int .u32 ne,.int .u32 ns,.int .u64 nr] 99)).alloc (.cells #[vb,.int .u64 ta,.int .u64 tb] 157):=⟨_,rfl⟩
 have hbw:Below w.heap.size w W:=by rw[hW];exact(((Below.refl _ _).alloc (Nat.le_refl _) _).alloc (by simp) _).alloc (by simp;omega) _
 have hB0:Blk W w.heap.size 101 #[.int .u64 ka,.int .u64 kb]:=by rw[hW];exact((Blk.new w 101 _).alloc _).alloc _
 have hB1:Blk W (w.heap.size+1) 99 #[.int .u32 ne,.int .u32 ns,.int .u64 nr]:=by
  rw[hW]
  have:=Blk.new (w.alloc (.cells #[.int .u64 ka,.int .u64 kb] 101)) 99 #[.int .u32 ne,.int .u32 ns,.int .u64 nr]
  rw[World.size_alloc]at this
  exact this.alloc _
 have hB2:Blk W (w.heap.size+1+1) 157 #[vb,.int .u64 ta,.int .u64 tb]:=by
  rw[hW]
  have:=Blk.new ((w.alloc (.cells #[.int .u64 ka,.int .u64 kb] 101)).alloc (.cells #[.int .u32 ne,.int .u32 ns,.int .u64 nr] 99)) 157 #[vb,.int .u64 ta,.int .u64 tb]
  rw[World.size_alloc,World.size_alloc]at this
  exact this
 have hWs:=hbw.size
 have h1W:=h1.below_ hbw
 have c0:=h1W.cell_ 0 rfl
 have hlo:=h1W.lt
 have HP:=Lib.hid (And.intro hh hb)
 have HR:=Lib.hid (And.intro h3 (And.intro h5 h12))
 clear h1 h1W hh hb h3 h5 h12 hm
 have c0':=c0
 rw[hW]at c0'
 go_enter Tryz.func58,Tryz.ntmps58
 go_wp2_with fail
 rw[<-hW]
 clear hW c0'
 have HW:=Lib.hid (And.intro hbw (And.intro hB0 (And.intro hB1 hB2)))
 clear hbw hB0 hB1 hB2
 go_loopw [13,21] (fun _ t wr=>∃i:Nat,t=.int .i64 i/\i<=m/\(∀j x,j<i->O.iss[j]? =some x->isIss (ka,kb) ⟨ne,ns,nr⟩ head b (ta,tb) x=false)/\Below W.heap.size W wr) (fun _ t _=>m-(intOf t).toNat)
 case atStart=>exact⟨0,rfl,by omega,fun j x hj=>by omega,Below.refl _ _⟩
 case round=>
  obtain⟨i,rfl,hi,hno,hr⟩:=hrel
  have HN:=Lib.hid hno
  clear hno
  by_cases hlt:i<m
  ·obtain⟨x,hx⟩:∃x,O.iss[i]? =some x:=⟨_,List.getElem?_eq_getElem (by have:=HM.out;omega)⟩
   obtain⟨hbw,hB0,hB1,hB2⟩:=HW.out
   obtain⟨h3,h5,h12⟩:=HR.out
   obtain⟨hh,hb⟩:=HP.out
   obtain⟨e,⟨xh,xd,xo,rfl,e1,e2,e3⟩,el,ec⟩:=h5.at_ hx
   obtain⟨u1,u2,u3,u4,u5,u6⟩:=h12 x (List.mem_of_getElem? hx)
   have hbr:Below w.heap.size w wr:=hbw.trans (hr.mono hWs)
   obtain⟨gI,cI',hAI⟩:=ownsRow_form2 h3 (by omega)
   obtain⟨rfl,rfl⟩:AI=some ⟨gI,0,none⟩/\cI=cI':=by simpa using hAI
   have hgl:=row_lt h3 (b:=gI) rfl
   have hrow:=h3.cells (g:=gI) rfl
   have hcell:∀k u,(icells x xh xd xo)[k]? =some u->wr.cell? ⟨gI,i*10+k,none⟩=some u:=fun k u hk=>by
    have:=hrow (i*10+k) u (ec k u hk)
    rw[add_plain,Nat.zero_add]at this
    exact(hbr.cell (p:=⟨gI,i*10+k,none⟩) hgl).trans this
   obtain⟨⟨x1,x2⟩,⟨y1,y2,y3⟩,xhead,xdata,xout,xn⟩:=x
   simp only at e1 e2 e3 u1 u2 u3 u4 u5 u6
   obtain⟨Ah,ch,rfl⟩:=e1.slice
   obtain⟨Ad,cd,rfl⟩:=e2.slice
   obtain⟨Ao,co,rfl⟩:=e3.slice
   obtain⟨n1,hn1⟩:∃n1,n1=xhead.length:=⟨_,rfl⟩
   obtain⟨n2,hn2⟩:∃n2,n2=xdata.length:=⟨_,rfl⟩
   obtain⟨n3,hn3⟩:∃n3,n3=xout.length:=⟨_,rfl⟩
   rw[<-hn1,<-hn2,<-hn3]at hcell
   rw[<-hn1]at e1
   rw[<-hn2]at e2
   rw[<-hn3]at e3
   have HNL:=Lib.hid (And.intro hn1 (And.intro hn2 hn3))
   have hdl:xdata.length<=4000:=by omega
   clear hn1 hn2 hn3
   have d0:=hcell 0 _ rfl
   have d1:=hcell 1 _ rfl
   have d2:=hcell 2 _ rfl
   have d3:=hcell 3 _ rfl
   have d4:=hcell 4 _ rfl
   have d5:=hcell 5 _ rfl
   have d6:=hcell 6 _ rfl
   have d7:=hcell 7 _ rfl
   have d8:=hcell 8 _ rfl
   have d9:=hcell 9 _ rfl
   simp only[Nat.add_zero]at d0
   have m0:(0:Int)<=(i:Int):=by omega
   have m1:(i:Int)<(m:Int):=by omega
   obtain⟨X,hX⟩:∃X,X=wr.alloc (.cells #[.int .u64 x1,.int .u64 x2,.int .u32 y1,.int .u32 y2,.int .u64 y3,.slice Ah n1 ch,.slice Ad n2 cd,.slice Ao n3 co,.int .u64 kSeal,.int .u64 xn] 176):=⟨_,rfl⟩
   have hXb:Blk X wr.heap.size 176 #[.int .u64 x1,.int .u64 x2,.int .u32 y1,.int .u32 y2,.int .u64 y3,.slice Ah n1 ch,.slice Ad n2 cd,.slice Ao n3 co,.int .u64 kSeal,.int .u64 xn]:=by rw[hX];exact Blk.new wr 176 _
   have hrX:Below W.heap.size W X:=by rw[hX];exact hr.alloc hr.size _
   have hwX:Below w.heap.size w X:=hbw.trans (hrX.mono hWs)
   have f0:=hXb.cell_ 0 rfl
   have f1:=hXb.cell_ 1 rfl
   have f2:=hXb.cell_ 2 rfl
   have f3:=hXb.cell_ 3 rfl
   have f4:=hXb.cell_ 4 rfl
   have f5:=hXb.cell_ 5 rfl
   have f6:=hXb.cell_ 6 rfl
   have f7:=hXb.cell_ 7 rfl
   have f8:=hXb.cell_ 8 rfl
   have f9:=hXb.cell_ 9 rfl
   have a0:=(hB0.below_ hrX).cell_ 0 rfl
   have a1:=(hB0.below_ hrX).cell_ 1 rfl
   have b0:=(hB1.below_ hrX).cell_ 0 rfl
   have b1:=(hB1.below_ hrX).cell_ 1 rfl
   have b2:=(hB1.below_ hrX).cell_ 2 rfl
   have g0:=(hB2.below_ hrX).cell_ 0 rfl
   have g1:=(hB2.below_ hrX).cell_ 1 rfl
   have g2:=(hB2.below_ hrX).cell_ 2 rfl
   have l0:=(hB0.below_ hrX).lt
   have l1:=(hB1.below_ hrX).lt
   have l2:=(hB2.below_ hrX).lt
   have lX:=hXb.lt
   obtain⟨s8,hs8⟩:∃s8,s8=kSeal:=⟨_,rfl⟩
   have q1:=fun W':World=>eqin_pair x1 x2 ka kb W'
   have q2:=fun W':World=>eqin_pair s8 xn ta tb W'
   have z1:=bequal_ok _ p (.slice Ah n1 ch) vh xhead head X (e1.below_ hwX) (hh.below_ hwX)
   have z2:=bequal_ok _ q (.slice Ao n3 co) vb xout b X (e3.below_ hwX) (hb.below_ hwX)
   have z3:=clone_ok _ (.slice Ad n2 cd) xdata X (e2.below_ hwX) (by omega)
   rw[<-hs8]at d8 f8 hX
   have HH:=Lib.hid (And.intro hrX (And.intro hwX (And.intro hx hs8)))
   clear hcell hrow h3 h5 h12 e1 e2 e3 el ec hXb hB0 hB1 hB2 hbr hr hAI hx hs8 hbw hrX hwX hh hb
   subst hX
   by_cases hk:x1=ka/\x2=kb
   ·obtain⟨rfl,rfl⟩:=hk
    by_cases hn:y1=ne/\y2=ns/\y3=nr
    ·obtain⟨rfl,rfl,rfl⟩:=hn
     by_cases ht:s8=ta/\xn=tb
     ·obtain⟨rfl,rfl⟩:=ht
      by_cases hhd:xhead=head
      ·rw[show decide (xhead=head)=true by simp[hhd]]at z1
       have HHD:=Lib.hid hhd
       clear hhd
       by_cases hou:xout=b
       ·rw[show decide (xout=b)=true by simp[hou]]at z2
        have HOU:=Lib.hid hou
        clear hou
        go_wp2_with (first|(go_at_call 93;refine z1.mono ?_;rintro e w1 ⟨rfl,rfl⟩)|(go_at_call 93;refine z2.mono ?_;rintro e w1 ⟨rfl,rfl⟩)|(go_at_call 49;refine z3.mono ?_;rintro e w2 ⟨v2,rfl,o2,l2⟩))
        go_ret2
        obtain⟨hrX,hwX,hx,hs8⟩:=HH.out
        have hfd:oopen O.iss (x1,x2) ⟨y1,y2,y3⟩ head b (s8,xn)=some xdata:=by
         unfold oopen
         rw[find_at O.iss _ i _ hx (fun j y hj hy=>HN.out j y hj hy) (by simp[isIss,HHD.out,HOU.out,hs8])]
         rfl
        rw[hfd]
        exact⟨_,rfl,o2.weak hwX.size,hwX.trans (l2.mono hwX.size)⟩
       ·rw[show decide (xout=b)=false by simp[hou]]at z2
        have HOU:=Lib.hid hou
        clear hou
        go_wp2_with (first|(go_at_call 93;refine z1.mono ?_;rintro e w1 ⟨rfl,rfl⟩)|(go_at_call 93;refine z2.mono ?_;rintro e w1 ⟨rfl,rfl⟩))
        go_roundw
        case rel=>
         obtain⟨hrX,hwX,hx,hs8⟩:=HH.out
         refine⟨i+1,by go_num,by omega,fun j y hj hy=>?_,hrX⟩
         by_cases c:j=i
         ·subst c
          rw[hx]at hy
          injection hy with hy
          subst hy
          simp[isIss,HOU.out]
         ·exact HN.out j y (by omega) hy
        case measure=>simp[intOf];omega
      ·rw[show decide (xhead=head)=false by simp[hhd]]at z1
       have HHD:=Lib.hid hhd
       clear hhd
       go_wp2_with (first|(go_at_call 93;refine z1.mono ?_;rintro e w1 ⟨rfl,rfl⟩))
       go_roundw
       case rel=>
        obtain⟨hrX,hwX,hx,hs8⟩:=HH.out
        refine⟨i+1,by go_num,by omega,fun j y hj hy=>?_,hrX⟩
        by_cases c:j=i
        ·subst c
         rw[hx]at hy
         injection hy with hy
         subst hy
         simp[isIss,HHD.out]
        ·exact HN.out j y (by omega) hy
       case measure=>simp[intOf];omega
     ·have k2:(s8 == ta&&xn == tb)=false:=by rw[Bool.and_eq_false_iff];simp only[beq_eq_false_iff_ne];exact Decidable.not_and_iff_or_not.1 ht
      have HT:=Lib.hid ht
      clear ht
      go_wp2_with fail
      go_roundw
      case rel=>
       obtain⟨hrX,hwX,hx,hs8⟩:=HH.out
       refine⟨i+1,by go_num,by omega,fun j y hj hy=>?_,hrX⟩
       by_cases c:j=i
       ·subst c
        rw[hx]at hy
        injection hy with hy
        subst hy
        have:¬((kSeal,xn):Two)=(ta,tb):=fun e=>HT.out ⟨by rw[hs8];exact(Prod.mk.inj e).1,(Prod.mk.inj e).2⟩
        simp[isIss,this]
       ·exact HN.out j y (by omega) hy
      case measure=>simp[intOf];omega
    ·have hn':¬(⟨y1,y2,y3⟩:Nce)=⟨ne,ns,nr⟩:=fun e=>hn (by injection e with a b c;exact⟨a,b,c⟩)
     have HNN:=Lib.hid hn'
     clear hn'
     by_cases n1:y1=ne
     ·subst n1
      by_cases n2:y2=ns
      ·have n3:¬y3=nr:=fun e=>hn ⟨rfl,n2,e⟩
       subst n2
       clear hn
       go_wp2_with fail
       go_roundw
       case rel=>
        obtain⟨hrX,hwX,hx,hs8⟩:=HH.out
        refine⟨i+1,by go_num,by omega,fun j y hj hy=>?_,hrX⟩
        by_cases c:j=i
        ·subst c
         rw[hx]at hy
         injection hy with hy
         subst hy
         simp[isIss,HNN.out]
        ·exact HN.out j y (by omega) hy
       case measure=>simp[intOf];omega
      ·clear hn
       go_wp2_with fail
       go_roundw
       case rel=>
        obtain⟨hrX,hwX,hx,hs8⟩:=HH.out
        refine⟨i+1,by go_num,by omega,fun j y hj hy=>?_,hrX⟩
        by_cases c:j=i
        ·subst c
         rw[hx]at hy
         injection hy with hy
         subst hy
         simp[isIss,HNN.out]
        ·exact HN.out j y (by omega) hy
       case measure=>simp[intOf];omega
     ·clear hn
      go_wp2_with fail
      go_roundw
      case rel=>
       obtain⟨hrX,hwX,hx,hs8⟩:=HH.out
       refine⟨i+1,by go_num,by omega,fun j y hj hy=>?_,hrX⟩
       by_cases c:j=i
       ·subst c
        rw[hx]at hy
        injection hy with hy
        subst hy
        simp[isIss,HNN.out]
       ·exact HN.out j y (by omega) hy
      case measure=>simp[intOf];omega
   ·have k1:(x1 == ka&&x2 == kb)=false:=by rw[Bool.and_eq_false_iff];simp only[beq_eq_false_iff_ne];exact Decidable.not_and_iff_or_not.1 hk
    have HKK:=Lib.hid hk
    clear hk
    go_wp2_with fail
    go_roundw
    case rel=>
     obtain⟨hrX,hwX,hx,hs8⟩:=HH.out
     refine⟨i+1,by go_num,by omega,fun j y hj hy=>?_,hrX⟩
     by_cases c:j=i
     ·subst c
      rw[hx]at hy
      injection hy with hy
      subst hy
      have:¬((x1,x2):Two)=(ka,kb):=fun e=>HKK.out ⟨(Prod.mk.inj e).1,(Prod.mk.inj e).2⟩
      simp[isIss,this]
     ·exact HN.out j y (by omega) hy
    case measure=>simp[intOf];omega
  ·obtain rfl:i=m:=by omega
   have hd':decide ((i:Int)<(i:Int))=false:=by simp
   go_wp2_with fail
   go_ret2
   have hfd:oopen O.iss (ka,kb) ⟨ne,ns,nr⟩ head b (ta,tb)=none:=by
    unfold oopen
    rw[List.find?_eq_none.2 (fun y hy=>by
     obtain⟨j,hj⟩:=List.mem_iff_getElem?.1 hy
     have hjl:=(List.getElem?_eq_some_iff.1 hj).1
     have:=HN.out j y (by have:=HM.out;omega) hj
     simp[this])]
    rfl
   rw[hfd]
   obtain⟨hbw,_⟩:=HW.out
   exact⟨_,rfl,OwnB.nil _ _,hbw.trans (hr.mono hWs)⟩
end Go.Proofs.YtggmdjdflaglpaaGreat
namespace Go.Proofs.YtggmdjdflaglpaaGreat
open Go.RowKit
set_option linter.unusedVariables false
theorem HasP.label {ρ:Rl}{W:World}{u:Value}{l:By}(hu:HasP (fun b=>ρ b=0\/ρ b=rImm) W u l) (hf:Fresh ρ W):
 ∃ρ1:Rl,(∀b,ρ b≠0->ρ1 b=ρ b)/\(∀b,ρ1 b≠ρ b->ρ1 b=rImm/\u.ownBlock=some b)/\Fresh ρ1 W/\HasP (ρ1 · =rImm) W u l:=by
 rcases hu with⟨rfl,he⟩|⟨b,q,c,hv,h1,h2,h3,h4,h5⟩
 ·exact⟨ρ,fun _ _=>rfl,fun b hb=>absurd rfl hb,hf,.inl ⟨rfl,he⟩⟩
 ·refine⟨ρ.set b rImm,fun x hx=>?_,fun x hx=>?_,fun i hi=>?_,.inr ⟨b,q,c,hv,Rl.set_same _ _ _,h2,h3,h4,h5⟩⟩
  ·by_cases e:x=b
   ·subst e
    rw[Rl.set_same]
    rcases h1 with h1|h1
    ·exact absurd h1 hx
    ·exact h1.symm
   ·exact Rl.set_other _ e
  ·by_cases e:x=b
   ·subst e
    exact⟨Rl.set_same _ _ _,by rw[hv];rfl⟩
   ·exact absurd (Rl.set_other _ e) hx
  ·rw[Rl.set_other _ (by omega)];exact hf i hi
def More (ρ ρ':Rl):Prop:=∀b,ρ b≠0->ρ' b=ρ b
theorem More.trans {a b c:Rl}(h:More a b) (k:More b c):More a c:=fun i hi=>(k i (by rw[h i hi];exact hi)).trans (h i hi)
theorem More.imm {ρ ρ':Rl}(h:More ρ ρ') {w:World}{v:Value}{l:By}(hv:HasP (ρ · =rImm) w v l):HasP (ρ' · =rImm) w v l:=hv.weak (fun b e=>(h b (by rw[e];decide)).trans e)
theorem OrcR.push {ρ:Rl}{W W':World}{o:Nat}{O:Orc}{vI v':Value}{bm n:Nat}{cs:List Value}{D:DataW Unit}{x:Iss}{vh vd vo:Value}
 (h1:Blk W o 174 #[vI,.map (some bm)]) (h2:ρ o=rOrc) (h3:W.ownsRow 0 176 10 vI O.iss.length cs) (h4:∀g,vI.ownBlock=some g->ρ g=rIss)
 (h5:RowV 10 (IssE (ρ · =rImm) W) cs O.iss) (h6:W.ownsMap Tryz.prog 9 (plainElem (H:=Unit) Tryz.prog 30) bm n D) (h7:ρ bm=rSum) (h8:n<=O.sums.length/\SX D O.sums) (h10:O.iss.length<1000000) (h11:O.sums.length<=1000000)
 (h12:∀x∈O.iss,U2 x.key/\x.n.ok/\x.head.length<=4000/\x.data.length<=4000/\x.out.length<=4000/\U64 x.num)
 (hx:U2 x.key/\x.n.ok/\x.head.length<=4000/\x.data.length<=4000/\x.out.length<=4000/\U64 x.num)
 (e1:HasP (fun b=>ρ b=0\/ρ b=rImm) W vh x.head) (e2:HasP (fun b=>ρ b=0\/ρ b=rImm) W vd x.data) (e3:HasP (fun b=>ρ b=0\/ρ b=rImm) W vo x.out)
 (hnew:W'.ownsRow 0 176 10 v' (O.iss.length+1) (cs++icells x vh vd vo)) (hg:W.grownBy W' vI.ownBlock)
 (hor:v'.ownBlock=vI.ownBlock\/v'.ownBlock=some W.heap.size) (hf:Fresh ρ W):
 ∃ρ',More ρ ρ'/\(∀b,ρ' b≠ρ b->vh.ownBlock=some b\/vd.ownBlock=some b\/vo.ownBlock=some b\/b=W.heap.size)/\Fresh ρ' (W'.setCell ⟨o,0,none⟩ v')/\OrcR ρ' (W'.setCell ⟨o,0,none⟩ v') o {O with iss:=O.iss++[x]}/\
  Ch (fun i=>rtOrc (ρ i)) W (W'.setCell ⟨o,0,none⟩ v'):=by
 obtain⟨ρ1,a1,a2,a3,a4⟩:=HasP.label e1 hf
 have e2':HasP (fun b=>ρ1 b=0\/ρ1 b=rImm) W vd x.data:=e2.weak (fun b hb=>by
  by_cases c:ρ1 b=ρ b
  ·rw[c];exact hb
  ·exact .inr (a2 b c).1)
 obtain⟨ρ2,b1,b2,b3,b4⟩:=HasP.label e2' a3
 have e3':HasP (fun b=>ρ2 b=0\/ρ2 b=rImm) W vo x.out:=e3.weak (fun b hb=>by
  by_cases c:ρ2 b=ρ1 b
  ·rw[c]
   by_cases c:ρ1 b=ρ b
   ·rw[c];exact hb
   ·exact .inr (a2 b c).1
  ·exact .inr (b2 b c).1)
 obtain⟨ρ3,c1,c2,c3,c4⟩:=HasP.label e3' b3
 have m12:More ρ ρ2:=More.trans a1 b1
 have m13:More ρ ρ3:=More.trans m12 c1
 obtain⟨ρ4,d1,d2,d3,d4⟩:=role_push (ρ:=ρ3) (r:=rIss) (by decide) (fun b hb=>by rw[m13 b (by rw[h4 b hb];decide)];exact h4 b hb) hnew hg hor c3
 have m14:More ρ ρ4:=More.trans m13 d1
 have hch0:Ch (fun i=>vI.ownBlock=some i) W W':=⟨hg.os,hg.tape,hg.output,hg.size,fun i hi hn=>hg.block i hi (fun e=>hn e.symm)⟩
 have hch:Ch (fun i=>ρ i=rOrc\/ρ i=rIss) W (W'.setCell ⟨o,0,none⟩ v'):=(hch0.mono (fun i e=>.inr (h4 i e))).trans (Ch.set_ (S:=fun i=>ρ i=rOrc\/ρ i=rIss) (p:=⟨o,0,none⟩) (.inl h2) _ _)
 have hno:some o≠vI.ownBlock:=fun e=>by have:=h4 o e.symm;rw[h2]at this;exact absurd this (by decide)
 have hset:∀i,i≠o->(W'.setCell ⟨o,0,none⟩ v').heap[i]? =W'.heap[i]? :=fun i hi=>Below.heap_setCell W' _ v' i hi
 refine⟨ρ4,m14,fun b hb=>?_,fun i hi=>d3 i (by simpa[World.setCell]using hi),?_,hch.mono (fun i e=>e.elim .inl (fun e=>.inr (.inl e)))⟩
 ·by_cases q4:ρ4 b=ρ3 b
  ·by_cases q3:ρ3 b=ρ2 b
   ·by_cases q2:ρ2 b=ρ1 b
    ·by_cases q1:ρ1 b=ρ b
     ·exact absurd (q4.trans (q3.trans (q2.trans q1))) hb
     ·exact .inl (a2 b q1).2
    ·exact .inr (.inl (b2 b q2).2)
   ·exact .inr (.inr (.inl (c2 b q3).2))
  ·exact .inr (.inr (.inr (d2 b q4)))
 ·have hb:ρ4 bm=rSum:=(m14 bm (by rw[h7];decide)).trans h7
  refine⟨v',bm,cs++icells x vh vd vo,n,D,?_,(m14 o (by rw[h2];decide)).trans h2,?_,d4,?_,?_,hb,h8.1,h8.2,by simp;omega,h11,?_⟩
  ·exact(h1.grown hg hno).set_to 0 v' rfl
  ·rw[List.length_append,List.length_singleton]
   refine row_keep hnew (fun g _ e=>hset g (fun c=>?_))
   have:=d4 g e
   rw[c,m14 o (by rw[h2];decide),h2]at this
   exact absurd this (by decide)
  ·have hk:∀b,b<W.heap.size->ρ4 b=rImm/\ρ b≠rOrc/\ρ b≠rIss->(W'.setCell ⟨o,0,none⟩ v').heap[b]? =W.heap[b]? :=fun b hb e=>hch.keep b hb (fun c=>c.elim e.2.1 e.2.2)
   have hq:∀b,ρ4 b=rImm->ρ b≠rOrc/\ρ b≠rIss:=fun b e=>⟨fun c=>by rw[m14 b (by rw[c];decide),c]at e;exact absurd e (by decide),fun c=>by rw[m14 b (by rw[c];decide),c]at e;exact absurd e (by decide)⟩
   refine RowV.app (h5.weak (fun c y _ hy=>?_)) rfl ⟨vh,vd,vo,rfl,?_,?_,?_⟩
   ·exact(hy.weak (fun b _ e=>(m14 b (by rw[e];decide)).trans e)).keep hch.size (fun b hb e=>hk b hb ⟨e,hq b e⟩)
   ·exact(More.imm (More.trans (More.trans b1 c1) d1) a4).keep hch.size (fun b hb e=>hk b hb ⟨e,hq b e⟩)
   ·exact(More.imm (More.trans c1 d1) b4).keep hch.size (fun b hb e=>hk b hb ⟨e,hq b e⟩)
   ·exact(More.imm d1 c4).keep hch.size (fun b hb e=>hk b hb ⟨e,hq b e⟩)
  ·obtain⟨es,clock,hm,hr⟩:=h6
   exact⟨es,clock,(hch.keep bm (Array.getElem?_eq_some_iff.1 hm).1 (fun c=>by rcases c with c|c<;>rw[h7]at c<;>exact absurd c (by decide))).trans hm,hr⟩
  ·intro y hy
   rcases List.mem_append.1 hy with hy|hy
   ·exact h12 y hy
   ·rw[List.mem_singleton.1 hy];exact hx
end Go.Proofs.YtggmdjdflaglpaaGreat
namespace Go.Proofs.YtggmdjdflaglpaaGreat
open Go.RowKit Go.Maps
set_option linter.unusedVariables false
theorem onew_ok (w:World):Calls Tryz.prog 56 #[] w fun e w'=>e=.returned (.pointer (some ⟨w.heap.size+1,0,Option.none⟩))/\(∀ρ:Rl,OrcR ((ρ.set w.heap.size rSum).set (w.heap.size+1) rOrc) w' (w.heap.size+1) ⟨[],[],0⟩)/\w'.heap.size=w.heap.size+2/\Below w.heap.size w w':=by
 have hmk:∀W,(Instr.makeMap 172 none).run Tryz.prog W=.ok (.map (some W.heap.size)) (W.alloc (.map #[] 0)):=fun _=>rfl
 go_enter Tryz.func56,Tryz.ntmps56
 go_wp2_with fail
 go_ret
 have hs:(w.alloc (.map #[] 0)).heap.size=w.heap.size+1:=by simp
 refine⟨by simp,fun ρ=>⟨.slice none 0 0,w.heap.size,[],0,.map [],?_,Rl.set_same _ _ _,World.ownsRow_nil _ _ _ _,fun g e=>by simp[Value.ownBlock]at e,RowV.nil _ _,?_,?_,Nat.le_refl _,SX.start,by simp,by simp,by simp⟩,by simp,?_⟩
 ·have:=Blk.new (w.alloc (.map #[] 0)) 174 #[.slice none 0 0,.map (some w.heap.size)]
  rw[hs]at this
  exact this
 ·exact(World.ownsMap_made w Tryz.prog 9 _).alloc _
 ·rw[Rl.set_other _ (by omega)];exact Rl.set_same _ _ _
 ·exact((Below.refl _ w).alloc (Nat.le_refl _) _).alloc (by simp) _
def lcells (o:Nat):Array Value:=#[.func (.func 57) #[.pointer (some ⟨o,0,Option.none⟩)] #[],.func (.func 58) #[.pointer (some ⟨o,0,Option.none⟩)] #[],.func (.func 59) #[.pointer (some ⟨o,0,Option.none⟩)] #[],.func (.func 54) #[.pointer (some ⟨o,0,Option.none⟩)] #[],.func (.func 55) #[.pointer (some ⟨o,0,Option.none⟩)] #[]]
def LckR (ρ:Rl) (w:World) (l o:Nat) (O:Orc):Prop:=Blk w l 130 (lcells o)/\ρ l=rLck/\OrcR ρ w o O
def rsLck (r:Nat):Prop:=r=rLck\/rsOrc r
theorem LckR.keep {ρ ρ':Rl}{w w':World}{l o:Nat}{O:Orc}(h:LckR ρ w l o O) (hs:w.heap.size<=w'.heap.size) (hk:∀b,b<w.heap.size->rsLck (ρ b)->w'.heap[b]? =w.heap[b]? /\ρ' b=ρ b):LckR ρ' w' l o O:=by
 obtain⟨h1,h2,h3⟩:=h
 have k1:=hk l h1.lt (.inl h2)
 exact⟨k1.1.trans h1,k1.2.trans h2,h3.keep hs (fun b hb e=>hk b hb (.inr e))⟩
theorem lideal_ok (w:World):Calls Tryz.prog 29 #[] w fun e w'=>e=.returned (.pointer (some ⟨w.heap.size+2,0,Option.none⟩))/\(∀ρ:Rl,LckR (((ρ.set w.heap.size rSum).set (w.heap.size+1) rOrc).set (w.heap.size+2) rLck) w' (w.heap.size+2) (w.heap.size+1) ⟨[],[],0⟩)/\w'.heap.size=w.heap.size+3/\Below w.heap.size w w':=by
 have hmf:∀(fn:Fn) (first cap:Array Value) (w:World),(Instr.makeFunc fn first cap).run Tryz.prog w=.ok (.func fn first cap) w:=fun _ _ _ _=>rfl
 go_enter Tryz.func29,Tryz.ntmps29
 go_wp2_with fail
 refine(onew_ok _).mono ?_
 rintro e w1 ⟨rfl,h1,h2,h3⟩
 go_wp2_with fail
 go_ret
 refine⟨rfl,fun ρ=>⟨?_,Rl.set_same _ _ _,?_⟩,by simp[h2],h3.alloc (by omega) _⟩
 ·have:=Blk.new w1 130 (lcells (w.heap.size+1))
  rw[h2]at this
  exact this
 ·exact(h1 ρ).keep (by simp) (fun b hb _=>⟨Below.heap_alloc w1 _ b hb,Rl.set_other _ (by omega)⟩)
def rtLck (r:Nat):Prop:=rtOrc r
set_option maxHeartbeats 4000000 in
set_option maxRecDepth 100000 in
theorem lsum_ok (ρ:Rl) (l o:Nat) (O:Orc) (v:Value) (Ls:List By) (w:World) (hf:Fresh ρ w) (h:LckR ρ w l o O) (hR:Rows w v Ls) (ht:total Ls<=100000) (hc:O.sums.length<1000000):
 Calls Tryz.prog 168 #[.pointer (some ⟨l,0,Option.none⟩),v] w fun e w'=>e=.returned (.agg #[.int .u64 kSum,.int .u64 ((O.sums.idxOf Ls.flatten:Int)+1)])/\LckR ρ w' l o (osum O Ls.flatten)/\Ste rtOrc ρ w ρ w':=by
 obtain⟨W,hW⟩:∃W,W=w.alloc (.cells #[.int .u64 0,.int .u64 0] 101):=⟨_,rfl⟩
 have hB:Blk W w.heap.size 101 #[.int .u64 0,.int .u64 0]:=by rw[hW];exact Blk.new w 101 _
 have hbw:Below w.heap.size w W:=by rw[hW];exact(Below.refl _ _).alloc (Nat.le_refl _) _
 have hfW:Fresh ρ W:=fun i hi=>hf i (Nat.le_trans hbw.size hi)
 have hL:LckR ρ W l o O:=h.keep hbw.size (fun b hb _=>⟨hbw.block b hb,rfl⟩)
 have hs:=osum_ok ρ o O v Ls W hfW hL.2.2 (hR.below_ hbw) ht hc
 obtain⟨k,hk⟩:∃k:Int,k=(O.sums.idxOf Ls.flatten:Int)+1:=⟨_,rfl⟩
 obtain⟨k2,hk2⟩:∃k2:Int,k2=kSum:=⟨_,rfl⟩
 rw[<-hk,<-hk2]at hs ⊢
 have HK:=Lib.hid (And.intro hk hk2)
 have c2:W.cell? ⟨l,2,Option.none⟩=some (.func (.func 59) #[.pointer (some ⟨o,0,Option.none⟩)] #[]):=hL.1.cell_ 2 rfl
 have hl:=hL.1.lt
 have HL:=Lib.hid hL
 have hl0:=hL.2.1
 have HB:=Lib.hid (And.intro hB hbw)
 clear hk hk2 hL hR h hB hbw
 subst hW
 go_enter Tryz.func168,Tryz.ntmps168
 go_wp2_with fail
 refine hs.mono ?_
 rintro e w1 ⟨rfl,hO1,hst⟩
 obtain⟨hB,hbw⟩:=HB.out
 have hB1:Blk w1 w.heap.size 101 #[.int .u64 0,.int .u64 0]:=hB.ch hst.ch (by rw[hf _ (Nat.le_refl _)];unfold rtOrc;decide)
 have f0:=hB1.frozen 0
 have f1:=hB1.frozen 1
 have b0:=hB1.cell_ 0 rfl
 have b1:=hB1.cell_ 1 rfl
 have lb:=hB1.lt
 have HB1:=Lib.hid hB1
 have HO:=Lib.hid (And.intro hO1 (And.intro hst hbw))
 clear hB1 hO1 hst hbw hs hB
 go_wp2_with fail
 have hf2:=(HB1.out.set_ 0 (.int .u64 k2)).set_ 1 (.int .u64 k)
 have ra:((w1.setCell ⟨w.heap.size,0,Option.none⟩ (.int .u64 k2)).setCell ⟨w.heap.size,1,Option.none⟩ (.int .u64 k)).cell? ⟨w.heap.size,0,Option.none⟩=some (.int .u64 k2):=hf2.cell_ 0 rfl
 have rb:((w1.setCell ⟨w.heap.size,0,Option.none⟩ (.int .u64 k2)).setCell ⟨w.heap.size,1,Option.none⟩ (.int .u64 k)).cell? ⟨w.heap.size,1,Option.none⟩=some (.int .u64 k):=hf2.cell_ 1 rfl
 obtain⟨hO1,hst,hbw⟩:=HO.out
 have hg23:=only_set2 w1 w.heap.size 0 1 (.int .u64 k2) (.int .u64 k)
 refine bodyPost_ret (v:=.agg #[.int .u64 k2,.int .u64 k]) (by simp[results,Tryz.results168,go_sem,ra,rb]) rfl ⟨by first|rfl|rw[HK.out.1,HK.out.2],?_,?_⟩
 ·have hkp:∀b,b<w1.heap.size->ρ b≠0->((w1.setCell ⟨w.heap.size,0,Option.none⟩ (.int .u64 k2)).setCell ⟨w.heap.size,1,Option.none⟩ (.int .u64 k)).heap[b]? =w1.heap[b]? :=fun b hb e=>hg23.block b hb (fun c=>by injection c with c;rw[c]at e;exact e (hf _ (Nat.le_refl _)))
  refine⟨?_,HL.out.2.1,hO1.keep hg23.size (fun b hb e=>⟨hkp b hb (fun c=>by rw[c]at e;unfold rsOrc at e;revert e;decide),rfl⟩)⟩
  exact(hkp l (Nat.lt_of_lt_of_le hl hst.size) (by rw[hl0];decide)).trans (HL.out.1.ch hst.ch (by rw[hl0];unfold rtOrc;decide))
 ·have hch:Ch (fun i=>rtOrc (ρ i)) w _:=((Ch.of_below hbw).trans hst.ch).then_only hg23 (Nat.le_refl _)
  exact⟨hch,fun _ _=>rfl,fun i hi=>hf i (Nat.le_trans hch.size hi)⟩
end Go.Proofs.YtggmdjdflaglpaaGreat
