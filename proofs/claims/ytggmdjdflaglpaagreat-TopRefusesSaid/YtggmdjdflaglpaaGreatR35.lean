/- area.Read: all leaves, back. commit.Load, of a world where something was committed. What the cache says is what was written last (no crash; a disk that refuses; no walk). What the cache says is what was written last: the calls. cache.Open: the walk. -/
import Derived.Test.YtggmdjdflaglpaaGreatR32
import Derived.Test.YtggmdjdflaglpaaGreatR33
import Derived.Test.YtggmdjdflaglpaaGreatR26
import Derived.Test.YtggmdjdflaglpaaGreatR34
import Derived.Maps.AppendAt
import Derived.Test.YtggmdjdflaglpaaGreatR31
namespace Go.Proofs.YtggmdjdflaglpaaGreat
open Go.RowKit Go.Proofs.YtggmdjdflaglpaaGreat.geo
set_option linter.unusedVariables false
theorem CutR.push {B:Nat}{wr w1 w3:World}{A:Option Addr}{i cp:Nat}{v3 x:Value}{b:By}{Z:List Nat}{xs:List Value}(hrow:wr.ownsRow B 32 1 (.slice A i cp) i xs) (hxl:xs.length=i)
 (hxs:∀(j:Nat) (x:Value),xs[j]? =some x->HasP (fun g=>B<=g/\(Value.slice A i cp).ownBlock≠some g) wr x (cutAt b Z j)) (hB:B<=wr.heap.size)
 (l1:Below wr.heap.size wr w1) (hx:HasP (fun g=>wr.heap.size<=g) w1 x (cutAt b Z i)) (hown:w3.ownsRow B 32 1 v3 (i+1) (xs++[x])) (hg:(w1.alloc (.cells #[x] 32)).grownBy w3 (Value.slice A i cp).ownBlock)
 (hob:v3.ownBlock=(Value.slice A i cp).ownBlock\/v3.ownBlock=some (w1.alloc (.cells #[x] 32)).heap.size):CutR B w3 v3 b Z (i+1):=by
 have hV:∀g,(Value.slice A i cp).ownBlock=some g->g<wr.heap.size:=fun g hg=>row_lt hrow hg
 have s1:=l1.size
 refine⟨xs++[x],hown,by rw[List.length_append,hxl];rfl,fun j y hj=>?_⟩
 by_cases c:j<xs.length
 ·rw[List.getElem?_append_left c]at hj
  have h1:=((hxs j y hj).weakB (q:=fun g=>(B<=g/\(Value.slice A i cp).ownBlock≠some g)/\g<wr.heap.size) (fun g hg e=>⟨e,hg⟩)).below_ l1
  have h2:=(h1.alloc (.cells #[x] 32)).keep hg.size (fun g hgl e=>hg.block g hgl (fun q=>e.1.2 q.symm))
  refine h2.weak (fun g e=>⟨e.1.1,fun q=>?_⟩)
  rcases hob with r|r
  ·exact e.1.2 (r▸q)
  ·rw[r]at q
   have:=Option.some.inj q
   rw[World.size_alloc]at this
   omega
 ·have hjl:=(List.getElem?_eq_some_iff.1 hj).1
  rw[List.length_append,List.length_singleton]at hjl
  obtain rfl:j=i:=by omega
  rw[List.getElem?_append_right (by omega),hxl,Nat.sub_self]at hj
  simp at hj
  subst hj
  have h1:=hx.weakB (q:=fun g=>wr.heap.size<=g/\g<w1.heap.size) (fun g hg e=>⟨e,hg⟩)
  have h2:=(h1.alloc (.cells #[x] 32)).keep hg.size (fun g hgl e=>hg.block g hgl (fun q=>by have:=hV g q.symm;omega))
  refine h2.weak (fun g e=>⟨by omega,fun q=>?_⟩)
  rcases hob with r|r
  ·have:=hV g (r▸q);omega
  ·rw[r]at q
   have:=Option.some.inj q
   rw[World.size_alloc]at this
   omega
abbrev LRows (B:Nat) (w:World) (v:Value) (ls:List Lf) (i:Nat):Prop:=CutR B w v (ls.map leafB).flatten ((ls.map leafB).map List.length) i
theorem lrow_at {ls:List Lf}{j:Nat}{l:Lf}(h:ls[j]? =some l):cutAt (ls.map leafB).flatten ((ls.map leafB).map List.length) j=leafB l:=cut_flat _ j _ (by rw[List.getElem?_map,h];rfl)
theorem LRows.rowsP {ρ:Rl}{B:Nat}{w:World}{v:Value}{ls:List Lf}{n:Nat}(h:LRows B w v ls n) (hn:n=ls.length) (h0:0<n) (hr:∀g,B<=g->ρ g=0):RowsP (fun b=>ρ b=0) w v (ls.map leafB):=by
 obtain⟨r,c,rfl,hr1,hr2,_,_,hx⟩:=h.spot h0
 refine⟨r,0,c,by rw[List.length_map,hn],hr r hr1,hr2,fun j l hj=>?_⟩
 rw[List.getElem?_map]at hj
 obtain⟨l',hl',rfl⟩:=Option.map_eq_some_iff.1 hj
 have hjn:j<n:=by rw[hn];exact(List.getElem?_eq_some_iff.1 hl').1
 obtain⟨x,hxc,hxp⟩:=hx j hjn
 rw[lrow_at hl']at hxp
 exact⟨x,by rw[Nat.zero_add];exact hxc,hxp.weak (fun g e=>hr g e)⟩
theorem l4n {w:World}{g b:Nat}{n:Nat}{f:Nat->Two}{ta tb:Int}(bg:Blk w g 101 (pcells (2*n) f).toArray) (hn:1<2*n) (hf:f 1=(ta,tb)) (b5:Blk w b 101 #[.int .u64 ta,.int .u64 tb]):
 w.cell? ⟨g,2,none⟩=some (.int .u64 ta)/\w.cell? ⟨g,3,none⟩=some (.int .u64 tb)/\w.cell? ⟨b,0,none⟩=some (.int .u64 ta)/\w.cell? ⟨b,1,none⟩=some (.int .u64 tb):=by
 have h:=pcells_at (n:=2*n) (k:=1) f hn
 rw[hf]at h
 exact⟨bg.cell_ 2 (by rw[List.getElem?_toArray];exact h.1),bg.cell_ 3 (by rw[List.getElem?_toArray];exact h.2),b5.cell_ 0 rfl,b5.cell_ 1 rfl⟩
theorem l4r {w:World}{wl sa:Nat}{n:Int}{x1 x3 x4 x5 x6:Value}(b:Blk w wl 70 #[.int .i64 n,x1,.pointer (some ⟨sa,0,none⟩),x3,x4,x5,x6]):w.cell? ⟨wl,2,none⟩=some (.pointer (some ⟨sa,0,none⟩))/\w.cell? ⟨wl,0,none⟩=some (.int .i64 n):=⟨b.cell_ 2 rfl,b.cell_ 0 rfl⟩
set_option maxHeartbeats 16000000 in
set_option maxRecDepth 100000 in
theorem arread_ok (HS:SumOk) (ρ:Rl) (a:Ads) (W:Wld) (k:Nat) (top:Two) (ls:List Lf) (w:World) (hf:Fresh ρ w) (h:WldR ρ w a W) (hfit:W.fit 700000) (hg:W.pow.gone=false) (hk:k<2) (hn:ls.length=W.slots) (hok:∀(i:Nat) (l:Lf),ls[i]? =some l->l.ok i)
 (hby:∀(i:Nat) (l:Lf),ls[i]? =some l->W.sbytes (aoff ls.length k+32*i) 32=leafB l) (htop:bldN W.lk (ls.map leafB) 1=top):
 Calls Tryz.prog 64 #[.pointer (some ⟨a.wl,0,none⟩),.int .i64 k,.agg #[.int .u64 top.1,.int .u64 top.2]] w fun e w'=>
  ∃A n c,e=.returned (.tuple #[.slice A n c,.int .i64 0])/\∃ρ',LvsP (fun b=>ρ' b=0/\w.heap.size<=b) w' (.slice A n c) ls/\WldR ρ' w' a (W.lck (bldL W.lk (ls.map leafB)))/\Ste rtW ρ w ρ' w':=by
 have hV:=hfit.geo
 have hsz:=hfit.size
 have hcn:W.ssd.cnt<=1000000:=Nat.le_trans hfit.ssd (by omega)
 have hn16:4<=ls.length/\ls.length<=16:=by unfold V at hV;omega
 have har:=fun W'=>aris_ok a.wl k hk W'
 obtain⟨ta,tb⟩:=top
 obtain⟨n,hn'⟩:∃n,n=ls.length:=⟨_,rfl⟩
 have hlf:=fun(i:Nat) (hi:i<n) W'=>leaf_ok (n:Int) (k:Int) (i:Int) W' (by rw[hn',hn];exact hV) (by omega) (by omega) (by omega) (by omega)
 have hrd:∀(i:Nat) (l:Lf) (off:Int) W',ls[i]? =some l->off=(n:Int)*32+(k:Int)*((n:Int)*64)+(i:Int)*32->WldR ρ W' a W->Calls Tryz.prog 96 #[.pointer (some ⟨a.s,0,none⟩),.int .i64 off,.int .i64 32] W' fun e w'=>∃v,e=.returned (.tuple #[v,.bool true])/\HasP (W'.heap.size<=·) w' v (leafB l)/\Below W'.heap.size W' w':=by
  intro i l off W' hl ho hh
  have hi:i<ls.length:=(List.getElem?_eq_some_iff.1 hl).1
  have hkn:=kn_le (k:=k) (n:=ls.length) hk
  have e:off=((aoff ls.length k+32*i:Nat):Int):=by
   rw[ho,hn']
   unfold aoff
   rcases(by omega:k=0\/k=1)with e|e<;>rw[e]<;>omega
  rw[e,<-hby i l hl]
  exact wsread_on ρ a W W' (aoff ls.length k+32*i) 32 hh (by omega) (by rw[hsz,<-hn];unfold aoff;omega) hcn hg
 obtain⟨w0,hw0⟩:∃w0,w0=w.alloc (.cells #[.int .u64 ta,.int .u64 tb] 101):=⟨_,rfl⟩
 have b5:Blk w0 w.heap.size 101 #[.int .u64 ta,.int .u64 tb]:=by rw[hw0];exact Blk.new w 101 _
 have q0:Below w.heap.size w w0:=by rw[hw0];exact(Below.refl _ _).alloc (Nat.le_refl _) _
 have c0:w0.cell? ⟨a.wl,0,none⟩=some (.int .i64 n):=by rw[hn',hn];exact(h.below_ q0).1.cell_ 0 rfl
 have l0:=(h.below_ q0).1.lt
 obtain⟨i0,hi,hi0,hi1,hi2⟩:=info_parts info32
 have HW:=Lib.hid (And.intro h (And.intro hfit (And.intro hn (And.intro hn' (And.intro hok (And.intro b5 (And.intro q0 htop)))))))
 rw[<-hn']at hn16
 clear h hfit hn hn' hV hok hby hsz hcn b5 q0 htop
 go_enter Tryz.func64,Tryz.ntmps64
 go_wp2_with fail
 rw[<-hw0]
 clear hw0
 refine(har _).mono ?_
 rintro e w1 ⟨rfl,rfl⟩
 clear har
 go_wp2_with fail
 go_loopw [8,28] (fun r x wr=>∃(i:Nat) (V:Value),V=r/\x=.int .i64 i/\i<=n/\LRows w0.heap.size wr V ls i/\Below w0.heap.size w0 wr) (fun _ x _=>n-(intOf x).toNat)
 case atStart=>exact⟨0,_,rfl,rfl,by omega,⟨[],⟨rfl,.inl ⟨rfl,rfl⟩⟩,rfl,fun j x hx=>by simp at hx⟩,Below.refl _ _⟩
 case round=>
  obtain⟨i,V,rfl,rfl,hin,hR,hq⟩:=hrel
  obtain⟨h,hfit,hn,hn',hok,b5,q0,htop⟩:=HW.out
  obtain⟨xs,hrow,hxl,hxs⟩:=hR
  obtain⟨A,cp,hV⟩:∃A cp,V=.slice A i cp:=row_form hrow
  subst hV
  by_cases hlt:i<n
  ·obtain⟨l,hl⟩:∃l,ls[i]? =some l:=⟨_,List.getElem?_eq_getElem (by omega)⟩
   obtain⟨off,hoff⟩:∃off,off=(n:Int)*32+(k:Int)*((n:Int)*64)+(i:Int)*32:=⟨_,rfl⟩
   have hlf1:=hlf i hlt
   rw[<-hoff]at hlf1
   have hrd1:=fun W'=>hrd i l off W' hl hoff
   have hw1:=(h.below_ q0).below_ hq
   have hww:=hw1.1
   rw[<-hn,<-hn']at hww
   have j1:(i:Int)<(n:Int):=by omega
   have hqs:=hq.size
   have hq2:=hq
   have hlen:=leafB_len l
   obtain⟨R,hRl⟩:∃R,R=leafB l:=⟨_,rfl⟩
   rw[<-hRl]at hrd1 hlen
   have HS1:=Lib.hid (And.intro hxl (And.intro hxs (And.intro hl (And.intro hRl (And.intro hq hlen)))))
   clear hlf hrd hxl hxs hl hRl hq hoff h hfit hn hn' hok b5 q0 htop c0 l0 hlen
   go_wp2_with fail
   go_region_held3 (fun w'=>w'.cell? ⟨a.wl,2,none⟩=some (.pointer (some ⟨a.s,0,none⟩))/\w'.cell? ⟨a.wl,0,none⟩=some (.int .i64 n))
    (first|(with_reducible exact l4r hww)|(with_reducible exact l4r hww.drew))
    (first
     |(go_at_call 100;(with_reducible refine(hlf1 _).mono ?_);rintro e' w6 ⟨rfl,q6⟩;replace hww:=hww.drew.below_ q6;replace hw1:=hw1.drew.below_ q6;have q62:Below wr.heap.size wr w6:=(Below.refl _ _).drew.trans q6)
     |(go_at_call 96;(with_reducible refine(hrd1 _ hw1).mono ?_);rintro e' w7 ⟨v7,rfl,o7,q7⟩;replace hww:=hww.below_ q7)
     |fail)
   have q72:=q62.trans (q7.mono q62.size)
   have hlen:=HS1.out.2.2.2.2.2
   obtain⟨A7,c7,hv7⟩:=o7.slice
   rw[hlen]at hv7
   subst hv7
   have o72:HasP (fun g=>wr.heap.size<=g) w7 (.slice A7 32 c7) R:=o7.weak (fun g e=>by have:=q62.size;omega)
   have hr7:=row_keep hrow (fun b h1 _=>q72.block b h1)
   have s7:=q72.size
   have HO:=Lib.hid (And.intro hrow (And.intro o72 q72))
   clear hrow o72 q72 o7 q7 q6 q62 hww hw1 hlf1 hrd1 hlen
   go_wp2_with (at_builtin;refine wpList_append_own_at _ rfl _ _ 57 rfl w0.heap.size 32 i0 (.slice none 0 0) 1 24 Tryz.underlying57 hi hi0 hi1 hi2 rfl (by decide) _ _ _ rfl (World.ownsRow.alloc hr7 _) ⟨w7.heap.size,0,none⟩ 1 1 [.slice A7 32 c7] rfl rfl (fun j u hj=>by rw[add_plain,Nat.zero_add];exact(Blk.new w7 32 #[.slice A7 32 c7]).cell_ j (by simpa using hj)) (fun u hu=>by simp at hu;subst hu;rfl) (by unfold maxLen;omega) (by omega) (by simp;omega) ?_;intro v3 w3 hown3 hgrow3 hnil3 hob3;obtain⟨A3,c3,rfl⟩:=row_form hown3)
   obtain⟨hrow,o72,q72⟩:=HO.out
   obtain⟨hxl,hxs,hl,hRl,hq,hlen⟩:=HS1.out
   have hca:cutAt (ls.map leafB).flatten ((ls.map leafB).map List.length) i=R:=by rw[lrow_at hl,hRl]
   have hR3:LRows w0.heap.size w3 (.slice A3 (i+1) c3) ls (i+1):=CutR.push hrow hxl hxs hqs q72 (by rw[hca];exact o72) hown3 hgrow3 hob3
   have hq1:Below w0.heap.size w0 (w7.alloc (.cells #[.slice A7 32 c7] 32)):=(hq.trans (q72.mono hqs)).alloc (by omega) _
   have hq3:Below w0.heap.size w0 w3:=hq1.grown hgrow3 hq1.size (fun g hg=>(row_lo hr7 hg))
   clear hrow o72 q72 hxl hxs hl hRl hq hlen hca hown3 hgrow3 hnil3 hob3 hq1 hr7
   go_wp2_with fail
   go_roundw
   case rel=>exact⟨i+1,_,rfl,by go_num,by omega,hR3,hq3⟩
   case measure=>simp[intOf];omega
  ·obtain rfl:i=n:=by omega
   have hR0:LRows w0.heap.size wr (.slice A i cp) ls i:=⟨xs,hrow,hxl,hxs⟩
   have hd:decide ((i:Int)<(i:Int))=false:=by simp
   have HR:=Lib.hid (And.intro hR0 hq)
   have hw1:=(h.below_ q0).below_ hq
   have c6:=hw1.1.cell_ 6 rfl
   have l6:=hw1.1.lt
   clear hlf hrd hxl hxs hq h hfit hn hn' hok b5 q0 htop c0 l0 hrow hR0 hw1
   go_wp2_with fail
   obtain⟨h,hfit,hn,hn',hok,b5,q0,htop⟩:=HW.out
   obtain⟨hR0,hq⟩:=HR.out
   have hwq:=q0.trans (hq.mono q0.size)
   have hfr:Fresh ρ wr:=fun g hg=>hf g (Nat.le_trans hwq.size hg)
   have hw1:=h.below_ hwq
   have hz:∀g,w0.heap.size<=g->ρ g=0:=fun g hg=>hf g (Nat.le_trans q0.size hg)
   have hrp:=hR0.rowsP (ρ:=ρ) (by omega) (by omega) hz
   have hbd:=build_ok HS ρ a.l W.lk (.slice A i cp) (ls.map leafB) wr hfr hw1.2.2.2.2.2.2.2.2.2 (by rw[List.length_map,hn];exact hfit.geo)
    (by obtain⟨b',o',c',e1,e2,e3,e4⟩:=hrp;exact⟨b',o',c',e1,nrt0 e2,e3,fun j l hj=>by obtain⟨vj,f1,f2⟩:=e4 j l hj;exact⟨vj,f1,f2.weak (fun b e=>nrt0 e)⟩⟩)
    (fun x hx=>by obtain⟨l,_,rfl⟩:=List.mem_map.1 hx;exact leafB_len l) (Lk.lim_mono hfit.lk (by omega))
   rw[List.length_map,<-hn']at hbd
   have b5r:=b5.below_ hq
   have HB:=Lib.hid (And.intro hrp (And.intro hw1 (And.intro hfr (And.intro hwq (And.intro b5r hz)))))
   clear h hfit hn hn' hok b5 q0 htop hR0 hq hwq hfr hw1 hz hrp b5r
   refine hbd.mono ?_
   rintro e w2 ⟨g,rfl,bg,hgr,hL,hst⟩
   clear hbd
   obtain⟨hrp,hw1,hfr,hwq,b5r,hz⟩:=HB.out
   obtain⟨h,hfit,hn,hn',hok,b5,q0,htop⟩:=HW.out
   have b52:Blk w2 w.heap.size 101 #[.int .u64 ta,.int .u64 tb]:=b5r.ch hst.ch (by rw[hf _ (Nat.le_refl _)];unfold rtOrc;decide)
   have hw2:WldR ρ w2 a (W.lck (bldL W.lk (ls.map leafB))):=hw1.put_lk hL hst
   have hrp2:=hrp.keep hst.size (fun b hb e=>hst.ch.keep b hb (nrt0 e))
   have hneq:∀W',(binOp .neq 101 (.agg #[.int .u64 ta,.int .u64 tb]) (.agg #[.int .u64 ta,.int .u64 tb])).run Tryz.prog W'=.ok (.bool false) W':=fun W'=>by rw[neq_pair];simp
   have j2:(1:Int)<2*(i:Int):=by omega
   have HC:=Lib.hid (And.intro hw2 (And.intro hrp2 (And.intro hst (And.intro hwq (And.intro hok (And.intro hn' hfr))))))
   have hi2:1<2*i:=by omega
   clear hrp hw1 hfr hwq b5r hz h hfit hn hn' hok b5 q0 hL hst hw2 hrp2
   go_wp2_with fail
   go_region_held3 (fun w'=>w'.cell? ⟨g,2,none⟩=some (.int .u64 ta)/\w'.cell? ⟨g,3,none⟩=some (.int .u64 tb)/\w'.cell? ⟨w.heap.size,0,none⟩=some (.int .u64 ta)/\w'.cell? ⟨w.heap.size,1,none⟩=some (.int .u64 tb))
    (first|(exact l4n bg hi2 (HW.out.2.2.2.2.2.2.2) b52)|(exact l4n bg.drew hi2 (HW.out.2.2.2.2.2.2.2) b52.drew))
    (fail)
   obtain⟨w3,hw3⟩:∃w3,w3=w2.drew:=⟨_,rfl⟩
   rw[<-hw3]
   obtain⟨hw2,hrp2,hst,hwq,hok,hn',hfr⟩:=HC.out
   have hrp3:RowsP (fun b=>ρ b=0) w3 (.slice A i cp) (ls.map leafB):=by rw[hw3];exact hrp2.keep (Nat.le_refl _) (fun b _ _=>rfl)
   have hw33:WldR ρ w3 a (W.lck (bldL W.lk (ls.map leafB))):=by rw[hw3];exact hw2.drew
   have hst3:Ste rtOrc ρ w ρ w3:=((Ste.of_below hwq hf).trans hst).trans (by rw[hw3];exact Ste.of_below (Below.refl _ _).drew hst.fresh)
   obtain⟨i8,hi8,h80,h81,h82⟩:=info_parts info103
   have HD:=Lib.hid (And.intro hrp3 (And.intro hw33 (And.intro hst3 (And.intro hok hn'))))
   clear hw2 hrp2 hst hwq hok hn' hfr hrp3 hw33 hst3 hw3 bg b52 HC HB hneq
   go_wp2_with fail
   go_loopw [14,73] (fun r x wr=>∃(j:Nat) (V:Value),V=r/\x=.int .i64 j/\j<=i/\wr.ownsRow w3.heap.size 103 8 V j (lcs (ls.take j))/\Below w3.heap.size w3 wr) (fun _ x _=>i-(intOf x).toNat)
   case atStart=>exact⟨0,_,rfl,rfl,by omega,⟨rfl,.inl ⟨rfl,rfl⟩⟩,Below.refl _ _⟩
   case round=>
    obtain⟨j,V,rfl,rfl,hj,hrow,hq⟩:=hrel
    obtain⟨hrp3,hw33,hst3,hok,hn'⟩:=HD.out
    obtain⟨AV,cV,hV⟩:∃A c,V=.slice A j c:=row_form hrow
    subst hV
    by_cases hlt2:j<i
    ·obtain⟨l,hl⟩:∃l,ls[j]? =some l:=⟨_,List.getElem?_eq_getElem (by omega)⟩
     have hlo:=hok j l hl
     have hrpw:=hrp3.keep hq.size (fun b hb _=>hq.block b hb)
     obtain⟨rb,ro,rc,hre,_,hrb,hrj⟩:=hrpw
     injection hre with e1 e2 e3
     subst e1 e3
     obtain⟨x,hxc,hxp⟩:=hrj j (leafB l) (by rw[List.getElem?_map,hl];rfl)
     have hlg:=lget_ok _ x l j (by omega) hlo wr hxp
     obtain⟨Ax,cx,hxs⟩:=hxp.slice
     rw[leafB_len]at hxs
     subst hxs
     have htk:lcs (ls.take (j+1))=lcs (ls.take j)++lfc l:=by
      unfold lcs
      rw[List.take_add_one,hl,show(some l).toList=[l]from rfl,List.flatMap_append]
      simp
     have j1:(j:Int)<(i:Int):=by omega
     have hqs:=hq.size
     obtain⟨L8,hL8⟩:∃L8,L8=lcs (ls.take j):=⟨_,rfl⟩
     rw[<-hL8]at hrow htk
     have HE:=Lib.hid (And.intro hq (And.intro htk hrow))
     clear hrp3 hw33 hst3 hok hn' hlo hxp hrj hq htk hL8 hl e2
     obtain⟨kd,dr,lb,⟨ep,sl,ver⟩,t0,t1⟩:=l
     unfold lfv lfc at hlg
     simp only at hlg
     go_wp2_with (first
      |(at_builtin;refine wpList_append_own_at _ rfl _ _ 89 rfl w3.heap.size 103 i8 (.agg (lfc Lf.no).toArray) 8 56 Tryz.underlying89 hi8 h80 h81 h82 rfl (by decide) _ _ _ rfl (World.ownsRow.alloc (World.ownsRow.alloc hr5 _) _) ⟨w5.heap.size+1,0,none⟩ 1 1 [.int .i64 kd,.bool dr,.int .i64 lb,.int .u32 ep,.int .u32 sl,.int .u64 ver,.int .u64 t0,.int .u64 t1] rfl rfl (fun q u hu=>by rw[add_plain,Nat.zero_add];have hh:=(Blk.new (w5.alloc (.cells #[.int .i64 kd,.bool dr,.int .i64 lb,.int .u32 ep,.int .u32 sl,.int .u64 ver,.int .u64 t0,.int .u64 t1] 103)) 103 #[.int .i64 kd,.bool dr,.int .i64 lb,.int .u32 ep,.int .u32 sl,.int .u64 ver,.int .u64 t0,.int .u64 t1]).cell_ q (v:=u) (by simpa using hu);rw[World.size_alloc]at hh;exact hh) (fun u hu=>by simp at hu;rcases hu with rfl|rfl|rfl|rfl|rfl|rfl|rfl|rfl<;>rfl) (by unfold maxLen;omega) (by omega) (by simp;omega) ?_;intro v6 w6 hown6 hgrow6 hnil6 hob6;obtain⟨A6,c6,rfl⟩:=row_form hown6)
      |(go_at_call 102;refine hlg.mono ?_;rintro e w5 ⟨rfl,q5⟩;have hr5:=row_keep hrow (fun b h1 _=>q5.block b h1);have s5:=q5.size;have HQ5:=Lib.hid q5;clear hlg hrow q5))
     obtain⟨hq,htk,hrow⟩:=HE.out
     have q5:=HQ5.out
     have hq5:Below w3.heap.size w3 ((w5.alloc (.cells #[.int .i64 kd,.bool dr,.int .i64 lb,.int .u32 ep,.int .u32 sl,.int .u64 ver,.int .u64 t0,.int .u64 t1] 103)).alloc (.cells #[.int .i64 kd,.bool dr,.int .i64 lb,.int .u32 ep,.int .u32 sl,.int .u64 ver,.int .u64 t0,.int .u64 t1] 103)):=((hq.trans (q5.mono hqs)).alloc (by omega) _).alloc (by simp;omega) _
     have hq6:=hq5.grown hgrow6 hq5.size (fun g hg=>row_lo hr5 hg)
     have hown7:w6.ownsRow w3.heap.size 103 8 (.slice A6 (j+1) c6) (j+1) (lcs (ls.take (j+1))):=by rw[htk];exact hown6
     clear hq htk hrow q5 hq5 hown6 hgrow6 hnil6 hob6 hr5 hxc
     go_wp2_with fail
     go_roundw
     case rel=>exact⟨j+1,_,rfl,by go_num,by omega,hown7,hq6⟩
     case measure=>simp[intOf];omega
    ·obtain rfl:j=i:=by omega
     have HE:=Lib.hid (And.intro hrow hq)
     clear hrow hq hrp3 hw33 hst3 hok hn'
     go_wp2_with fail
     go_ret2
     obtain⟨hrow,hq⟩:=HE.out
     obtain⟨hrp3,hw33,hst3,hok,hn'⟩:=HD.out
     rw[hn',List.take_length]at hrow
     rcases hrow.2 with⟨e,h0⟩|⟨rg,rc,cur,e,a2,a3,a4,a5,a6,a7⟩
     ·omega
     ·injection e with e1 e2 e3
      subst e1
      have hrz:ρ rg=0:=hst3.fresh rg a2
      refine⟨_,_,_,rfl,ρ,⟨rg,rc,cur.toList.drop (ls.length*8),by rw[<-hn',e3],⟨hrz,Nat.le_trans hst3.size a2⟩,?_⟩,hw33.below_ hq,(hst3.mono (fun r e=>e.w)).trans (Ste.of_below hq hst3.fresh)⟩
      have:cur=(lcs ls++cur.toList.drop (ls.length*8)).toArray:=by
       apply Array.toList_inj.1
       rw[<-a7]
       simp
      rw[<-this]
      exact a3
end Go.Proofs.YtggmdjdflaglpaaGreat
namespace Go.Proofs.YtggmdjdflaglpaaGreat
open Go.RowKit Go.Proofs.YtggmdjdflaglpaaGreat.geo
set_option linter.unusedVariables false
def Com (W:Wld) (ls:List Lf):Prop:=
 ∃top,RecOk W (W.sbytes (roff W W.cnt.value) 60) W.cnt.value top/\(∀(i:Nat) (l:Lf),ls[i]? =some l->W.sbytes (aoff ls.length (W.cnt.value%2)+32*i) 32=leafB l)/\bldN W.lk (ls.map leafB) 1=top
def loadW (W:Wld) (ls:List Lf):Wld:=if W.cnt.value=0 then W else W.lck (bldL W.lk (ls.map leafB))
set_option maxHeartbeats 4000000 in
set_option maxRecDepth 100000 in
theorem load_com (HO:OpenOk) (HS:SumOk) (ρ:Rl) (a:Ads) (W:Wld) (ls:List Lf) (w:World) (hf:Fresh ρ w) (h:WldR ρ w a W) (hfit:W.fit 700000) (hg:W.pow.gone=false) (hc:W.cnt.value≠0) (hn:ls.length=W.slots) (hok:∀(i:Nat) (l:Lf),ls[i]? =some l->l.ok i) (hcom:Com W ls):
 Calls Tryz.prog 37 #[.pointer (some ⟨a.wl,0,none⟩)] w (LdP ρ a 0 ls (W.lck (bldL W.lk (ls.map leafB))) w):=by
 obtain⟨top,hr,hby,htop⟩:=hcom
 have hcv:=hfit.cnt.1
 have hon:=won_ok ρ a W w h
 rw[hg]at hon
 have hva:=value_ok a.p a.c W.cnt w h.2.2.2.2.2.2.1
 have hlg:=lgget_ok HO ρ a W W.cnt.value top w h hfit hg (by omega) hr
 have har:=fun w1 h1 h2=>arread_ok HS ρ a W (W.cnt.value%2) top ls w1 h1 h2 hfit hg (by omega) hn hok hby htop
 obtain⟨ta,tb⟩:=top
 obtain⟨c,hc'⟩:∃c,c=W.cnt.value:=⟨_,rfl⟩
 rw[<-hc']at hva hlg har hc hcv
 obtain⟨k,hk⟩:∃k,k=c%2:=⟨_,rfl⟩
 rw[<-hk]at har
 simp only at hlg har
 obtain⟨n,hn'⟩:∃n:Int,n=W.slots:=⟨_,rfl⟩
 rw[<-hn']at hlg
 have hck:(c:Int)%2=(k:Int):=by omega
 have wk:=IntWalk.i64_in (k:Int) ⟨by omega,by omega⟩
 have c1:=h.1.cell_ 1 rfl
 have c4:=h.1.cell_ 4 rfl
 have lw:=h.1.lt
 have c0:¬((c:Int)=0):=by omega
 have H:=Lib.hid (And.intro h (And.intro hc' (And.intro hk hn')))
 have cp:(0:Int)<=(c:Int):=by omega
 clear h hg hc hn hok hby htop hr hfit hc' hk hn'
 go_enter Tryz.func37,Tryz.ntmps37
 go_wp2_with fail
 refine hon.mono ?_
 rintro e w1 ⟨rfl,rfl⟩
 clear hon
 go_wp2_with fail
 refine hva.mono ?_
 rintro e w1 ⟨rfl,rfl⟩
 clear hva
 go_wp2_with fail
 refine hlg.mono ?_
 rintro e w1 ⟨e2,rfl,q1⟩
 clear hlg
 have HQ:=Lib.hid q1
 clear q1
 go_wp2_with fail
 obtain⟨w2,hw2⟩:∃w2,w2=w1.alloc (.cells #[.int .u64 c,.int .u32 e2,.int .i64 n,.int .u64 ta,.int .u64 tb] 139):=⟨_,rfl⟩
 rw[<-hw2]
 obtain⟨h,_⟩:=H.out
 have q2:Below w.heap.size w w2:=by rw[hw2];exact HQ.out.alloc HQ.out.size _
 have hf2:Fresh ρ w2:=fun g hg=>hf g (Nat.le_trans q2.size hg)
 have har2:=har w2 hf2 (h.below_ q2)
 have H2:=Lib.hid q2
 clear har hw2 h q2 hf2
 refine har2.mono ?_
 rintro e w3 ⟨A,m,z,rfl,ρ',hL,hW,hst⟩
 clear har2
 have H3:=Lib.hid (And.intro hL (And.intro hW hst))
 clear hL hW hst
 go_wp2_with fail
 go_ret2
 obtain⟨hL,hW,hst⟩:=H3.out
 refine⟨A,m,z,rfl,ρ',fun _=>?_,hW,(Ste.of_below H2.out hf).trans hst⟩
 obtain⟨g,c',r,e1,⟨e2,e3⟩,e4⟩:=hL
 exact⟨g,c',r,e1,⟨e2,Nat.le_trans H2.out.size e3⟩,e4⟩
theorem load_ok (HO:OpenOk) (HS:SumOk) (ρ:Rl) (a:Ads) (W:Wld) (ls:List Lf) (w:World) (hf:Fresh ρ w) (h:WldR ρ w a W) (hfit:W.fit 700000) (hg:W.pow.gone=false) (hn:ls.length=W.slots) (hok:∀(i:Nat) (l:Lf),ls[i]? =some l->l.ok i) (h0:W.cnt.value=0->ls=List.replicate W.slots Lf.no) (hcom:W.cnt.value≠0->Com W ls):
 Calls Tryz.prog 37 #[.pointer (some ⟨a.wl,0,none⟩)] w (LdP ρ a 0 ls (loadW W ls) w):=by
 unfold loadW
 by_cases hc:W.cnt.value=0
 ·rw[if_pos hc,h0 hc]
  exact load_zero ρ a W w hf h hg hc (by have:=hfit.geo;unfold V at this;omega)
 ·rw[if_neg hc]
  exact load_com HO HS ρ a W ls w hf h hfit hg hc hn hok (hcom hc)
end Go.Proofs.YtggmdjdflaglpaaGreat
namespace Go.Proofs.YtggmdjdflaglpaaGreat
open Go.RowKit Go.Proofs.YtggmdjdflaglpaaGreat.geo
open Go.Proofs.YtggmdjdflaglpaaGreat.r27 (okc upd)
set_option linter.unusedVariables false
theorem slotOf_no {ls:List Lf}{k:Nat}(h:slotOf ls k<0) {i:Nat}(hi:i<ls.length) (h0:(ls.getD i Lf.no).kind≠0):(ls.getD i Lf.no).lba≠k:=fun e=>by
 have hm:i∈List.range' 0 (ls.length-0):=by rw[List.mem_range'_1];omega
 have hf:slotF ls k i=true:=by unfold slotF Lf.hasL;rw[Bool.and_eq_true,decide_eq_true_eq,decide_eq_true_eq];exact⟨h0,e⟩
 unfold slotOf fstOf at h
 cases hq:(List.range' 0 (ls.length-0)).find? (slotF ls k)with
 |none=>exact absurd hf (by simpa using List.find?_eq_none.1 hq i hm)
 |some k=>rw[hq]at h;simp at h;omega
theorem lf_drops {C:Cch}{s:Nat}(hs:s<C.now.length) (i:Nat):(cdrops C s).lf i=if i=s then Lf.no else C.lf i:=getD_set C.now s i Lf.no hs
theorem lf_put1 {C:Cch}{s:Nat}(hs:s<C.now.length) (l:Lf) (i:Nat):(cput1 C s l).lf i=if i=s then l else C.lf i:=getD_set C.now s i l hs
theorem lf_in {C:Cch}{i:Nat}(h:(C.lf i).kind≠0):i<C.now.length:=by
 rcases Nat.lt_or_ge i C.now.length with c|c
 ·exact c
 ·rw[lf_out C c]at h
  exact absurd rfl h
theorem lf_puts {C:Cch}{s:Nat}(hs:s<C.now.length) (h0:(C.lf s).kind=0) {l:Lf}(i:Nat):
 (cputs C s l).lf i=l/\i=s\/(cputs C s l).lf i=Lf.no/\i≠s/\((C.lf i).kind=0->C.lf i=Lf.no->True)/\slotOf C.now l.lba=i\/(cputs C s l).lf i=C.lf i/\i≠s/\slotOf C.now l.lba≠i:=by
 unfold cputs
 rcases slotOf_bd C.now l.lba with e|⟨x,e,hx,h1,h2⟩
 ·rw[if_neg (by rw[e];decide),lf_put1 hs,e]
  by_cases c:i=s
  ·rw[if_pos c];exact .inl ⟨rfl,c⟩
  ·rw[if_neg c];exact .inr (.inr ⟨rfl,c,by omega⟩)
 ·have hxs:x≠s:=fun c=>by rw[c]at h1;exact h1 h0
  rw[if_pos (by rw[e];omega),e,Int.toNat_natCast,lf_drops (by show x<(C.now.set s l).length;rw[List.length_set];exact hx),lf_put1 hs]
  by_cases c:i=x
  ·rw[if_pos c];exact .inr (.inl ⟨rfl,by omega,fun _ _=>trivial,by rw[c]⟩)
  ·rw[if_neg c]
   by_cases c2:i=s
   ·rw[if_pos c2];exact .inl ⟨rfl,c2⟩
   ·rw[if_neg c2];exact .inr (.inr ⟨rfl,c2,by omega⟩)
def Pow.on (P:Pow):Prop:=P.gone=false/\P.fuse=false
theorem Pow.on.spend {P:Pow}(h:P.on):(spend P).2=true/\(spend P).1.on:=by
 obtain⟨h1,h2⟩:=h
 obtain⟨g,f,l⟩:=P
 subst h1 h2
 exact⟨rfl,rfl,rfl⟩
section
variable {W:Wld}{M:Mk}{ls:List Lf}
theorem on_awr (h:W.pow.on) (k:Nat):(awr W k ls).2.2.pow.on:=by
 have h1:(aw2 W k ls).pow.on:=h.spend.2
 have h2:(aw3 W k ls).pow.on:=h1.spend.2
 unfold awr
 rw[if_pos h.spend.1,if_pos h1.spend.1]
 exact h2
theorem on_lgput (h:W.pow.on) (c:Nat) (t:Two):(lgput W M c t).2.1.pow.on:=by
 unfold lgput
 split
 ·exact h
 ·exact Pow.on.spend (P:=W.pow) h |>.2
theorem on_cmt (h:W.pow.on):(cmt W M ls).2.1.pow.on/\((cmt W M ls).1=0\/(cmt W M ls).1=6):=by
 have a1:(cA W ls).2.2.pow.on:=on_awr h _
 have a2:(cA W ls).2.2.sbar.pow.on:=a1.spend.2
 have a3:(cG W M ls).2.1.pow.on:=on_lgput a2 _ _
 have a4:(cG W M ls).2.1.sbar.pow.on:=a3.spend.2
 have a5:(cG W M ls).2.1.sbar.bmp.pow.on:=a4.spend.2
 have hp:(cmt W M ls).2.1.pow.on:=by
  rw[cmt_eq]
  split
  ·exact a1
  ·split
   ·exact a2
   ·split
    ·exact a3
    ·split
     ·exact a4
     ·exact a5
 refine⟨hp,?_⟩
 rcases cmt_err W M ls with c|c|c
 ·exact .inl c.1
 ·exact .inr c.1
 ·have:=c.2
  rw[hp.1]at this
  cases this
end
structure Inv (C:Cch) (B:Nat->By):Prop where
 full:∀s,(C.lf s).kind=1->C.W.vopen (C.lf s) s=some (B (C.lf s).lba)
 zero:∀s,(C.lf s).kind=2->B (C.lf s).lba=nought
 one:∀s s',(C.lf s).kind≠0->(C.lf s').kind≠0->(C.lf s).lba=(C.lf s').lba->s=s'
 disk:∀x,x<32->(∀s,(C.lf s).kind≠0->(C.lf s).lba=x->(C.lf s).dirty=false)->dread C.W.dsk x=B x
 len:∀x,x<32->(B x).length=32
 on:C.W.pow.on
 pois:C.pois=false
section
variable {C:Cch}{B:Nat->By}{k t:Nat}
theorem kind_of (hC:Cok C k t) (s:Nat):(C.lf s).kind=0\/(C.lf s).kind=1\/(C.lf s).kind=2:=by have:=(hC.ok s).bd.1;omega
theorem dirty_kind (hC:Cok C k t) {s:Nat}(h:(C.lf s).dirty=true):(C.lf s).kind≠0:=by
 rcases hC.ok s with e|⟨x,_,e⟩|⟨e,_⟩
 ·rw[e]at h;cases h
 ·rw[e];show(2:Nat)≠0;decide
 ·rw[e];decide
theorem Inv.val (h:Inv C B) (hC:Cok C k t) {s:Nat}(hs:(C.lf s).kind≠0):cval C s=(0,B (C.lf s).lba,C):=by
 unfold cval
 rcases kind_of hC s with e|e|e
 ·exact absurd e hs
 ·rw[if_neg (by omega),if_neg (by rw[h.on.1];simp)]
  have:=h.full s e
  unfold Cch.vopen
  rw[this]
 ·rw[if_pos e,h.zero s e]
theorem Inv.world (h:Inv C B) {C':Cch}(hl:∀i,C'.lf i=C.lf i) (hp:C'.pois=C.pois) (hon:C'.W.pow.on) (hd:∀x,x<32->dread C'.W.dsk x=dread C.W.dsk x) (ho:∀s b,(C.lf s).kind=1->C.W.vopen (C.lf s) s=some b->C'.W.vopen (C.lf s) s=some b):Inv C' B:=by
 refine⟨fun s hs=>?_,fun s hs=>?_,fun s s' h1 h2=>?_,fun x hx hdr=>?_,h.len,hon,hp.trans h.pois⟩
 ·rw[hl]at hs ⊢;exact ho s _ hs (h.full s hs)
 ·rw[hl]at hs ⊢;exact h.zero s hs
 ·rw[hl]at h1 h2 ⊢;rw[hl];exact h.one s s' h1 h2
 ·rw[hd x hx];exact h.disk x hx (fun s h1 h2=>by have:=hdr s;rw[hl]at this;exact this h1 h2)
theorem Inv.commit (h:Inv C B) (hC:Cok C k t) (hk:k<=900000):Inv (ccommit C).2 B/\((ccommit C).1=0\/(ccommit C).1=6):=by
 have hc:=on_cmt (M:=C.M) (ls:=C.now) h.on
 refine⟨h.world (C':=(ccommit C).2) (fun i=>rfl) rfl hc.1 (fun x hx=>?_) (fun s b h1 h2=>vopen_commit hC hk (lf_in (by omega)) h2),hc.2⟩
 show dread (cmt C.W C.M C.now).2.1.dsk x=_
 rw[(cmt_same C.W C.M C.now).2.2.1]
theorem Inv.touch (h:Inv C B) (s:Nat):Inv (ctouch C s) B:=h.world (fun i=>rfl) rfl h.on (fun x hx=>rfl) (fun s b h1 h2=>h2)
theorem Inv.refuse (h:Inv C B) (b:Bool):Inv (C.wld {C.W with dsk:={C.W.dsk with refuses:=b}}) B:=h.world (fun i=>rfl) rfl h.on (fun x hx=>rfl) (fun s b h1 h2=>h2)
theorem Inv.drops (h:Inv C B) {s:Nat}(hs:s<C.now.length) (h0:(C.lf s).kind≠0) (hd:(C.lf s).dirty=false\/dread C.W.dsk (C.lf s).lba=B (C.lf s).lba):Inv (cdrops C s) B:=by
 have hl:=lf_drops (C:=C) hs
 have hsub:∀i,((cdrops C s).lf i).kind≠0->i≠s/\(cdrops C s).lf i=C.lf i:=fun i hi=>by
  rw[hl]at hi ⊢
  by_cases c:i=s
  ·rw[if_pos c]at hi;exact absurd rfl hi
  ·rw[if_neg c];exact⟨c,rfl⟩
 refine⟨fun i hi=>?_,fun i hi=>?_,fun i j h1 h2 h3=>?_,fun x hx hdr=>?_,h.len,h.on,h.pois⟩
 ·obtain⟨_,e⟩:=hsub i (by omega)
  rw[e]at hi ⊢;exact h.full i hi
 ·obtain⟨_,e⟩:=hsub i (by omega)
  rw[e]at hi ⊢;exact h.zero i hi
 ·obtain⟨_,e1⟩:=hsub i h1
  obtain⟨_,e2⟩:=hsub j h2
  rw[e1]at h1 h3;rw[e2]at h2 h3
  exact h.one i j h1 h2 h3
 ·show dread C.W.dsk x=B x
  by_cases c:(C.lf s).lba=x
  ·rcases hd with hd|hd
   ·refine h.disk x hx (fun i h1 h2=>?_)
    have:i=s:=h.one i s h1 h0 (h2.trans c.symm)
    rw[this];exact hd
   ·rw[<-c];exact hd
  ·refine h.disk x hx (fun i h1 h2=>?_)
   have hi:i≠s:=fun e=>c (by rw[<-e];exact h2)
   have:=hdr i
   rw[hl,if_neg hi]at this
   exact this h1 h2
theorem dread_push (D:Dsk) (i:Int) (b:By) (x:Nat):dread (dpush D i b) x=if i=(x:Int)then b else dread D x:=by
 unfold dread dpush
 simp only[List.foldl_append,List.foldl_cons,List.foldl_nil]
 rfl
theorem dread_settled (D:Dsk) (x:Nat):dread (dsettled D) x=dread D x:=rfl
theorem Inv.spill (h:Inv C B) (hC:Cok C k t) {s:Nat}(h0:(C.lf s).kind≠0):
 Inv (cspill C s).2 B/\((cspill C s).1=0/\dread (cspill C s).2.W.dsk (C.lf s).lba=B (C.lf s).lba\/(cspill C s).1=5)/\(∀x,dread C.W.dsk x=B x->dread (cspill C s).2.W.dsk x=B x):=by
 unfold cspill
 rw[h.val hC h0,if_neg (by simp)]
 simp only
 cases hr:C.W.dsk.refuses with
 |true=>
  have e:C.W.dwr (C.lf s).lba (B (C.lf s).lba)=C.W:=by unfold Wld.dwr;rw[if_pos hr]
  have e2:dwok C.W.pow C.W.dsk=false:=by unfold dwok;rw[hr];rfl
  rw[e,e2,if_neg (by simp),if_neg (by rw[h.on.1];simp)]
  exact⟨h,.inr rfl,fun x hx=>hx⟩
 |false=>
  have e2:dwok C.W.pow C.W.dsk=true:=by unfold dwok;rw[hr,h.on.spend.1];rfl
  have e:(C.W.dwr (C.lf s).lba (B (C.lf s).lba)).dsk=dpush C.W.dsk (C.lf s).lba (B (C.lf s).lba):=by unfold Wld.dwr;rw[if_neg (by rw[hr];simp)];simp only;rw[if_pos h.on.spend.1]
  have e3:(C.W.dwr (C.lf s).lba (B (C.lf s).lba)).pow.on:=by unfold Wld.dwr;rw[if_neg (by rw[hr];simp)];exact h.on.spend.2
  have hx:∀x,dread C.W.dsk x=B x->dread (C.W.dwr (C.lf s).lba (B (C.lf s).lba)).dsk x=B x:=fun x hx=>by
   rw[e,dread_push]
   split
   ·rename_i c
    rw[show x=(C.lf s).lba by omega]
   ·exact hx
  rw[e2,if_pos rfl]
  refine⟨?_,.inl ⟨rfl,?_⟩,hx⟩
  ·have hv:∀l i,(C.W.dwr (C.lf s).lba (B (C.lf s).lba)).vopen l i=C.W.vopen l i:=fun l i=>by unfold Wld.dwr;split<;>rfl
   exact⟨fun i hi=>(hv _ _).trans (h.full i hi),h.zero,h.one,fun x hx1 hd=>hx x (h.disk x hx1 hd),h.len,e3,h.pois⟩
  ·show dread (C.W.dwr (C.lf s).lba (B (C.lf s).lba)).dsk (C.lf s).lba=_
   rw[e,dread_push,if_pos rfl]
theorem Inv.dbar (h:Inv C B):Inv (C.wld C.W.dbar) B:=by
 have e:∀x,dread C.W.dbar.dsk x=dread C.W.dsk x:=fun x=>by unfold Wld.dbar;simp only;split<;>rfl
 exact h.world (fun i=>rfl) rfl h.on.spend.2 (fun x _=>e x) (fun s b h1 h2=>h2)
def off56 (e:Int):Prop:=e=5\/e=6
theorem Inv.evict (h:Inv C B) (hC:Cok C k t) (hk:k<=800000) {s:Nat}(h0:(C.lf s).kind≠0):Inv (cevict C s).2 B/\((cevict C s).1=0\/off56 (cevict C s).1):=by
 have hs:=lf_in h0
 have h1:=h.spill hC h0
 have hn:=cspill_now C s
 unfold cevict
 cases hd:(C.lf s).dirty with
 |false=>
  rw[if_neg (by simp)]
  have h2:=(h.drops hs h0 (.inl hd)).commit (hC.drops hs) (by omega)
  exact⟨h2.1,h2.2.imp id .inr⟩
 |true=>
  rw[if_pos rfl]
  rcases h1.2.1 with⟨e,hdr⟩|e
  ·rw[if_neg (by rw[e];simp),if_neg (by rw[h1.1.on.spend.1];simp)]
   have hlf:(cspill C s).2.lf s=C.lf s:=by unfold Cch.lf;rw[hn.1]
   have hC2:=(hC.spill s).dbar
   have h3:=h1.1.dbar
   have hl3:((cspill C s).2.wld (cspill C s).2.W.dbar).lf s=C.lf s:=hlf
   have hd3:dread ((cspill C s).2.wld (cspill C s).2.W.dbar).W.dsk (C.lf s).lba=B (C.lf s).lba:=by
    have:dread (cspill C s).2.W.dbar.dsk (C.lf s).lba=dread (cspill C s).2.W.dsk (C.lf s).lba:=by unfold Wld.dbar;simp only;split<;>rfl
    exact this.trans hdr
   have hs3:s<((cspill C s).2.wld (cspill C s).2.W.dbar).now.length:=by show s<(cspill C s).2.now.length;rw[hn.1];exact hs
   have h4:=(h3.drops hs3 (by rw[hl3];exact h0) (.inr (by rw[hl3];exact hd3))).commit (hC2.drops hs3) (by omega)
   exact⟨h4.1,h4.2.imp id .inr⟩
  ·rw[if_pos (by rw[e];simp)]
   exact⟨h1.1,.inr (.inl e)⟩
theorem Inv.room (h:Inv C B) (hC:Cok C k t) (hk:k<=700000):Inv (croom C).2 B/\((croom C).1=0\/off56 (croom C).1):=by
 unfold croom
 split
 ·exact⟨h,.inl rfl⟩
 ·have h1:=h.commit hC (by omega)
  split
  ·rename_i h2
   exact⟨h1.1,h1.2.imp id .inr⟩
  ·rename_i h2
   split
   ·exact⟨h1.1,.inl rfl⟩
   ·rename_i h3
    have hCc:=hC.commit (by omega)
    have ho:=oldest_lt hCc (by omega) (commit_was h2)
    have hk0:((ccommit C).2.lf (oldest (ccommit C).2)).kind≠0:=by
     refine(hCc.age _).1 ?_
     rw[ho.2.2]
     unfold om
     rw[if_neg ho.2.1]
     exact el_mem (List.length_pos_iff.2 ho.2.1)
    exact h1.1.evict hCc (by omega) hk0
theorem Inv.puts (h:Inv C B) {s x:Nat}{d:By}{W':Wld}{M':Mk}(hs:s<C.now.length) (h0:(C.lf s).kind=0) (hx:x<32) {l:Lf}(hlx:l.lba=x) (hk0:l.kind≠0) (hd:d.length=32)
 (h1:l.kind=1->W'.vopen l s=some d) (h2:l.kind=2->d=nought) (hcl:l.dirty=false->dread C.W.dsk x=d) (hds:W'.dsk=C.W.dsk) (hon:W'.pow.on)
 (ho:∀i b,i≠s->(C.lf i).kind=1->C.W.vopen (C.lf i) i=some b->W'.vopen (C.lf i) i=some b) (hkn:l.kind=1\/l.kind=2):
 Inv (cputs ⟨W',M',C.now,C.was,C.age,C.T,C.pois⟩ s l) (upd B x d):=by
 obtain⟨C1,hC1⟩:∃C1:Cch,C1=⟨W',M',C.now,C.was,C.age,C.T,C.pois⟩:=⟨_,rfl⟩
 have hnow:C1.now=C.now:=by rw[hC1]
 have hlf1:∀i,C1.lf i=C.lf i:=fun i=>by unfold Cch.lf;rw[hnow]
 have hW1:(cputs C1 s l).W=W':=by rw[(cputs_W C1 s l).1,hC1]
 have hp1:(cputs C1 s l).pois=C.pois:=by
  rw[hC1];unfold cputs;split<;>rfl
 rw[<-hC1]
 have hall:=fun i=>lf_puts (C:=C1) (s:=s) (by rw[hnow];exact hs) (by rw[hlf1];exact h0) (l:=l) i
 have hsub:∀i,((cputs C1 s l).lf i).kind≠0->((cputs C1 s l).lf i=l/\i=s)\/((cputs C1 s l).lf i=C.lf i/\i≠s/\(C.lf i).kind≠0/\(C.lf i).lba≠x):=fun i hi=>by
  rcases hall i with c|c|c
  ·exact .inl c
  ·rw[c.1]at hi;exact absurd rfl hi
  ·rw[hlf1]at c
   refine .inr ⟨c.1,c.2.1,by rw[<-c.1];exact hi,fun e=>?_⟩
   have hk:(C.lf i).kind≠0:=by rw[<-c.1];exact hi
   have hc2:=c.2.2
   rw[hnow,hlx]at hc2
   rcases slotOf_bd C.now x with q|⟨y,q,hy,h3,h4⟩
   ·exact slotOf_no (by omega) (lf_in hk) hk e
   ·have:i=y:=h.one i y hk h3 (e.trans h4.symm)
    exact hc2 (by rw[q,this])
 refine⟨fun i hi=>?_,fun i hi=>?_,fun i j h3 h4 h5=>?_,fun y hy hdr=>?_,fun y hy=>?_,by rw[hW1];exact hon,hp1.trans h.pois⟩
 ·rw[hW1]
  rcases hsub i (by omega)with⟨e,rfl⟩|⟨e,hne,hk,hl⟩
  ·rw[e]at hi ⊢
   rw[h1 hi];unfold upd;rw[if_pos hlx]
  ·rw[e]at hi ⊢
   rw[ho i _ hne hi (h.full i hi)];unfold upd;rw[if_neg hl]
 ·rcases hsub i (by omega)with⟨e,rfl⟩|⟨e,hne,hk,hl⟩
  ·rw[e]at hi ⊢
   unfold upd;rw[if_pos hlx];exact h2 hi
  ·rw[e]at hi ⊢
   unfold upd;rw[if_neg hl];exact h.zero i hi
 ·rcases hsub i h3 with⟨e1,rfl⟩|⟨e1,hne1,hk1,hl1⟩
  ·rcases hsub j h4 with⟨e2,rfl⟩|⟨e2,hne2,hk2,hl2⟩
   ·rfl
   ·rw[e1,e2]at h5;exact absurd (h5.symm.trans hlx) hl2
  ·rcases hsub j h4 with⟨e2,rfl⟩|⟨e2,hne2,hk2,hl2⟩
   ·rw[e1,e2]at h5;exact absurd (h5.trans hlx) hl1
   ·rw[e1,e2]at h5;exact h.one i j hk1 hk2 h5
 ·rw[hW1,hds]
  have hnew:(cputs C1 s l).lf s=l:=by
   rcases hall s with c|c|c
   ·exact c.1
   ·exact absurd rfl c.2.1
   ·exact absurd rfl c.2.1
  unfold upd
  by_cases c:y=x
  ·rw[if_pos c,c]
   have:=hdr s
   rw[hnew]at this
   exact hcl (this hk0 (hlx.trans c.symm))
  ·rw[if_neg c]
   refine h.disk y hy (fun i h6 h7=>?_)
   rcases hall i with q|q|q
   ·have hi:i=s:=q.2
    rw[hi]at h6;exact absurd h0 h6
   ·have hq:=q.2.2.2
    rw[hnow,hlx]at hq
    rcases slotOf_bd C.now x with q2|⟨z,q2,hz,h8,h9⟩
    ·omega
    ·have:i=z:=by omega
     rw[<-this]at h9
     exact absurd (h7.symm.trans h9) c
   ·rw[hlf1]at q
    have:=hdr i
    rw[q.1]at this
    exact this h6 h7
 ·unfold upd
  split
  ·exact hd
  ·exact h.len y hy
end
end Go.Proofs.YtggmdjdflaglpaaGreat
namespace Go.Proofs.YtggmdjdflaglpaaGreat
open Go.RowKit Go.Proofs.YtggmdjdflaglpaaGreat.geo
open Go.Proofs.YtggmdjdflaglpaaGreat.r27 (okc upd)
set_option linter.unusedVariables false
section
variable {C:Cch}{B:Nat->By}{k t:Nat}
theorem Inv.spills (h:Inv C B) (hC:Cok C k t):∀i,Inv (cspills C i).2.1 B/\(∀x,dread C.W.dsk x=B x->dread (cspills C i).2.1.W.dsk x=B x)/\
 (((cspills C i).1=0/\∀j,j<i->(C.lf j).dirty=true->dread (cspills C i).2.1.W.dsk (C.lf j).lba=B (C.lf j).lba)\/(cspills C i).1=5)
 |0=>⟨h,fun x hx=>hx,.inl ⟨rfl,fun j hj=>absurd hj (Nat.not_lt_zero j)⟩⟩
 |i+1=>by
  obtain⟨ih1,ih2,ih3⟩:=h.spills hC i
  unfold cspills
  rcases ih3 with⟨e,hj⟩|e
  ·rw[if_neg (by rw[e];simp)]
   cases hd:(C.lf i).dirty with
   |false=>
    rw[if_neg (by simp)]
    refine⟨ih1,ih2,.inl ⟨e,fun j hji hdj=>?_⟩⟩
    by_cases c:j=i
    ·rw[c,hd]at hdj;cases hdj
    ·exact hj j (by omega) hdj
   |true=>
    rw[if_pos rfl]
    have hlf:(cspills C i).2.1.lf i=C.lf i:=by unfold Cch.lf;rw[(cspills_now C i).1]
    have hs:=ih1.spill (hC.spills i) (s:=i) (by rw[hlf];exact dirty_kind hC hd)
    rw[hlf]at hs
    refine⟨hs.1,fun x hx=>hs.2.2 x (ih2 x hx),?_⟩
    rcases hs.2.1 with⟨e1,e2⟩|e1
    ·refine .inl ⟨e1,fun j hji hdj=>?_⟩
     by_cases c:j=i
     ·rw[c];exact e2
     ·exact hs.2.2 _ (hj j (by omega) hdj)
    ·exact .inr e1
  ·rw[if_pos (by rw[e];simp)]
   exact⟨ih1,ih2,.inr e⟩
theorem lf_clear (C:Cch) (i:Nat):(cclear C).lf i=Lf.no:=by
 show(List.replicate C.now.length Lf.no).getD i Lf.no=_
 rw[List.getD_eq_getElem?_getD,List.getElem?_replicate]
 split<;>rfl
theorem Inv.clear (h:Inv C B) (hC:Cok C k t) (hd:∀j,(C.lf j).dirty=true->dread C.W.dsk (C.lf j).lba=B (C.lf j).lba):Inv (cclear C) B:=by
 have hl:=lf_clear C
 refine⟨fun i hi=>?_,fun i hi=>?_,fun i j h1=>?_,fun x hx _=>?_,h.len,h.on,h.pois⟩
 ·rw[hl]at hi;exact absurd hi (by decide)
 ·rw[hl]at hi;exact absurd hi (by decide)
 ·rw[hl]at h1;exact absurd rfl h1
 ·show dread C.W.dsk x=B x
  by_cases c:∃j,(C.lf j).dirty=true/\(C.lf j).lba=x
  ·obtain⟨j,h1,h2⟩:=c
   rw[<-h2];exact hd j h1
  ·refine h.disk x hx (fun s h1 h2=>?_)
   cases hq:(C.lf s).dirty with
   |false=>rfl
   |true=>exact absurd ⟨s,hq,h2⟩ c
theorem Inv.empty (h:Inv C B) (hC:Cok C k t):Inv (cempty C).2 B/\(((cempty C).1=0/\∀i,((cempty C).2.lf i)=Lf.no)\/off56 (cempty C).1):=by
 obtain⟨h1,h2,h3⟩:=h.spills hC C.now.length
 have hn:=cspills_now C C.now.length
 have hlf:∀j,(cspills C C.now.length).2.1.lf j=C.lf j:=fun j=>by unfold Cch.lf;rw[hn.1]
 have hin:∀j,(C.lf j).dirty=true->j<C.now.length:=fun j hj=>lf_in (dirty_kind hC hj)
 unfold cempty
 rcases h3 with⟨e,hj⟩|e
 ·rw[if_neg (by rw[e];simp)]
  have hCs:=hC.spills C.now.length
  split
  ·rw[if_neg (by rw[h1.on.spend.1];simp)]
   refine⟨h1.dbar.clear hCs.dbar (fun j hd=>?_),.inl ⟨rfl,fun i=>lf_clear _ i⟩⟩
   have hlj:((cspills C C.now.length).2.1.wld (cspills C C.now.length).2.1.W.dbar).lf j=C.lf j:=hlf j
   rw[hlj]at hd ⊢
   have:dread (cspills C C.now.length).2.1.W.dbar.dsk (C.lf j).lba=dread (cspills C C.now.length).2.1.W.dsk (C.lf j).lba:=by unfold Wld.dbar;simp only;split<;>rfl
   exact this.trans (hj j (hin j hd) hd)
  ·refine⟨h1.clear hCs (fun j hd=>?_),.inl ⟨rfl,fun i=>lf_clear _ i⟩⟩
   rw[hlf]at hd ⊢
   exact hj j (hin j hd) hd
 ·rw[if_pos (by rw[e];simp)]
  exact⟨h1,.inr (.inl e)⟩
theorem Inv.keys (h:Inv C B) {W':Wld}(hl:∀i,C.lf i=Lf.no) (hon:W'.pow.on) (hd:W'.dsk=C.W.dsk):Inv (C.wld W') B:=
 h.world (fun i=>rfl) rfl hon (fun x hx=>by show dread W'.dsk x=_;rw[hd]) (fun s b h1 h2=>by rw[hl]at h1;exact absurd h1 (by decide))
theorem Inv.forget (h:Inv C B) (hC:Cok C k t) (hk:k<=900000) (hl:∀i,C.lf i=Lf.no):Inv (cforget C).2 B/\((cforget C).1=0\/off56 (cforget C).1):=by
 have h1:=h.commit hC hk
 unfold cforget
 split
 ·exact⟨h1.1,h1.2.imp id .inr⟩
 ·rw[if_pos h1.1.on.spend.1]
  exact⟨h1.1.keys hl h1.1.on.spend.2 rfl,.inl rfl⟩
theorem Inv.rotate (h:Inv C B) (hC:Cok C k t) (hk:k<=700000):Inv (crotate C).2 B/\((crotate C).1=0\/off56 (crotate C).1):=by
 have h1:=h.commit hC (by omega)
 have hC1:=hC.commit (by omega)
 unfold crotate
 split
 ·exact⟨h1.1,h1.2.imp id .inr⟩
 ·have h2:=h1.1.empty hC1
  have hC2:=hC1.empty
  rcases h2.2 with⟨e,hl⟩|e
  ·rw[if_neg (by rw[e];simp),if_neg (by rw[h2.1.on.spend.1];simp)]
   have h3:Inv ((cempty (ccommit C).2).2.wld (cempty (ccommit C).2).2.W.kadd) B:=h2.1.keys hl h2.1.on.spend.2 rfl
   have hC3:Cok ((cempty (ccommit C).2).2.wld (cempty (ccommit C).2).2.W.kadd) (k+83) t:=hC2.wld hC2.fit.kadd hC2.good rfl (by show 1<=(if(spend (cempty (ccommit C).2).2.W.pow).2 then(⟨_,_,true⟩:Kys)else _).a;split<;>exact hC2.ka)
   exact h3.forget hC3 (by omega) hl
  ·rw[if_pos (by rcases e with e|e<;>rw[e]<;>simp)]
   exact⟨h2.1,.inr e⟩
theorem Inv.lay (h:Inv C B) (hC:Cok C k t) {s x:Nat}{data:By}{d:Bool}(hs:s<C.now.length) (h0:(C.lf s).kind=0) (hx:x<32) (hd:data.length=32) (hcl:d=false->dread C.W.dsk x=data):
 (clay C s x data d).1=0/\Inv (cputs (clay C s x data d).2.2 s (clay C s x data d).2.1) (upd B x data)\/(clay C s x data d).1=6/\(clay C s x data d).2.2=C/\C.M.n=100:=by
 rcases clay_err C s x data d with⟨e1,e2,e3⟩|⟨e1,e2,e3⟩|⟨e1,e2,e3,e4⟩
 ·refine .inl ⟨e1,?_⟩
  rw[e2]
  exact h.puts (W':=lwld C s x data) (M':=C.M.up) (l:=lleaf C s x data d) hs h0 hx rfl Nat.one_ne_zero hd (fun _=>vopen_laid hC hd hs h.on.spend.1 d) (fun c=>absurd c (by show(1:Nat)≠2;decide)) hcl rfl h.on.spend.2 (fun i b hi h1 h2=>vopen_lay hC hd hs hi h2) (.inl rfl)
 ·exact .inr ⟨e1,by rw[e2],e3⟩
 ·rw[h.on.spend.1]at e4;cases e4
theorem upd_same {x:Nat}{d:By}(hd:d=B x):upd B x d=B:=by
 funext i
 unfold upd
 split
 ·rename_i e;rw[e];exact hd
 ·rfl
theorem Inv.read (h:Inv C B) (hC:Cok C k t) {x:Nat}(hx:x<32):(cread C x).1=0/\(cread C x).2.1=B x/\Inv (cread C x).2.2 B:=by
 unfold cread
 rcases slotOf_bd C.now x with e|⟨s,e,hs,h1,h2⟩
 ·have hdr:dread C.W.dsk x=B x:=h.disk x hx (fun s h1 h2=>absurd h2 (slotOf_no (by omega) (lf_in h1) h1))
  rw[if_neg (by rw[e];decide),if_neg (by rw[h.on.1];simp)]
  split
  ·exact⟨rfl,hdr,h⟩
  ·rename_i hf
   rcases free_bd C with q|⟨s,q,hs,h0,_⟩
   ·exact absurd (.inl (by omega)) hf
   ·rw[q,Int.toNat_natCast]
    rcases h.lay hC (d:=false) hs h0 hx (by rw[hdr];exact h.len x hx) (fun _=>rfl)with⟨c1,c2⟩|⟨c1,c2,c3⟩
    ·rw[if_neg (by rw[c1];simp)]
     rw[upd_same hdr]at c2
     exact⟨rfl,hdr,c2⟩
    ·exact absurd (.inr c3) hf
 ·rw[e,if_pos (by omega),Int.toNat_natCast]
  have hv:=h.val hC (s:=s) h1
  have h2':(C.lf s).lba=x:=h2
  rw[hv,h2']
  rw[if_neg (by simp)]
  exact⟨rfl,rfl,h.touch s⟩
theorem Inv.write (h:Inv C B) (hC:Cok C k t) (hk:k<=700000) {x:Nat}(hx:x<32) {data:By}(hd:data.length=32):(cwrite C x data).1=0/\Inv (cwrite C x data).2 (upd B x data)\/off56 (cwrite C x data).1/\Inv (cwrite C x data).2 B:=by
 have h1:=h.room hC hk
 have hC1:=hC.room hk
 have hfr:=room_free hC hk
 unfold cwrite
 split
 ·rename_i hne
  rcases h1.2 with e|e
  ·exact absurd e hne
  ·exact .inr ⟨e,h1.1⟩
 ·rename_i he
  have hf:=hfr (by omega)
  rcases free_bd (croom C).2 with q|⟨s,q,hs,h0,_⟩
  ·omega
  ·rw[q,Int.toNat_natCast]
   rcases h1.1.lay hC1 (d:=true) hs h0 hx hd (fun c=>by cases c)with⟨c1,c2⟩|⟨c1,c2,_⟩
   ·rw[if_neg (by rw[c1];simp)]
    exact .inl ⟨rfl,c2⟩
   ·rw[if_pos (by rw[c1];simp)]
    exact .inr ⟨.inr c1,by simp only;rw[c2];exact h1.1⟩
theorem Inv.discard (h:Inv C B) (hC:Cok C k t) (hk:k<=700000) {x:Nat}(hx:x<32):(cdiscard C x).1=0/\Inv (cdiscard C x).2 (upd B x nought)\/off56 (cdiscard C x).1/\Inv (cdiscard C x).2 B:=by
 have h1:=h.room hC hk
 have hfr:=room_free hC hk
 unfold cdiscard
 split
 ·rename_i hne
  rcases h1.2 with e|e
  ·exact absurd e hne
  ·exact .inr ⟨e,h1.1⟩
 ·rename_i he
  have hf:=hfr (by omega)
  rcases free_bd (croom C).2 with q|⟨s,q,hs,h0,_⟩
  ·omega
  ·rw[q,Int.toNat_natCast]
   refine .inl ⟨rfl,?_⟩
   exact h1.1.puts (W':=(croom C).2.W) (M':=(croom C).2.M) (l:=Lf.zero x) hs h0 hx rfl (by show(2:Nat)≠0;decide) (by simp[nought]) (fun c=>absurd c (by show(2:Nat)≠1;decide)) (fun _=>rfl) (fun c=>by cases c) rfl h1.1.on (fun i b hi h1 h2=>h2) (.inr rfl)
def bnext (B:Nat->By) (kd l:Int) (data:By):Nat->By:=if kd=2 then upd B l.toNat data else if kd=4 then upd B l.toNat nought else B
def btell (B:Nat->By) (kd l:Int):By:=if kd=1 then B l.toNat else []
theorem Inv.do_ (h:Inv C B) (hC:Cok C k t) (hk:k<=700000) {kd l:Int}{data:By}(hok:okc kd l data.length):
 (cdo C kd l data).1=0/\(cdo C kd l data).2.1=btell B kd l/\Inv (cdo C kd l data).2.2 (bnext B kd l data)\/off56 (cdo C kd l data).1/\Inv (cdo C kd l data).2.2 B:=by
 unfold cdo
 rw[if_neg (by rw[h.on.1];simp),if_neg (by rw[h.pois];simp),if_neg (not_not_intro hok)]
 rcases hok with⟨hk',l0,l1⟩|⟨rfl,⟨l0,l1⟩,hn⟩|hk'
 ·have hx:l.toNat<32:=by omega
  rcases hk' with rfl|rfl
  ·rw[if_pos rfl]
   exact .inl (h.read hC hx)
  ·rw[if_neg (by decide),if_neg (by decide),if_neg (by decide),if_pos rfl]
   rcases h.discard hC hk hx with⟨e1,e2⟩|⟨e1,e2⟩
   ·exact .inl ⟨e1,rfl,e2⟩
   ·exact .inr ⟨e1,e2⟩
 ·have hx:l.toNat<32:=by omega
  rw[if_neg (by decide),if_pos rfl]
  rcases h.write hC hk hx hn with⟨e1,e2⟩|⟨e1,e2⟩
  ·exact .inl ⟨e1,rfl,e2⟩
  ·exact .inr ⟨e1,e2⟩
 ·rcases hk' with rfl|rfl
  ·rw[if_neg (by decide),if_neg (by decide),if_pos rfl]
   have:=h.commit hC (by omega)
   rcases this.2 with e|e
   ·exact .inl ⟨e,rfl,this.1⟩
   ·exact .inr ⟨.inr e,this.1⟩
  ·rw[if_neg (by decide),if_neg (by decide),if_neg (by decide),if_neg (by decide)]
   have:=h.rotate hC hk
   rcases this.2 with e|e
   ·exact .inl ⟨e,rfl,this.1⟩
   ·exact .inr ⟨e,this.1⟩
theorem Inv.do_not (h:Inv C B) {kd l:Int}{data:By}(hok:¬okc kd l data.length):cdo C kd l data=(1,[],C):=by
 unfold cdo
 rw[if_neg (by rw[h.on.1];simp),if_neg (by rw[h.pois];simp),if_pos hok]
end
end Go.Proofs.YtggmdjdflaglpaaGreat
namespace Go.Proofs.YtggmdjdflaglpaaGreat
open Go.RowKit Go.Proofs.YtggmdjdflaglpaaGreat.geo
set_option linter.unusedVariables false
theorem s2b {w:World}{wl ca:Nat}{x0 x1 x2 x3 x5 x6:Value}(b:Blk w wl 70 #[x0,x1,x2,x3,.pointer (some ⟨ca,0,none⟩),x5,x6]):w.cell? ⟨wl,4,none⟩=some (.pointer (some ⟨ca,0,none⟩)):=b.cell_ 4 rfl
def OpP (ρ:Rl) (a:Ads) (R:Int×Cch) (w:World) (e:Ending) (w':World):Prop:=
 (R.1=0/\∃cc m,e=.returned (.tuple #[.pointer (some ⟨cc,0,none⟩),.int .i64 0])/\∃ρ' ag,CchR ρ' w' a cc m ag R.2/\Ste rtC ρ w ρ' w')\/
 (R.1≠0/\e=.returned (.tuple #[.pointer none,.int .i64 R.1])/\∃ρ',WldR ρ' w' a R.2.W/\Ste rtC ρ w ρ' w')
set_option maxHeartbeats 8000000 in
set_option maxRecDepth 100000 in
theorem open_ok (HO:OpenOk) (HS:SumOk) (HT:ShutOk) (ρ:Rl) (a:Ads) (W W2:Wld) (ls:List Lf) (k:Nat) (w:World) (hf:Fresh ρ w) (h:WldR ρ w a W) (hg:W.pow.gone=false) (hsp:(spend W.pow).2=true) (hfit:W.fit k) (hk:k<=300000)
 (hld:∀(ρ1:Rl) (w1:World),Fresh ρ1 w1->WldR ρ1 w1 a W.bot->Calls Tryz.prog 37 #[.pointer (some ⟨a.wl,0,none⟩)] w1 (LdP ρ1 a 0 ls W2 w1))
 (hf2:W2.fit (k+100)) (hg2:W2.lk.good) (ha2:1<=W2.kys.a) (hn2:ls.length=W2.slots) (hok2:∀(i:Nat) (l:Lf),ls[i]? =some l->l.ok i):
 Calls Tryz.prog 16 #[.pointer (some ⟨a.wl,0,none⟩)] w (OpP ρ a (copen W2 ls) w):=by
 have hl16:4<=ls.length/\ls.length<=16:=by have:=hf2.geo;rw[hn2];unfold V at this;omega
 have hon:=won_ok ρ a W w h
 rw[hg]at hon
 have hbo:=wboot_ok ρ a W w hf h (by have:=hfit.cnt.2;omega)
 rw[hsp]at hbo
 have hcok:=cstart_cok hf2 hg2 ha2 hn2 hok2 (by omega)
 have hbb:W2.cnt.boots<4294967296:=by have:=hf2.cnt.2;omega
 have c1:=h.1.cell_ 1 rfl
 have c4:=h.1.cell_ 4 rfl
 have lw:=h.1.lt
 obtain⟨n,hn⟩:∃n,n=ls.length:=⟨_,rfl⟩
 have HN:=Lib.hid (And.intro hn (And.intro hl16 (And.intro hcok hbb)))
 have HLD:=Lib.hid hld
 obtain⟨R,hR⟩:∃R,R=copen W2 ls:=⟨_,rfl⟩
 rw[<-hR]
 have HR:=Lib.hid hR
 clear h hg hsp hfit hld hf2 hg2 ha2 hn2 hok2 hn hl16 hcok hbb hR
 go_enter Tryz.func16,Tryz.ntmps16
 go_wp2_with fail
 refine hon.mono ?_
 rintro e w1 ⟨rfl,rfl⟩
 clear hon
 go_wp2_with fail
 refine hbo.mono ?_
 rintro e w1 ⟨rfl,ρ1,h1,s1⟩
 clear hbo c1 c4 lw
 have hl1:=HLD.out ρ1 w1 s1.fresh h1
 have HS1:=Lib.hid s1
 clear h1 s1
 go_wp2_with fail
 refine hl1.mono ?_
 rintro e w2 ⟨A,ln,lc,rfl,ρ2,hv,h2,s2⟩
 clear hl1
 have hv:=hv rfl
 obtain⟨g,cap,rr,hve,hg0,hgb⟩:=hv
 injection hve with e1 e2 e3
 subst e1 e2 e3
 have hbt:=boots_ok a.p a.c W2.cnt w2 h2.2.2.2.2.2.2.1
 obtain⟨bt,hbt'⟩:∃bt,bt=W2.cnt.boots:=⟨_,rfl⟩
 rw[<-hbt']at hbt
 have hnn:=fun W=>nce.new_ok (bt:Int) W (by omega) (by rw[hbt'];have:=HN.out.2.2.2;omega)
 have c4:=h2.1.cell_ 4 rfl
 have lw2:=h2.1.lt
 have hln:ls.length=n:=HN.out.1.symm
 have st2:Ste rtC ρ w ρ2 w2:=(HS1.out.mono (fun r e=>e.c)).trans (s2.mono (fun r e=>e.c))
 have H2:=Lib.hid (And.intro h2 (And.intro st2 (And.intro hg0 (And.intro hgb hbt'))))
 have HLN:=Lib.hid hln
 rw[hln]
 clear h2 s2 st2 hg0 hgb hbt' hln
 go_wp2_with fail
 refine hbt.mono ?_
 rintro e w3 ⟨rfl,rfl⟩
 clear hbt
 go_wp2_with fail
 refine(hnn _).mono ?_
 rintro e w3 ⟨rfl,rfl⟩
 clear hnn c4
 obtain⟨h2,st2,hg0,hgb,hbt'⟩:=H2.out
 have q3:Below w2.heap.size w2 (w2.alloc (.cells #[.int .u64 bt,.int .i64 0] 144)):=(Below.refl _ _).alloc (Nat.le_refl _) _
 have hB3:=Blk.new w2 144 #[.int .u64 bt,.int .i64 0]
 obtain⟨w3,hw3⟩:∃w3,w3=w2.alloc (.cells #[.int .u64 bt,.int .i64 0] 144):=⟨_,rfl⟩
 rw[<-hw3]at q3 hB3 ⊢
 obtain⟨m,hm⟩:∃m,m=w2.heap.size:=⟨_,rfl⟩
 rw[<-hm]at hB3 ⊢
 have h3:=h2.below_ q3
 have hgb3:=hgb.below_ q3
 have hcl:=lclone_ok (fun _=>True) (.slice (some ⟨g,0,none⟩) ls.length lc) ls w3 ⟨g,lc,rr,rfl,trivial,hgb3⟩ (by have:=HN.out.2.1;omega)
 rw[HLN.out]at hcl
 have H3:=Lib.hid (And.intro h3 (And.intro hgb3 (And.intro hB3 (And.intro q3 hm))))
 clear h2 st2 hg0 hgb hbt' q3 hB3 hw3 hm h3 hgb3
 go_wp2_with fail
 refine hcl.mono ?_
 rintro e w4 ⟨v4,rfl,ho4,q4⟩
 clear hcl
 obtain⟨A4,z4,rfl⟩:=row_form ho4
 obtain⟨h3,hgb3,hB3,q3,hm⟩:=H3.out
 obtain⟨h2,st2,hg0,hgb,hbt'⟩:=H2.out
 rw[<-HLN.out]at ho4
 obtain⟨g4,hv4,hg4,hgl4⟩:=LvsP.of_row ho4 (by have:=HN.out.2.1;omega)
 have h4:=h3.below_ q4
 have hgb4:=hgb3.below_ q4
 have hB4:=hB3.below_ q4
 have q24:Below w2.heap.size w2 w4:=q3.trans (q4.mono q3.size)
 have hmg:m≠g:=fun c=>by have:=hgb.lt;omega
 have hm4:m<w4.heap.size:=hB4.lt
 have hg3:w2.heap.size<w3.heap.size:=by rw[<-hm];exact hB3.lt
 have hgl2:=hgb.lt
 have hgold:=hg0.2
 have hs12:w.heap.size<=w1.heap.size:=HS1.out.size
 have st4:Ste rtC ρ w (((ρ2.set m rMkr).set g rNow).set g4 rWas) w4:=(((st2.trans (Ste.of_below (T:=rtC) q24 st2.fresh)).label (by rw[hm];exact st2.size) hm4).label (by omega) hgb4.lt).label (by have:=st2.size;omega) hgl4
 obtain⟨ρ4,hρ4⟩:∃ρ4,ρ4=((ρ2.set m rMkr).set g rNow).set g4 rWas:=⟨_,rfl⟩
 have rg:ρ4 g=rNow:=by rw[hρ4,Rl.set_other _ (by omega),Rl.set_same]
 have rm:ρ4 m=rMkr:=by rw[hρ4,Rl.set_other _ (by omega),Rl.set_other _ hmg,Rl.set_same]
 have r4:ρ4 g4=rWas:=by rw[hρ4,Rl.set_same]
 have rold:∀b,ρ2 b≠0->ρ4 b=ρ2 b:=fun b e=>by
  have z1:ρ2 g=0:=hg0.1
  have z2:ρ2 m=0:=st2.fresh m (by omega)
  have z3:ρ2 g4=0:=st2.fresh g4 (by omega)
  rw[hρ4,Rl.set_other _ (fun c=>e (by rw[c];exact z3)),Rl.set_other _ (fun c=>e (by rw[c];exact z1)),Rl.set_other _ (fun c=>e (by rw[c];exact z2))]
 rw[<-hρ4]at st4
 have hw4:WldR ρ4 w4 a W2:=h4.keep (Nat.le_refl _) (fun b hb e=>⟨rfl,rold b (by unfold rsW at e;omega)⟩)
 have hag:=aage_ok ρ4 w4 st4.fresh
 have HB:=Lib.hid (And.intro hw4 (And.intro hgb4 (And.intro hB4 (And.intro st4 (And.intro hv4 (And.intro rg (And.intro rm r4)))))))
 clear h3 hgb3 hB3 q3 hm h2 st2 hg0 hgb hbt' ho4 hv4 hg4 hgl4 h4 hgb4 hB4 q24 hmg hm4 hg3 hgl2 hgold hs12 st4 hρ4 rg rm r4 rold hw4 q4
 go_wp2_with fail
 refine hag.mono ?_
 rintro e w5 ⟨rfl,ρ5,hA5,hs5,q5⟩
 clear hag
 obtain⟨hw4,hgb4,hB4,st4,hv4,rg,rm,r4⟩:=HB.out
 have s5:=hs5 rtN
 have hsz5:=q5.size
 have hl4:m<w4.heap.size:=hB4.lt
 have hlg:=hgb4.lt
 obtain⟨g4',cap4,rr4,he4,hp4,hb4⟩:=hv4
 have q6:Below w5.heap.size w5 (w5.alloc (.cells #[.pointer (some ⟨a.wl,0,none⟩),.pointer (some ⟨m,0,none⟩),.slice (some ⟨g,0,none⟩) n lc,.slice A4 n z4,.pointer (some ⟨w4.heap.size,0,none⟩),.bool false] 107)):=(Below.refl _ _).alloc (Nat.le_refl _) _
 have hcB:=Blk.new w5 107 #[.pointer (some ⟨a.wl,0,none⟩),.pointer (some ⟨m,0,none⟩),.slice (some ⟨g,0,none⟩) n lc,.slice A4 n z4,.pointer (some ⟨w4.heap.size,0,none⟩),.bool false]
 have s6:Ste rtN ρ5 w5 (ρ5.set w5.heap.size rCch) (w5.alloc (.cells #[.pointer (some ⟨a.wl,0,none⟩),.pointer (some ⟨m,0,none⟩),.slice (some ⟨g,0,none⟩) n lc,.slice A4 n z4,.pointer (some ⟨w4.heap.size,0,none⟩),.bool false] 107)):=(Ste.of_below q6 s5.fresh).label (Nat.le_refl _) hcB.lt
 have s46:=s5.trans s6
 obtain⟨w6,hw6⟩:∃w6,w6=w5.alloc (.cells #[.pointer (some ⟨a.wl,0,none⟩),.pointer (some ⟨m,0,none⟩),.slice (some ⟨g,0,none⟩) n lc,.slice A4 n z4,.pointer (some ⟨w4.heap.size,0,none⟩),.bool false] 107):=⟨_,rfl⟩
 obtain⟨ρ6,hρ6⟩:∃ρ6,ρ6=ρ5.set w5.heap.size rCch:=⟨_,rfl⟩
 obtain⟨cc,hcc⟩:∃cc,cc=w5.heap.size:=⟨_,rfl⟩
 obtain⟨ag,hag⟩:∃ag,ag=w4.heap.size:=⟨_,rfl⟩
 have rcc:ρ6 cc=rCch:=by rw[hρ6,hcc];exact Rl.set_same _ _ _
 have hkw:∀b,b<w4.heap.size->w6.heap[b]? =w4.heap[b]? /\ρ6 b=ρ4 b:=fun b hb=>by rw[hw6,hρ6];exact⟨s46.ch.keep b hb id,s46.old b hb⟩
 have hA6:AgeR ρ6 w6 ag 0 []:=by
  rw[hag]
  exact hA5.keep (fun b hb _=>by rw[hw6,hρ6];exact⟨s6.ch.keep b hb id,s6.old b hb⟩)
 have hcB6:Blk w6 cc 107 #[.pointer (some ⟨a.wl,0,none⟩),.pointer (some ⟨m,0,none⟩),.slice (some ⟨g,0,none⟩) n lc,.slice A4 n z4,.pointer (some ⟨ag,0,none⟩),.bool false]:=by rw[hw6,hcc,hag];exact hcB
 have hC6:CchR ρ6 w6 a cc m ag ⟨W2,⟨W2.cnt.boots,0⟩,ls,ls,[],0,false⟩:=by
  refine⟨_,_,hcB6,rcc,hw4.keep (by rw[hw6];exact s46.size) (fun b hb _=>hkw b hb),?_,?_,?_,hA6⟩
  ·have:=hkw m hl4
   refine⟨?_,this.2.trans rm,by show(0:Nat)<=100;omega,HN.out.2.2.2⟩
   have hb:=this.1.trans hB4
   rw[H2.out.2.2.2.2]at hb
   exact hb
  ·have:=hkw g hlg
   exact⟨g,lc,rr,by rw[HLN.out],this.2.trans rg,this.1.trans hgb4⟩
  ·subst hp4
   have:=hkw g4' hb4.lt
   exact⟨g4',cap4,rr4,by rw[<-HLN.out];exact he4,this.2.trans r4,this.1.trans hb4⟩
 have hgb6:Blk w6 g 103 (lcs ls++rr).toArray:=(hkw g hlg).1.trans hgb4
 have rg6:ρ6 g=rNow:=(hkw g hlg).2.trans rg
 have st6:Ste rtC ρ w ρ6 w6:=by rw[hw6,hρ6];exact st4.trans s46.none
 have HW6:=Lib.hid hw6
 have HCC:=Lib.hid (And.intro hcc hag)
 have hC60:CchR ρ6 w6 a cc m ag (ctouchs ⟨W2,⟨W2.cnt.boots,0⟩,ls,ls,[],0,false⟩ 0):=hC6
 have hcc0:=hcB6.lt
 clear hA5 hs5 q5 hw4 hgb4 hB4 st4 rg rm r4 s5 hsz5 hl4 hlg he4 hp4 hb4 q6 hcB s6 s46 hw6 hρ6 hcc hag hkw hA6 hC6 rcc hcB6
 go_wp2_with fail
 rw[<-HW6.out,<-HCC.out.1]
 try rw[<-HCC.out.2]
 have hstep:∀i,ctouchs ⟨W2,⟨W2.cnt.boots,0⟩,ls,ls,[],0,false⟩ (i+1)=if((⟨W2,⟨W2.cnt.boots,0⟩,ls,ls,[],0,false⟩:Cch).lf i).kind≠0 then ctouch (ctouchs ⟨W2,⟨W2.cnt.boots,0⟩,ls,ls,[],0,false⟩ i) i else ctouchs ⟨W2,⟨W2.cnt.boots,0⟩,ls,ls,[],0,false⟩ i:=fun _=>rfl
 have hTT:∀i,(ctouchs ⟨W2,⟨W2.cnt.boots,0⟩,ls,ls,[],0,false⟩ i).T<=i:=fun i=>by have:=(ctouchs_now ⟨W2,⟨W2.cnt.boots,0⟩,ls,ls,[],0,false⟩ i).2.2.2.2.1;simp only at this;omega
 have hlf:∀i,i<n->ls[i]? =some ((⟨W2,⟨W2.cnt.boots,0⟩,ls,ls,[],0,false⟩:Cch).lf i):=fun i hi=>lf_at ⟨W2,⟨W2.cnt.boots,0⟩,ls,ls,[],0,false⟩ (by show i<ls.length;rw[HLN.out];exact hi)
 obtain⟨S,hS⟩:∃S,S=ctouchs ⟨W2,⟨W2.cnt.boots,0⟩,ls,ls,[],0,false⟩:=⟨_,rfl⟩
 obtain⟨F,hF⟩:∃F:Nat->Lf,F=(⟨W2,⟨W2.cnt.boots,0⟩,ls,ls,[],0,false⟩:Cch).lf:=⟨_,rfl⟩
 rw[<-hS,<-hF]at hstep
 rw[<-hS]at hTT hC60
 rw[<-hF]at hlf
 have H0:=Lib.hid (And.intro hstep (And.intro hTT (And.intro hlf hS)))
 have rgA:ρ6 g≠rAge:=by rw[rg6];decide
 have hglt:g<w6.heap.size:=hgb6.lt
 have hst0:Ste rtC ρ6 w6 ρ6 w6:=Ste.refl _ st6.fresh
 clear hstep hTT hlf hS hF
 go_loopw [59] (fun t wr=>∃(i:Nat) (ρr:Rl),t=.int .i64 i/\i<=n/\CchR ρr wr a cc m ag (S i)/\Ste rtC ρ6 w6 ρr wr/\Blk wr g 103 (lcs ls++rr).toArray/\ρr g=rNow) (fun t _=>n-(intOf t).toNat)
 case atStart=>exact⟨0,ρ6,rfl,by omega,hC60,hst0,hgb6,rg6⟩
 case round=>
  obtain⟨i,ρr,rfl,hi,hCr,hst,hgr,hrg⟩:=hrel
  clear hC60 hst0 hgb6
  obtain⟨hstep,hTT,hlf,hS⟩:=H0.out
  by_cases hlt:i<n
  ·have hgl:=hgr.leaf (hlf i hlt)
   have lg:=hgr.lt
   obtain⟨l,hl⟩:∃l,l=F i:=⟨_,rfl⟩
   have hst1:=hstep i
   rw[<-hl]at hst1 hgl
   obtain⟨kind,dirty,lba,⟨ep,sl,ver⟩,ta,tb⟩:=l
   unfold lfc at hgl
   simp only at hgl hst1
   have m0:(0:Int)<=(i:Int):=by omega
   have m1:(i:Int)<(n:Int):=by omega
   have hn16:=HN.out.2.1
   have hln':=HLN.out
   have hi16:i<16:=by omega
   obtain⟨x,hx⟩:∃x:Int,x=(kind:Int):=⟨_,rfl⟩
   rw[<-hx]at hgl
   have sz8:(Tryz.prog.info? 103).map (·.size)=some ([.int .i64 x,.bool dirty,.int .i64 lba,.int .u32 ep,.int .u32 sl,.int .u64 ver,.int .u64 ta,.int .u64 tb]:List Value).length:=sz103
   have q1:Below wr.heap.size wr (wr.alloc (.cells #[.int .i64 x,.bool dirty,.int .i64 lba,.int .u32 ep,.int .u32 sl,.int .u64 ver,.int .u64 ta,.int .u64 tb] 103)):=(Below.refl _ _).alloc (Nat.le_refl _) _
   have hC1:=hCr.below_ q1
   have hg1:=hgr.below_ q1
   have st1:=hst.trans (Ste.of_below (T:=rtC) q1 hst.fresh)
   obtain⟨W1,hW1⟩:∃W1,W1=wr.alloc (.cells #[.int .i64 x,.bool dirty,.int .i64 lba,.int .u32 ep,.int .u32 sl,.int .u64 ver,.int .u64 ta,.int .u64 tb] 103):=⟨_,rfl⟩
   rw[<-hW1]at hC1 hg1 st1
   have hto:=atouch_ok ρr ag (S i).T i (S i).age W1 st1.fresh hC1.age (by have:=hTT i;omega) (by omega)
   have hCr':=hCr
   obtain⟨vn,vw,hb,_⟩:=hCr'
   have c4:=hb.cell_ 4 rfl
   have lc:=hb.lt
   have HW1:=Lib.hid hW1
   have HR:=Lib.hid (And.intro hst1 (And.intro hC1 (And.intro st1 (And.intro hg1 (And.intro hrg hx)))))
   clear hstep hTT hlf hS hst1 hC1 st1 hg1 hCr hst hgr hrg hl hW1 q1 hb hn16 hln' hx
   by_cases hk:x=0
   ·have t0:(x == 0)=true:=by simpa using hk
    have t1:(x !=0)=false:=by simpa using hk
    have HK:=Lib.hid hk
    clear hk hto
    go_wp2_with (with_reducible refine wpList_load_mid rfl 103 _ rfl g (i*8) rfl _ _ hgl Tryz.underlying103 rfl sz8 ?_)
    rw[<-HW1.out]
    go_roundw
    case rel=>
     obtain⟨hst1,hC1,st1,hg1,hrg,hx⟩:=HR.out
     have hk0:=HK.out
     rw[if_neg (by omega)]at hst1
     exact⟨i+1,ρr,by go_num,by omega,by rw[hst1];exact hC1,st1,hg1,hrg⟩
    case measure=>simp[intOf];omega
   ·have t0:(x == 0)=false:=by simpa using hk
    have t1:(x !=0)=true:=by simpa using hk
    have HK:=Lib.hid hk
    clear hk
    go_wp2_with (with_reducible refine wpList_load_mid rfl 103 _ rfl g (i*8) rfl _ _ hgl Tryz.underlying103 rfl sz8 ?_)
    rw[<-HW1.out]
    refine hto.mono ?_
    rintro e w2 ⟨rfl,ρ2',hA2,s2⟩
    clear hto
    have HA:=Lib.hid (And.intro hA2 s2)
    clear hA2 s2
    go_wp2_with fail
    go_roundw
    case rel=>
     obtain⟨hst1,hC1,st1,hg1,hrg,hx⟩:=HR.out
     obtain⟨hA2,s2⟩:=HA.out
     have hk0:=HK.out
     rw[if_pos (by omega)]at hst1
     exact⟨i+1,ρ2',by go_num,by omega,by rw[hst1];exact hC1.put_age hA2 s2,st1.trans (s2.mono (fun r e=>by rw[e];unfold rtC;decide)),hg1.ste s2 (by rw[hrg];decide),(s2.old _ hg1.lt).trans hrg⟩
    case measure=>simp[intOf];omega
  ·obtain rfl:n=i:=by omega
   have hd:decide ((n:Int)<(n:Int))=false:=by simp
   have hSn:S n=cstart W2 ls:=by rw[hS,<-HLN.out];rfl
   have hfi:=finish_ok HO HS HT ρr a cc m ag (S n) (k+100) 16 wr hst.fresh hCr (by rw[hSn];exact HN.out.2.2.1) (by omega)
   have hRR:R=cfinish (S n):=by rw[HR.out,hSn];rfl
   rw[<-hRR]at hfi
   have HX:=Lib.hid (st6.trans hst)
   clear hstep hTT hlf hS hSn hRR hCr hst hgr hrg
   go_wp2_with fail
   refine hfi.mono ?_
   rintro e w7 ⟨rfl,ρ7,ag7,hC7,s7⟩
   clear hfi
   obtain⟨R1,RC⟩:=R
   have HY:=Lib.hid (And.intro hC7 s7)
   simp only at hC7
   clear hC7 s7
   simp only
   by_cases he:R1=0
   ·subst he
    go_wp2_with fail
    go_ret2
    obtain⟨hC7,s7⟩:=HY.out
    exact .inl ⟨rfl,cc,m,rfl,ρ7,ag7,hC7,HX.out.trans s7⟩
   ·have t1:(R1 !=0)=true:=by simpa using he
    have HE:=Lib.hid he
    clear he
    go_wp2_with fail
    go_ret2
    obtain⟨hC7,s7⟩:=HY.out
    exact .inr ⟨HE.out,rfl,ρ7,hC7.wld,HX.out.trans s7⟩
end Go.Proofs.YtggmdjdflaglpaaGreat
