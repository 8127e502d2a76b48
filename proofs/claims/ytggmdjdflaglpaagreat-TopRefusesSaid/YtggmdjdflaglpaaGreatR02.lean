/- Bytes behind slices: what a call is told of them, and what it hands back. Power and the counter by contract. -/
import Derived.Test.YtggmdjdflaglpaaGreatR01
import Derived.Laws.BytesArg
import Derived.Laws.CopyOwn
import Derived.WalkArith
import Derived.Lib.SliceRun
import Derived.Laws.IdiomStrings
import Derived.Deep.AppendLies
import Derived.Deep.MidRow
namespace Go.Proofs.YtggmdjdflaglpaaGreat
open Go.RowKit
set_option linter.unusedVariables false
abbrev By:=List UInt8
def bvals (l:By):List Value:=l.map (fun u=>Value.int .u8 (u.toNat:Int))
theorem bvals_len (l:By):(bvals l).length=l.length:=by simp[bvals]
theorem bvals_at (l:By) (j:Nat):(bvals l)[j]? =(l[j]?).map (fun u=>Value.int .u8 (u.toNat:Int)):=by simp[bvals]
theorem bvals_app (a b:By):bvals (a++b)=bvals a++bvals b:=by simp[bvals]
theorem add_plain (b off j:Nat):(Addr.add ⟨b,off,none⟩ j)=⟨b,off+j,none⟩:=by unfold Addr.add;split<;>simp_all
def HasP (p:Nat->Prop) (w:World) (v:Value) (l:By):Prop:=
 (v=.slice none 0 0/\l=[])\/
 ∃b o cap,v=.slice (some ⟨b,o,none⟩) l.length cap/\p b/\b<w.heap.size/\l.length<=cap/\cap<=maxLen/\∀(j:Nat) (u:UInt8),l[j]? =some u->w.cell? ⟨b,o+j,none⟩=some (.int .u8 (u.toNat:Int))
abbrev Has:=HasP (fun _=>True)
section
variable {p q:Nat->Prop}{w w':World}{v:Value}{l:By}
theorem HasP.weak (h:HasP p w v l) (hpq:∀b,p b->q b):HasP q w v l:=by
 rcases h with h|⟨b,o,cap,h1,h2,h3⟩
 ·exact .inl h
 ·exact .inr ⟨b,o,cap,h1,hpq b h2,h3⟩
theorem HasP.any (h:HasP p w v l):Has w v l:=h.weak (fun _ _=>trivial)
theorem HasP.keep (h:HasP p w v l) (hs:w.heap.size<=w'.heap.size) (hk:∀b,b<w.heap.size->p b->w'.heap[b]? =w.heap[b]?):HasP p w' v l:=by
 rcases h with h|⟨b,o,cap,h1,h2,h3,h4,h5,h6⟩
 ·exact .inl h
 ·refine .inr ⟨b,o,cap,h1,h2,Nat.lt_of_lt_of_le h3 hs,h4,h5,fun j u hj=>?_⟩
  rw[<-h6 j u hj]
  simp only[World.cell?,hk b h3 h2]
theorem HasP.below_ (h:HasP p w v l) (hb:Below w.heap.size w w'):HasP p w' v l:=h.keep hb.size (fun b hb' _=>hb.block b hb')
theorem HasP.drew (h:HasP p w v l):HasP p w.drew v l:=h
theorem HasP.drewN (h:HasP p w v l) (n:Nat):HasP p (w.drewN n) v l:=h
theorem HasP.alloc (h:HasP p w v l) (o:Obj):HasP p (w.alloc o) v l:=h.below_ ((Below.refl _ w).alloc (Nat.le_refl _) o)
theorem HasP.len (h:HasP p w v l):l.length<=maxLen:=by
 rcases h with⟨_,rfl⟩|⟨b,o,cap,h1,h2,h3,h4,h5,h6⟩
 ·simp
 ·omega
theorem HasP.slice (h:HasP p w v l):∃A cap,v=.slice A l.length cap:=by
 rcases h with⟨rfl,rfl⟩|⟨b,o,cap,h1,_⟩
 ·exact⟨_,_,rfl⟩
 ·exact⟨_,_,h1⟩
theorem HasP.spot (h:HasP p w v l) (hl:l≠[]):∃b o cap,v=.slice (some ⟨b,o,none⟩) l.length cap/\p b/\b<w.heap.size/\l.length<=cap/\cap<=maxLen/\∀(j:Nat) (u:UInt8),l[j]? =some u->w.cell? ⟨b,o+j,none⟩=some (.int .u8 (u.toNat:Int)):=by
 rcases h with⟨_,h⟩|h
 ·exact absurd h hl
 ·exact h
theorem HasP.of_row {B n:Nat}{xs:List Value}(h:w.ownsRow B 5 1 v n xs) (hn:n=l.length) (hx:xs=bvals l):HasP (B<=·) w v l:=by
 subst hn hx
 rcases h.2 with⟨rfl,hz⟩|⟨r,c,cur,rfl,a2,a3,a4,a5,a6,a7⟩
 ·exact .inl ⟨rfl,List.eq_nil_of_length_eq_zero hz⟩
 ·refine .inr ⟨r,0,c,rfl,a2,(Array.getElem?_eq_some_iff.1 a3).1,a4,a5,fun j u hj=>?_⟩
  rw[cell_of_row w r (0+j) cur 5 (0,0) a3,Nat.zero_add]
  have hjl:j<l.length:=(List.getElem?_eq_some_iff.1 hj).1
  have e:(cur.toList.take (l.length*1))[j]? =some (.int .u8 (u.toNat:Int)):=by rw[a7,bvals_at,hj];rfl
  rw[List.getElem?_take,if_pos (by omega)]at e
  simpa using e
theorem HasP.made (w:World) (l:By) (hl:l.length<=maxLen):HasP (w.heap.size<=·) (w.alloc (.cells (bvals l).toArray 5)) (.slice (some ⟨w.heap.size,0,none⟩) l.length l.length) l:=by
 refine .inr ⟨_,0,_,rfl,Nat.le_refl _,by simp,Nat.le_refl _,hl,fun j u hj=>?_⟩
 rw[World.cell?_alloc_new,Nat.zero_add,List.getElem?_toArray,bvals_at,hj]
 rfl
theorem HasP.of_blk {g:Nat}(h:Blk w g 5 (bvals l).toArray) (hl:l.length<=maxLen) (hp:p g):HasP p w (.slice (some ⟨g,0,none⟩) l.length l.length) l:=by
 refine .inr ⟨g,0,_,rfl,hp,h.lt,Nat.le_refl _,hl,fun j u hj=>?_⟩
 rw[h.cell,Nat.zero_add,List.getElem?_toArray,bvals_at,hj]
 rfl
end
abbrev OwnB (B:Nat) (w:World) (v:Value) (l:By):Prop:=w.ownsRow B 5 1 v l.length (bvals l)
section
variable {B:Nat}{w w':World}{v:Value}{l:By}
theorem OwnB.has (h:OwnB B w v l):HasP (B<=·) w v l:=HasP.of_row h rfl rfl
theorem OwnB.of {n:Nat}{xs:List Value}(h:w.ownsRow B 5 1 v n xs) (hn:n=l.length) (hx:xs=bvals l):OwnB B w v l:=by subst hn hx;exact h
theorem OwnB.keep (h:OwnB B w v l) (hk:∀b,b<w.heap.size->v.ownBlock=some b->w'.heap[b]? =w.heap[b]?):OwnB B w' v l:=by
 obtain⟨h1,h2⟩:=h
 refine⟨h1,?_⟩
 rcases h2 with h2|⟨r,c,cur,rfl,a2,a3,a4⟩
 ·exact .inl h2
 ·exact .inr ⟨r,c,cur,rfl,a2,(hk r (Array.getElem?_eq_some_iff.1 a3).1 rfl).trans a3,a4⟩
theorem OwnB.below_ (h:OwnB B w v l) (hb:Below w.heap.size w w'):OwnB B w' v l:=h.keep (fun b h1 _=>hb.block b h1)
theorem OwnB.drew (h:OwnB B w v l):OwnB B w.drew v l:=h
theorem OwnB.alloc (h:OwnB B w v l) (o:Obj):OwnB B (w.alloc o) v l:=h.below_ ((Below.refl _ w).alloc (Nat.le_refl _) o)
theorem OwnB.weak {B':Nat}(h:OwnB B w v l) (hB:B'<=B):OwnB B' w v l:=by
 obtain⟨h1,h2⟩:=h
 refine⟨h1,?_⟩
 rcases h2 with h2|⟨r,c,cur,rfl,a2,a3⟩
 ·exact .inl h2
 ·exact .inr ⟨r,c,cur,rfl,Nat.le_trans hB a2,a3⟩
theorem OwnB.ge (h:OwnB B w v l) {j:Nat}(hj:v.ownBlock=some j):B<=j/\j<w.heap.size:=by
 rcases h.2 with⟨rfl,_⟩|⟨r,c,cur,rfl,a2,a3,_⟩
 ·simp[Value.ownBlock]at hj
 ·simp[Value.ownBlock]at hj
  subst hj
  exact⟨a2,(Array.getElem?_eq_some_iff.1 a3).1⟩
theorem OwnB.of_blk {g:Nat}(h:Blk w g 5 (bvals l).toArray) (hl:l.length<=maxLen) (hg:B<=g):OwnB B w (.slice (some ⟨g,0,none⟩) l.length l.length) l:=by
 refine⟨by rw[bvals_len];simp,.inr ⟨g,l.length,_,rfl,hg,h,Nat.le_refl _,hl,by simp[bvals],?_⟩⟩
 rw[Nat.mul_one,<-bvals_len l,List.take_length]
theorem OwnB.nil (B:Nat) (w:World):OwnB B w (.slice none 0 0) []:=⟨rfl,.inl ⟨rfl,rfl⟩⟩
theorem OwnB.len (h:OwnB B w v l):l.length<=maxLen:=h.has.len
end
theorem info5:(Tryz.prog.info? 5).map (fun i=>(i.zero,i.size,i.bytes))=some (some (.int .u8 0),1,1):=by kernel_rfl
theorem ex_slice (p:Nat->Prop) (w:World) (b o cap:Nat) (l:By) (h:∀(j:Nat) (u:UInt8),l[j]? =some u->w.cell? ⟨b,o+j,none⟩=some (.int .u8 (u.toNat:Int))):
 ∀(j:Nat) (v:Value),(bvals l)[j]? =some v->w.cell? ((⟨b,o,none⟩:Addr).add j)=some v:=fun j v hj=>by
 rw[add_plain]
 rw[bvals_at]at hj
 obtain⟨u,hu,rfl⟩:=Option.map_eq_some_iff.1 hj
 exact h j u hu
theorem bvals_one (l:By):∀v∈bvals l,v.oneCell'=true:=fun v hv=>by
 obtain⟨u,_,rfl⟩:=List.mem_map.1 hv
 rfl
theorem clone_ok (p:Nat->Prop) (v:Value) (l:By) (w:World) (h:HasP p w v l) (hl:l.length<=140737488355328):
 Calls Tryz.prog 49 #[v] w fun e w'=>∃v',e=.returned v'/\OwnB w.heap.size w' v' l/\Below w.heap.size w w':=by
 rcases h with⟨rfl,rfl⟩|⟨b,o,cap,rfl,_,hlt,hlc,hcm,hc⟩
 ·have hn:=fun W=>Lib.run_eql_slice_nil (P:=Tryz.prog) W 32 5 none 0 0 0 0 Tryz.underlying32
  go_enter Tryz.func49,Tryz.ntmps49
  go_wp2
  go_ret
  exact⟨_,rfl,OwnB.nil _ _,Below.refl _ _⟩
 ·obtain⟨i0,hi,hz0,hz1,hz2⟩:=info_parts info5
  obtain⟨n,hnl⟩:∃n,n=l.length:=⟨_,rfl⟩
  rw[<-hnl]at hlc hl ⊢
  have HL:=Lib.hid hnl
  clear hnl
  have hn:=fun W=>Lib.run_eql_slice_nil (P:=Tryz.prog) W 32 5 (some ⟨b,o,none⟩) n cap 0 0 Tryz.underlying32
  have hown:(w.alloc (.cells #[] 5)).ownsRow w.heap.size 5 1 (.slice (some ⟨w.heap.size,0,none⟩) 0 0) 0 []:=World.ownsRow_lit w #[] 0 (Nat.le_refl _) (by unfold maxLen;omega) rfl
  go_enter Tryz.func49,Tryz.ntmps49
  go_wp2_with (at_builtin;refine wpList_append_own _ rfl _ _ 32 rfl w.heap.size 5 i0 (.int .u8 0) 1 1 Tryz.underlying32 hi hz0 hz1 hz2 rfl (by decide) _ _ _ rfl hown ⟨b,o,none⟩ n cap (bvals l) rfl (by rw[bvals_len,HL.out];simp) (ex_slice (fun _=>True) _ b o cap l (fun j u hj=>(World.cell?_alloc_lt _ _ _ (by simpa using hlt)).trans (hc j u hj))) (bvals_one l) (by omega) (by omega) (by simp) ?_)
  intro v' w1 hown1 hgrow _
  have hh:OwnB w.heap.size w1 v' l:=OwnB.of hown1 (by have:=HL.out;omega) (by simp)
  have hb:=((Below.refl _ w).alloc (Nat.le_refl _) (.cells #[] 5)).grown hgrow (by simp) (fun k hk=>by simp[Value.ownBlock]at hk;omega)
  clear hown1 hgrow
  go_wp2_with fail
  go_ret
  exact⟨_,rfl,hh,hb⟩
end Go.Proofs.YtggmdjdflaglpaaGreat
namespace Go.Proofs.YtggmdjdflaglpaaGreat
open Go.RowKit
set_option linter.unusedVariables false
structure Ch (S:Nat->Prop) (w w':World):Prop where
 os:w'.os=w.os
 tape:w'.tape=w.tape
 output:w'.output=w.output
 size:w.heap.size<=w'.heap.size
 keep:∀i,i<w.heap.size->¬S i->w'.heap[i]? =w.heap[i]?
section
variable {S S':Nat->Prop}{w w' w'':World}
theorem Ch.refl (S:Nat->Prop) (w:World):Ch S w w:=⟨rfl,rfl,rfl,Nat.le_refl _,fun _ _ _=>rfl⟩
theorem Ch.trans (h:Ch S w w') (k:Ch S w' w''):Ch S w w'':=
 ⟨k.os.trans h.os,k.tape.trans h.tape,k.output.trans h.output,Nat.le_trans h.size k.size,fun i hi hs=>(k.keep i (Nat.lt_of_lt_of_le hi h.size) hs).trans (h.keep i hi hs)⟩
theorem Ch.mono (h:Ch S w w') (hs:∀i,S i->S' i):Ch S' w w':=⟨h.os,h.tape,h.output,h.size,fun i hi hn=>h.keep i hi (fun c=>hn (hs i c))⟩
theorem Ch.of_below (h:Below w.heap.size w w'):Ch S w w':=⟨h.os,h.tape,h.output,h.size,fun i hi _=>h.block i hi⟩
theorem Ch.of_grown {g:Nat}(h:w.grownBy w' (some g)) (hg:S g):Ch S w w':=⟨h.os,h.tape,h.output,h.size,fun i hi hn=>h.block i hi (fun e=>by injection e with e;subst e;exact hn hg)⟩
theorem Ch.set_ {p:Addr}(hp:S p.block) (w:World) (u:Value):Ch S w (w.setCell p u):=⟨rfl,rfl,rfl,by simp[World.setCell],fun i hi hn=>Below.heap_setCell w p u i (fun e=>hn (e▸hp))⟩
theorem Ch.alloc_ (w:World) (o:Obj):Ch S w (w.alloc o):=Ch.of_below ((Below.refl _ w).alloc (Nat.le_refl _) o)
theorem Ch.drew_ (w:World):Ch S w w.drew:=⟨rfl,rfl,rfl,Nat.le_refl _,fun _ _ _=>rfl⟩
theorem Ch.cell {i j:Nat}(h:Ch S w w') (hi:i<w.heap.size) (hn:¬S i):w'.cell? ⟨i,j,none⟩=w.cell? ⟨i,j,none⟩:=by
 simp only[World.cell?,h.keep i hi hn]
theorem Blk.ch {g:Nat}{t:TypeId}{cs:Array Value}(h:Blk w g t cs) (hc:Ch S w w') (hn:¬S g):Blk w' g t cs:=(hc.keep g h.lt hn).trans h
theorem Ch.below {B:Nat}(h:Ch S w w') (hB:B<=w.heap.size) (hS:∀i,S i->B<=i):Below B w w':=⟨h.os,h.tape,h.output,h.size,fun i hi=>h.keep i (by omega) (fun c=>by have:=hS i c;omega)⟩
end
structure Pow where
 gone:Bool
 fuse:Bool
 left:Int
def PowR (w:World) (p:Nat) (P:Pow):Prop:=
 ∃st:Int,Blk w p 110 #[.bool P.gone,.bool P.fuse,.int .i64 P.left,.int .i64 st]/\(P.fuse=true->0<=P.left/\P.left<=9223372036854775807)
def spend (P:Pow):Pow×Bool:=
 if P.gone then(P,false)else if P.fuse&&P.left == 0 then({P with gone:=true},false)else({P with left:=if P.fuse then P.left-1 else P.left},true)
section
variable {w w':World}{p:Nat}{P:Pow}
theorem PowR.lt (h:PowR w p P):p<w.heap.size:=by obtain⟨_,h,_⟩:=h;exact h.lt
theorem PowR.keep (h:PowR w p P) (hk:w'.heap[p]? =w.heap[p]?):PowR w' p P:=by
 obtain⟨st,hb,hf⟩:=h
 exact⟨st,hk.trans hb,hf⟩
end
theorem pnew_ok (w:World):Calls Tryz.prog 27 #[] w fun e w'=>e=.returned (.pointer (some ⟨w.heap.size,0,none⟩))/\PowR w' w.heap.size ⟨false,false,0⟩/\Below w.heap.size w w':=by
 go_enter Tryz.func27,Tryz.ntmps27
 go_wp2_with fail
 go_ret
 exact⟨rfl,⟨0,Blk.new w 110 _,fun h=>by cases h⟩,(Below.refl _ _).alloc (Nat.le_refl _) _⟩
theorem on_ok (p:Nat) (P:Pow) (w:World) (h:PowR w p P):Calls Tryz.prog 35 #[.pointer (some ⟨p,0,none⟩)] w fun e w'=>e=.returned (.bool (!P.gone))/\w=w':=by
 obtain⟨st,hb,_⟩:=h
 have c0:=hb.cell_ 0 rfl
 have hl:=hb.lt
 clear hb
 go_enter Tryz.func35,Tryz.ntmps35
 go_wp2_with fail
 go_ret
 exact⟨rfl,rfl⟩
theorem spend_ok (p:Nat) (P:Pow) (w:World) (h:PowR w p P):
 Calls Tryz.prog 61 #[.pointer (some ⟨p,0,none⟩)] w fun e w'=>e=.returned (.bool (spend P).2)/\PowR w' p (spend P).1/\w.grownBy w' (some p):=by
 have hon:=on_ok p P w h
 have h':=h
 obtain⟨st,hb,hf⟩:=h
 obtain⟨gone,fuse,left⟩:=P
 simp only at hf hb hon
 have c0:=hb.cell_ 0 rfl
 have c1:=hb.cell_ 1 rfl
 have c2:=hb.cell_ 2 rfl
 have c3:=hb.cell_ 3 rfl
 have f0:=hb.frozen 0
 have f2:=hb.frozen 2
 have f3:=hb.frozen 3
 have hl:=hb.lt
 have HB:=Lib.hid hb
 clear hb
 cases gone with
 |true=>
  go_enter Tryz.func61,Tryz.ntmps61
  go_wp2_with fail
  refine hon.mono ?_
  rintro e w1 ⟨rfl,rfl⟩
  go_wp2_with fail
  go_ret
  exact⟨rfl,h',only_refl _ _⟩
 |false=>
  cases fuse with
  |false=>
   clear hf
   go_enter Tryz.func61,Tryz.ntmps61
   go_wp2_with fail
   refine hon.mono ?_
   rintro e w1 ⟨rfl,rfl⟩
   clear hon
   go_wp2_with fail
   go_ret
   exact⟨by simp[spend],⟨_,HB.out.set_ 3 _,fun h=>by simp[spend]at h⟩,only_setCell (only_refl _ _) (.inl rfl) _⟩
  |true=>
   obtain⟨l0,l1⟩:=hf rfl
   clear hf
   by_cases hz:left=0
   ·subst hz
    go_enter Tryz.func61,Tryz.ntmps61
    go_wp2_with fail
    refine hon.mono ?_
    rintro e w1 ⟨rfl,rfl⟩
    clear hon
    go_wp2_with fail
    go_ret
    exact⟨by simp[spend],⟨st,HB.out.set_ 0 _,fun _=>by simp[spend]⟩,only_setCell (only_refl _ _) (.inl rfl) _⟩
   ·have hz1:(left == 0)=false:=by simpa using hz
    go_enter Tryz.func61,Tryz.ntmps61
    go_wp2_with fail
    refine hon.mono ?_
    rintro e w1 ⟨rfl,rfl⟩
    clear hon
    have hb1:=(HB.out.set_ 2 (.int .i64 (left-1)))
    have d3:(w.setCell ⟨p,2,none⟩ (.int .i64 (left-1))).cell? ⟨p,3,none⟩=some (.int .i64 st):=hb1.cell_ 3 rfl
    go_wp2_with fail
    go_ret
    have hsp:spend ⟨false,true,left⟩=(⟨false,true,left-1⟩,true):=by simp[spend,hz]
    rw[hsp]
    have g1:w.grownBy (w.setCell ⟨p,2,none⟩ (.int .i64 (left-1))) (some p):=only_setCell (only_refl _ _) (.inl rfl) _
    refine⟨rfl,?_,only_setCell g1 (.inl rfl) _⟩
    show PowR _ p ⟨false,true,left-1⟩
    refine⟨wrap64 (st+1),(HB.out.set_to 2 _ (cs':=#[.bool false,.bool true,.int .i64 (left-1),.int .i64 st]) rfl).set_to 3 _ rfl,fun _=>⟨?_,?_⟩⟩
    ·show 0<=left-1
     omega
    ·show left-1<=9223372036854775807
     omega
structure Cnt where
 value:Nat
 boots:Nat
 at_:Nat
def CntR (w:World) (p c:Nat) (C:Cnt):Prop:=
 Blk w c 134 #[.pointer (some ⟨p,0,none⟩),.int .u64 C.value,.int .u64 C.boots,.int .u64 C.at_]
theorem cnew_ok (p:Nat) (w:World):Calls Tryz.prog 33 #[.pointer (some ⟨p,0,none⟩)] w fun e w'=>e=.returned (.pointer (some ⟨w.heap.size,0,none⟩))/\CntR w' p w.heap.size ⟨0,0,0⟩/\Below w.heap.size w w':=by
 go_enter Tryz.func33,Tryz.ntmps33
 go_wp2_with fail
 go_ret
 exact⟨rfl,Blk.new w 134 _,(Below.refl _ _).alloc (Nat.le_refl _) _⟩
theorem value_ok (p c:Nat) (C:Cnt) (w:World) (h:CntR w p c C):Calls Tryz.prog 62 #[.pointer (some ⟨c,0,none⟩)] w fun e w'=>e=.returned (.int .u64 C.value)/\w=w':=by
 have c0:=Blk.cell_ h 1 rfl
 have hl:=Blk.lt h
 clear h
 go_enter Tryz.func62,Tryz.ntmps62
 go_wp2_with fail
 go_ret
 exact⟨rfl,rfl⟩
theorem boots_ok (p c:Nat) (C:Cnt) (w:World) (h:CntR w p c C):Calls Tryz.prog 39 #[.pointer (some ⟨c,0,none⟩)] w fun e w'=>e=.returned (.int .u64 C.boots)/\w=w':=by
 have c0:=Blk.cell_ h 2 rfl
 have hl:=Blk.lt h
 clear h
 go_enter Tryz.func39,Tryz.ntmps39
 go_wp2_with fail
 go_ret
 exact⟨rfl,rfl⟩
theorem at_ok (p c:Nat) (C:Cnt) (w:World) (h:CntR w p c C):Calls Tryz.prog 136 #[.pointer (some ⟨c,0,none⟩)] w fun e w'=>e=.returned (.int .u64 C.at_)/\w=w':=by
 have c0:=Blk.cell_ h 3 rfl
 have hl:=Blk.lt h
 clear h
 go_enter Tryz.func136,Tryz.ntmps136
 go_wp2_with fail
 go_ret
 exact⟨rfl,rfl⟩
def bump (C:Cnt):Cnt:=⟨C.value+1,C.boots,C.boots⟩
def boot (C:Cnt):Cnt:=⟨C.value,C.boots+1,C.at_⟩
theorem bump_ok (p c:Nat) (P:Pow) (C:Cnt) (w:World) (hp:PowR w p P) (h:CntR w p c C) (hne:p≠c) (hv:C.value<4294967296):
 Calls Tryz.prog 173 #[.pointer (some ⟨c,0,none⟩)] w fun e w'=>e=.returned (.bool (spend P).2)/\PowR w' p (spend P).1/\CntR w' p c (if(spend P).2 then bump C else C)/\Ch (fun i=>i=p\/i=c) w w':=by
 have hs:=spend_ok p P w hp
 have c0:=Blk.cell_ h 0 rfl
 have hl:=Blk.lt h
 have H:=Lib.hid h
 clear h hp
 cases hsp:(spend P).2 with
 |false=>
  rw[hsp]at hs
  clear hsp
  go_enter Tryz.func173,Tryz.ntmps173
  go_wp2_with fail
  refine hs.mono ?_
  rintro e w1 ⟨rfl,hp1,hg⟩
  clear hs
  go_wp2_with fail
  go_ret
  exact⟨rfl,hp1,Blk.grown H.out hg (by simpa using Ne.symm hne),Ch.of_grown hg (.inl rfl)⟩
 |true=>
  rw[hsp]at hs
  clear hsp
  go_enter Tryz.func173,Tryz.ntmps173
  go_wp2_with fail
  refine hs.mono ?_
  rintro e w1 ⟨rfl,hp1,hg⟩
  have hb1:Blk w1 c 134 _:=Blk.grown H.out hg (by simpa using Ne.symm hne)
  clear hs c0
  have d1:=hb1.cell_ 1 rfl
  have hb2:=hb1.set_ 1 (.int .u64 ((C.value:Int)+1))
  have d2:(w1.setCell ⟨c,1,none⟩ (.int .u64 ((C.value:Int)+1))).cell? ⟨c,2,none⟩=some (.int .u64 C.boots):=hb2.cell_ 2 rfl
  have d3:(w1.setCell ⟨c,1,none⟩ (.int .u64 ((C.value:Int)+1))).cell? ⟨c,3,none⟩=some (.int .u64 C.at_):=hb2.cell_ 3 rfl
  have g1:=hb1.frozen 1
  have g3:(w1.setCell ⟨c,1,none⟩ (.int .u64 ((C.value:Int)+1))).frozen? ⟨c,3,none⟩=false:=hb2.frozen 3
  have hl1:=hb1.lt
  have HB:=Lib.hid hb1
  clear hb1 hb2
  go_wp2_with fail
  go_ret
  refine⟨rfl,hp1.keep ?_,?_,((Ch.of_grown hg (.inl rfl)).trans (Ch.set_ (p:=⟨c,1,none⟩) (.inr rfl) _ _)).trans (Ch.set_ (p:=⟨c,3,none⟩) (.inr rfl) _ _)⟩
  ·rw[Below.heap_setCell _ _ _ _ hne,Below.heap_setCell _ _ _ _ hne]
  ·exact(HB.out.set_ 1 _).set_ 3 _
theorem boot_ok (p c:Nat) (P:Pow) (C:Cnt) (w:World) (hp:PowR w p P) (h:CntR w p c C) (hne:p≠c) (hv:C.boots<4294967296):
 Calls Tryz.prog 36 #[.pointer (some ⟨c,0,none⟩)] w fun e w'=>e=.returned (.bool (spend P).2)/\PowR w' p (spend P).1/\CntR w' p c (if(spend P).2 then boot C else C)/\Ch (fun i=>i=p\/i=c) w w':=by
 have hs:=spend_ok p P w hp
 have c0:=Blk.cell_ h 0 rfl
 have hl:=Blk.lt h
 have H:=Lib.hid h
 clear h hp
 cases hsp:(spend P).2 with
 |false=>
  rw[hsp]at hs
  clear hsp
  go_enter Tryz.func36,Tryz.ntmps36
  go_wp2_with fail
  refine hs.mono ?_
  rintro e w1 ⟨rfl,hp1,hg⟩
  clear hs
  go_wp2_with fail
  go_ret
  exact⟨rfl,hp1,Blk.grown H.out hg (by simpa using Ne.symm hne),Ch.of_grown hg (.inl rfl)⟩
 |true=>
  rw[hsp]at hs
  clear hsp
  go_enter Tryz.func36,Tryz.ntmps36
  go_wp2_with fail
  refine hs.mono ?_
  rintro e w1 ⟨rfl,hp1,hg⟩
  have hb1:Blk w1 c 134 _:=Blk.grown H.out hg (by simpa using Ne.symm hne)
  clear hs c0
  have d1:=hb1.cell_ 2 rfl
  have g1:=hb1.frozen 2
  have hl1:=hb1.lt
  have HB:=Lib.hid hb1
  clear hb1
  go_wp2_with fail
  go_ret
  refine⟨rfl,hp1.keep ?_,?_,(Ch.of_grown hg (.inl rfl)).trans (Ch.set_ (p:=⟨c,2,none⟩) (.inr rfl) _ _)⟩
  ·rw[Below.heap_setCell _ _ _ _ hne]
  ·exact HB.out.set_ 2 _
end Go.Proofs.YtggmdjdflaglpaaGreat
