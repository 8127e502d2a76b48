/- The untrusted device: Snap, Read. The untrusted device: Read, settles, Barrier. The untrusted device: Crash. The untrusted device: Write. -/
import Derived.Test.YtggmdjdflaglpaaGreatR04
import Derived.Deep.RegionLaw
import Derived.Laws.CopyRow
import Derived.Laws.Tables
namespace Go.Proofs.YtggmdjdflaglpaaGreat
open Go.RowKit
set_option linter.unusedVariables false
def over (l:By) (o:Opn):By:=l.take o.off.toNat++o.bytes++l.drop (o.off.toNat+o.bytes.length)
def snapTo (S:Ssd) (i:Nat):By:=(S.waits.take i).foldl over S.lasts
def snap (S:Ssd):By:=S.waits.foldl over S.lasts
theorem over_len (l:By) (o:Opn) (h:o.in_ l.length):(over l o).length=l.length:=by
 obtain⟨h0,h1,_⟩:=h
 unfold over
 simp only[List.length_append,List.length_take,List.length_drop]
 omega
theorem snapTo_succ (S:Ssd) (i:Nat) (o:Opn) (h:S.waits[i]? =some o):snapTo S (i+1)=over (snapTo S i) o:=by
 unfold snapTo
 rw[List.take_add_one,h]
 simp
theorem snapTo_len (S:Ssd) (h:∀o∈S.waits,o.in_ S.lasts.length):∀i,(snapTo S i).length=S.lasts.length
 |0=>rfl
 |i+1=>by
  rcases hi:S.waits[i]? with _|o
  ·have:snapTo S (i+1)=snapTo S i:=by
    unfold snapTo
    rw[List.take_add_one,hi]
    simp
   rw[this];exact snapTo_len S h i
  ·rw[snapTo_succ S i o hi,over_len]
   ·exact snapTo_len S h i
   ·rw[snapTo_len S h i];exact h o (List.mem_of_getElem? hi)
theorem snapTo_all (S:Ssd):snapTo S S.waits.length=snap S:=by unfold snapTo snap;rw[List.take_length]
theorem list_over {α:Type}(cur l X:List α) (off m:Nat) (hX:X.length=m) (hm:off+m<=l.length) (ht:cur.take l.length=l) (hd:l.length=l.length):
 (cur.take off++X++cur.drop (off+m)).take l.length=l.take off++X++l.drop (off+m):=by
 obtain⟨r,hr⟩:∃r,cur=l++r:=⟨cur.drop l.length,by conv=>lhs;rw[<-List.take_append_drop l.length cur,ht]⟩
 subst hr
 have e1:(l++r).take off=l.take off:=List.take_append_of_le_length (by omega)
 have e2:(l++r).drop (off+m)=l.drop (off+m)++r:=List.drop_append_of_le_length hm
 rw[e1,e2,<-List.append_assoc]
 have hl:(l.take off++X++l.drop (off+m)).length=l.length:=by
  simp only[List.length_append,List.length_take,List.length_drop]
  omega
 conv=>lhs;rw[<-hl]
 rw[List.take_left]
def BufR (w:World) (g cap:Nat) (l:By):Prop:=∃cur:Array Value,w.heap[g]? =some (.cells cur 5 (0,0))/\cur.size=cap/\l.length<=cap/\cur.toList.take l.length=bvals l
theorem info5s:(Tryz.prog.info? 5).map (·.size)=some 1:=by kernel_rfl
section
variable {w w':World}{g cap:Nat}{l:By}
theorem BufR.lt (h:BufR w g cap l):g<w.heap.size:=by obtain⟨cur,h,_⟩:=h;exact(Array.getElem?_eq_some_iff.1 h).1
theorem BufR.keep (h:BufR w g cap l) (hk:w'.heap[g]? =w.heap[g]?):BufR w' g cap l:=by obtain⟨cur,h1,h2⟩:=h;exact⟨cur,hk.trans h1,h2⟩
theorem BufR.drew (h:BufR w g cap l):BufR w.drew g cap l:=h
theorem BufR.alloc (h:BufR w g cap l) (o:Obj):BufR (w.alloc o) g cap l:=h.keep (Below.heap_alloc w o g h.lt)
theorem BufR.own (h:BufR w g cap l) (hc:cap<=maxLen) {B:Nat}(hB:B<=g):OwnB B w (.slice (some ⟨g,0,none⟩) l.length cap) l:=by
 obtain⟨cur,h1,h2,h3,h4⟩:=h
 exact⟨by rw[bvals_len];simp,.inr ⟨g,cap,cur,rfl,hB,h1,h3,hc,by omega,by rw[Nat.mul_one];exact h4⟩⟩
theorem OwnB.buf {B:Nat}{v:Value}(h:OwnB B w v l) (hl:l≠[]):∃g cap,v=.slice (some ⟨g,0,none⟩) l.length cap/\B<=g/\cap<=maxLen/\BufR w g cap l:=by
 rcases h.2 with⟨_,h0⟩|⟨g,c,cur,hv,a2,a3,a4,a5,a6,a7⟩
 ·exact absurd (List.eq_nil_of_length_eq_zero h0) hl
 ·exact⟨g,c,hv,a2,a5,cur,a3,by omega,a4,by rw[Nat.mul_one]at a7;exact a7⟩
theorem BufR.copy (h:BufR w g cap l) (o:Opn) (ho:o.in_ l.length) {p:Nat->Prop}{b q c:Nat}(hc:∀(j:Nat) (u:UInt8),o.bytes[j]? =some u->w.cell? ⟨b,q+j,none⟩=some (.int .u8 (u.toNat:Int))):
 ∃w',(Builtin.copy_ #[32,32] 3 #[.slice (some ⟨g,o.off.toNat,none⟩) (l.length-o.off.toNat) (cap-o.off.toNat),.slice (some ⟨b,q,none⟩) o.bytes.length c]).run Tryz.prog w=.ok (.int .i64 o.bytes.length) w'/\BufR w' g cap (over l o)/\w.grownBy w' (some g):=by
 obtain⟨cur,h1,h2,h3,h4⟩:=h
 obtain⟨o0,o1,o2⟩:=ho
 have hr:=run_copy_row (P:=Tryz.prog) w 32 32 3 5 g o.off.toNat (l.length-o.off.toNat) (cap-o.off.toNat) ⟨b,q,none⟩ o.bytes.length c cur 5 (bvals o.bytes) Tryz.underlying32 info5s h1
  (by rw[bvals_len];show _=min _ _;rw[Nat.min_eq_left (by omega)]) (ex_slice (fun _=>True) w b q c o.bytes hc) (by rw[bvals_len];omega) (bvals_one _)
 refine⟨w.setRow g (cur.toList.take o.off.toNat++bvals o.bytes++cur.toList.drop (o.off.toNat+(bvals o.bytes).length)).toArray,by rw[hr,bvals_len];rfl,?_,?_⟩
 ·refine⟨(cur.toList.take o.off.toNat++bvals o.bytes++cur.toList.drop (o.off.toNat+(bvals o.bytes).length)).toArray,?_,?_,?_,?_⟩
  ·simp[World.setRow,Array.getElem?_modify,h1]
  ·rw[bvals_len]
   simp[List.length_take,List.length_drop,bvals_len]
   omega
  ·rw[over_len l o ⟨o0,o1,o2⟩];exact h3
  ·rw[over_len l o ⟨o0,o1,o2⟩]
   rw[bvals_len,List.toList_toArray,<-bvals_len l,list_over cur.toList (bvals l) (bvals o.bytes) o.off.toNat o.bytes.length (by rw[bvals_len]) (by rw[bvals_len];omega) (by rw[bvals_len];exact h4) (by rw[bvals_len])]
   unfold over
   rw[bvals_app,bvals_app]
   simp[bvals,List.map_take,List.map_drop]
 ·refine⟨rfl,rfl,rfl,by simp[World.setRow],fun i hi hn=>?_⟩
  simp only[World.setRow,Array.getElem?_modify]
  rw[if_neg]
  rintro rfl
  exact hn rfl
end
set_option maxHeartbeats 4000000 in
theorem snap_ok (ρ:Rl) (p s:Nat) (S:Ssd) (w:World) (h:SsdR ρ w p s S) (hne:S.lasts≠[]) (hcnt:S.cnt<=1000000):
 Calls Tryz.prog 21 #[.pointer (some ⟨s,0,none⟩)] w fun e w'=>∃v,e=.returned v/\OwnB w.heap.size w' v (snap S)/\Below w.heap.size w w':=by
 obtain⟨bl,vW,vT,T,h1,h2,h3,h4,h5,h6,h7⟩:=h
 obtain⟨Aw,cw,rfl⟩:=h5.form
 have hL:HasP (fun _=>True) w (.slice (some ⟨bl,0,none⟩) S.lasts.length S.lasts.length) S.lasts:=HasP.of_blk h3 (by unfold maxLen;have:=h7.2.2.1;omega) trivial
 have hcl:=clone_ok _ _ S.lasts w hL (by have:=h7.2.2.1;omega)
 have hnl:0<S.lasts.length:=List.length_pos_iff.2 hne
 have h64:=h7.2.2.1
 have hwl:=h7.2.1
 have hin:=h7.2.2.2
 obtain⟨n,hn⟩:∃n,n=S.lasts.length:=⟨_,rfl⟩
 obtain⟨k,hk⟩:∃k,k=S.waits.length:=⟨_,rfl⟩
 rw[<-hn]at h1 hcl hnl h64
 rw[<-hk]at h1 hwl
 have HN:=Lib.hid hn
 have HK:=Lib.hid hk
 have c1:=h1.cell_ 1 rfl
 have c2:=h1.cell_ 2 rfl
 have hl:=h1.lt
 have H1:=Lib.hid h1
 clear hn hk hL h7 h1 h3 h6
 go_enter Tryz.func21,Tryz.ntmps21
 go_wp2_with fail
 refine hcl.mono ?_
 rintro e w1 ⟨v,rfl,o1,l1⟩
 obtain⟨g,cap,rfl,hg,hcm,hbuf⟩:=o1.buf hne
 rw[<-HN.out]
 have hst:snapTo S 0=S.lasts:=rfl
 rw[<-hst]at hbuf
 have d2:w1.cell? ⟨s,2,none⟩=some (.slice Aw k cw):=(H1.out.below_ l1).cell_ 2 rfl
 have hl1:=Nat.lt_of_lt_of_le hl l1.size
 clear hcl c1 c2 hst o1
 go_wp2_with fail
 go_loopw [5,18] (fun _ t wr=>∃i:Nat,t=.int .i64 i/\i<=k/\BufR wr g cap (snapTo S i)/\Below w.heap.size w wr) (fun _ t _=>k-(intOf t).toNat)
 case atStart=>exact⟨0,rfl,by omega,hbuf,l1⟩
 case round=>
  obtain⟨i,rfl,hik,hB,hb⟩:=hrel
  clear hbuf d2 hl1 l1
  by_cases hlt:i<k
  ·obtain⟨o,ho⟩:∃o,S.waits[i]? =some o:=⟨_,List.getElem?_eq_getElem (by have:=HK.out;omega)⟩
   obtain⟨rb,rc,u,hv,_,hrl,q0,q1,hu⟩:=h5.at_ ho
   obtain⟨rfl,rfl⟩:Aw=some ⟨rb,0,none⟩/\cw=rc:=by simpa using hv
   have hoi:=hin o (List.mem_of_getElem? ho)
   obtain⟨b1,q,c1,rfl,hb1r,hb1,_,_,hbc⟩:=hu.spot hoi.2.2
   have i0:(0:Int)<=(i:Int):=by omega
   have i1:(i:Int)<(k:Int):=by omega
   have j0:=(hb.cell (p:=⟨rb,i*2,none⟩) hrl).trans q0
   have j1:=(hb.cell (p:=⟨rb,i*2+1,none⟩) hrl).trans q1
   have hsl:=snapTo_len S hin i
   have hoi2:o.in_ (snapTo S i).length:=by rw[hsl];exact hoi
   have hsu:=snapTo_succ S i o ho
   have hbc2:∀(j:Nat) (x:UInt8),o.bytes[j]? =some x->wr.cell? ⟨b1,q+j,none⟩=some (.int .u8 (x.toNat:Int)):=fun j x hx=>(hb.cell (p:=⟨b1,q+j,none⟩) hb1).trans (hbc j x hx)
   obtain⟨o0,o1,o2⟩:=hoi
   rw[<-HN.out]at o1
   have o3:0<o.bytes.length:=List.length_pos_iff.2 o2
   obtain⟨W,hW⟩:∃W,W=wr.alloc (.cells #[.int .i64 o.off,.slice (some ⟨b1,q,none⟩) o.bytes.length c1] 119):=⟨_,rfl⟩
   have hX:Blk W wr.heap.size 119 #[.int .i64 o.off,.slice (some ⟨b1,q,none⟩) o.bytes.length c1]:=by rw[hW];exact Blk.new wr 119 _
   have hBW:BufR W.drew g cap (snapTo S i):=by rw[hW];exact(hB.alloc _).drew
   have hbW:Below w.heap.size w W.drew:=by rw[hW];exact(hb.alloc hb.size _).drew
   have hbc3:∀(j:Nat) (x:UInt8),o.bytes[j]? =some x->W.drew.cell? ⟨b1,q+j,none⟩=some (.int .u8 (x.toNat:Int)):=fun j x hx=>(hbW.cell (p:=⟨b1,q+j,none⟩) hb1).trans (hbc j x hx)
   obtain⟨w3,hcopy,hB3,hg3⟩:=BufR.copy (p:=fun _=>True) (c:=c1) hBW o hoi2 hbc3
   rw[hsl,<-HN.out]at hcopy
   rw[<-hsu]at hB3
   have hb3:=below_only hbW hg3 hbW.size hg
   have k0:W.drew.cell? ⟨wr.heap.size,0,none⟩=some (.int .i64 o.off):=hX.drew.cell_ 0 rfl
   have k1:W.drew.cell? ⟨wr.heap.size,1,none⟩=some (.slice (some ⟨b1,q,none⟩) o.bytes.length c1):=hX.drew.cell_ 1 rfl
   have hncap:n<=cap:=by
    obtain⟨_,_,_,h3,_⟩:=hB
    rw[hsl,<-HN.out]at h3
    exact h3
   obtain⟨f,hf⟩:=Int.eq_ofNat_of_zero_le o0
   obtain⟨m,hm⟩:∃m,m=o.bytes.length:=⟨_,rfl⟩
   rw[hf]at hcopy k0 j0 hW o1
   rw[<-hm]at hcopy k1 j1 hW o1 o3
   rw[Int.toNat_natCast]at hcopy
   have m1:f<=n:=by omega
   have m2:cap≠f:=by omega
   have m3:(f:Int)<=(n:Int):=by omega
   have m4:(n:Int)<=(cap:Int):=by omega
   have m5:(0:Int)<=(f:Int):=by omega
   clear hf hm hB hb hBW hbW hbc hbc2 hbc3 hX hsl hoi2 hsu h5 hin hu ho hv q0 q1 o2
   go_wp2_with fail
   rw[<-hW]
   clear hW
   go_region_law (fail)
   all_goals
    go_wp2_with fail
    go_roundw
    case rel=>exact⟨i+1,by go_num,by omega,hB3,hb3⟩
    case measure=>simp[intOf];omega
  ·obtain rfl:i=k:=by omega
   have hd:decide ((i:Int)<(i:Int))=false:=by simp
   have hfin:OwnB w.heap.size wr (.slice (some ⟨g,0,none⟩) n cap) (snap S):=by
    have:=hB.own hcm hg
    rw[snapTo_len S hin i,<-HN.out]at this
    have e:snapTo S i=snap S:=by rw[HK.out];exact snapTo_all S
    rw[e]at this
    exact this
   go_wp2_with fail
   go_ret
   exact⟨_,rfl,hfin,hb⟩
end Go.Proofs.YtggmdjdflaglpaaGreat
namespace Go.Proofs.YtggmdjdflaglpaaGreat
open Go.RowKit
set_option linter.unusedVariables false
theorem HasP.cut {p:Nat->Prop}{w:World}{v:Value}{l:By}(h:HasP p w v l) {off n:Nat}(hn:0<n) (hl:off+n<=l.length):
 ∃b o cap,v=.slice (some ⟨b,o,none⟩) l.length cap/\l.length<=cap/\cap<=maxLen/\HasP p w (.slice (some ⟨b,o+off,none⟩) n (cap-off)) ((l.drop off).take n):=by
 obtain⟨b,o,cap,rfl,h2,h3,h4,h5,h6⟩:=h.spot (by intro e;rw[e]at hl;simp at hl;omega)
 have hlen:((l.drop off).take n).length=n:=by rw[List.length_take,List.length_drop];omega
 refine⟨b,o,cap,rfl,h4,h5,.inr ⟨b,o+off,cap-off,by rw[hlen],h2,h3,by rw[hlen];omega,by omega,fun j u hj=>?_⟩⟩
 have hjn:j<n:=by
  have:=(List.getElem?_eq_some_iff.1 hj).1
  omega
 rw[List.getElem?_take,if_pos hjn,List.getElem?_drop]at hj
 rw[Nat.add_assoc]
 exact h6 (off+j) u hj
theorem read_off (ρ:Rl) (p s:Nat) (P:Pow) (S:Ssd) (off n:Nat) (w:World) (hP:PowR w p P) (h:SsdR ρ w p s S) (hl:off+n<=S.lasts.length) (hg:P.gone=true):
 Calls Tryz.prog 96 #[.pointer (some ⟨s,0,none⟩),.int .i64 off,.int .i64 n] w fun e w'=>e=.returned (.tuple #[.slice none 0 0,.bool false])/\w=w':=by
 have hb64:S.lasts.length<=65536:=by obtain⟨_,_,_,_,_,_,_,_,_,_,_,_,h64,_⟩:=h;exact h64
 have his:=sis_ok ρ p s S off n w h (by omega) (by omega) (by omega) hb64
 have hon:=on_ok p P w hP
 obtain⟨bl,vW,vT,T,h1,h2,_⟩:=h
 have c0:=h1.cell_ 0 rfl
 have hls:=h1.lt
 clear h1
 rw[hg]at hon
 go_enter Tryz.func96,Tryz.ntmps96
 go_wp2_with fail
 refine his.mono ?_
 rintro e w1 ⟨rfl,rfl⟩
 go_wp2_with fail
 refine hon.mono ?_
 rintro e w1 ⟨rfl,rfl⟩
 go_wp2_with fail
 go_ret2
 exact⟨rfl,rfl⟩
set_option maxHeartbeats 2000000 in
theorem read_on (ρ:Rl) (p s:Nat) (P:Pow) (S:Ssd) (off n:Nat) (w:World) (hP:PowR w p P) (h:SsdR ρ w p s S) (hn:0<n) (hl:off+n<=S.lasts.length) (hcnt:S.cnt<=1000000) (hg:P.gone=false):
 Calls Tryz.prog 96 #[.pointer (some ⟨s,0,none⟩),.int .i64 off,.int .i64 n] w fun e w'=>∃v,e=.returned (.tuple #[v,.bool true])/\HasP (w.heap.size<=·) w' v (((snap S).drop off).take n)/\Below w.heap.size w w':=by
 have hb64:S.lasts.length<=65536:=by obtain⟨_,_,_,_,_,_,_,_,_,_,_,_,h64,_⟩:=h;exact h64
 have hin:∀o∈S.waits,o.in_ S.lasts.length:=by obtain⟨_,_,_,_,_,_,_,_,_,_,_,_,_,h⟩:=h;exact h
 have his:=sis_ok ρ p s S off n w h (by omega) (by omega) (by omega) hb64
 have hon:=on_ok p P w hP
 have hne:S.lasts≠[]:=by intro e;rw[e]at hl;simp at hl;omega
 have hsn:=snap_ok ρ p s S w h hne hcnt
 have hsl:(snap S).length=S.lasts.length:=by rw[<-snapTo_all];exact snapTo_len S hin _
 obtain⟨bl,vW,vT,T,h1,h2,_⟩:=h
 have c0:=h1.cell_ 0 rfl
 have hls:=h1.lt
 clear h1 hin
 rw[hg]at hon
 go_enter Tryz.func96,Tryz.ntmps96
 go_wp2_with fail
 refine his.mono ?_
 rintro e w1 ⟨rfl,rfl⟩
 go_wp2_with fail
 refine hon.mono ?_
 rintro e w1 ⟨rfl,rfl⟩
 go_wp2_with fail
 refine hsn.mono ?_
 rintro e w1 ⟨v,rfl,o1,l1⟩
 obtain⟨b,o,cap,rfl,k1,k2,hcut⟩:=o1.has.cut (off:=off) hn (by omega)
 obtain⟨m,hm⟩:∃m,m=(snap S).length:=⟨_,rfl⟩
 have q1:off+n<=cap:=by omega
 have q2:off<=off+n:=by omega
 have q3:cap≠off:=by omega
 have q4:cap<=9223372036854775807:=by unfold maxLen at k2;omega
 have HC:=Lib.hid hcut
 rw[<-hm]at k1 ⊢
 clear his hon hsn c0 o1 hcut hsl hm hl hb64 k2
 go_wp2_with fail
 go_ret2
 exact⟨_,rfl,by rw[Nat.add_sub_cancel_left];exact HC.out,l1⟩
theorem all_ok (i:Int) (w:World):Calls Tryz.prog 48 #[.int .i64 i] w fun e w'=>e=.returned (.bool true)/\w=w':=by
 go_enter Tryz.func48,Tryz.ntmps48
 go_wp2
 go_ret
 exact⟨rfl,rfl⟩
theorem BufR.blk {w:World}{g:Nat}{l:By}(h:BufR w g l.length l):Blk w g 5 (bvals l).toArray:=by
 obtain⟨cur,h1,h2,_,h4⟩:=h
 have:cur=(bvals l).toArray:=by
  apply Array.toList_inj.1
  rw[<-h4,<-h2]
  exact(List.take_of_length_le (by simp)).symm
 rw[<-this]
 exact h1
theorem BufR.of_blk {w:World}{g:Nat}{l:By}(h:Blk w g 5 (bvals l).toArray):BufR w g l.length l:=⟨_,h,by simp[bvals],Nat.le_refl _,by simp[<-bvals_len l]⟩
set_option maxHeartbeats 4000000 in
theorem settles_all (ρ:Rl) (p s:Nat) (S:Ssd) (w:World) (hf:Fresh ρ w) (h:SsdR ρ w p s S) (hcnt:S.cnt<=1000000) (hne:S.lasts≠[]):
 Calls Tryz.prog 47 #[.pointer (some ⟨s,0,none⟩),.func (.func 48) #[] #[]] w fun e w'=>e=.returned (.tuple #[])/\SsdR ρ w' p s ⟨snap S,[],S.cnt⟩/\Ch (fun i=>ρ i=rSsd\/ρ i=rLas) w w':=by
 obtain⟨bl,vW,vT,T,h1,h2,h3,h4,h5,h6,h7⟩:=h
 obtain⟨Aw,cw,rfl⟩:=h5.form
 have hnl:0<S.lasts.length:=List.length_pos_iff.2 hne
 have h64:=h7.2.2.1
 have hwl:=h7.2.1
 have hin:=h7.2.2.2
 have hB0:=BufR.of_blk h3
 obtain⟨n,hn⟩:∃n,n=S.lasts.length:=⟨_,rfl⟩
 obtain⟨k,hk⟩:∃k,k=S.waits.length:=⟨_,rfl⟩
 rw[<-hn]at h1 hnl h64 hB0
 rw[<-hk]at h1 hwl
 have HN:=Lib.hid hn
 have HK:=Lib.hid hk
 have hst:snapTo S 0=S.lasts:=rfl
 rw[<-hst]at hB0
 have c2:=h1.cell_ 2 rfl
 have hl:=h1.lt
 have hbs:s≠bl:=fun e=>by rw[e,h4]at h2;exact absurd h2 (by decide)
 have H1:=Lib.hid h1
 have H7:=Lib.hid h7
 have hlbl:=h3.lt
 clear hn hk h7 h1 h3 hst
 go_enter Tryz.func47,Tryz.ntmps47
 go_wp2_with fail
 go_loopw [4,5,11] (fun _ _ t wr=>∃i:Nat,t=.int .i64 i/\i<=k/\BufR wr bl n (snapTo S i)/\Ch (fun b=>b=bl) w wr) (fun _ _ t _=>k-(intOf t).toNat)
 case atStart=>exact⟨0,rfl,by omega,hB0,Ch.refl _ _⟩
 case round=>
  obtain⟨i,rfl,hik,hB,hch⟩:=hrel
  clear hB0 c2
  by_cases hlt:i<k
  ·obtain⟨o,ho⟩:∃o,S.waits[i]? =some o:=⟨_,List.getElem?_eq_getElem (by have:=HK.out;omega)⟩
   obtain⟨rb,rc,u,hv,hrr,hrl,q0,q1,hu⟩:=h5.at_ ho
   obtain⟨rfl,rfl⟩:Aw=some ⟨rb,0,none⟩/\cw=rc:=by simpa using hv
   have hoi:=hin o (List.mem_of_getElem? ho)
   obtain⟨b1,q,c1,rfl,hb1r,hb1,_,_,hbc⟩:=hu.spot hoi.2.2
   have i0:(0:Int)<=(i:Int):=by omega
   have i1:(i:Int)<(k:Int):=by omega
   have n1:¬(rb=bl):=fun e=>by rw[e]at hrr;rw[h4]at hrr;exact absurd hrr (by decide)
   have n2:¬(b1=bl):=fun e=>by rw[e]at hb1r;rw[h4]at hb1r;exact absurd hb1r (by decide)
   have j0:=(hch.cell (j:=i*2) hrl n1).trans q0
   have j1:=(hch.cell (j:=i*2+1) hrl n1).trans q1
   have hsl:=snapTo_len S hin i
   have hoi2:o.in_ (snapTo S i).length:=by rw[hsl];exact hoi
   have hsu:=snapTo_succ S i o ho
   obtain⟨o0,o1,o2⟩:=hoi
   rw[<-HN.out]at o1
   have o3:0<o.bytes.length:=List.length_pos_iff.2 o2
   have d1:wr.cell? ⟨s,1,none⟩=some (.slice (some ⟨bl,0,none⟩) n n):=(hch.cell hl hbs).trans (H1.out.cell_ 1 rfl)
   have hlr:=Nat.lt_of_lt_of_le hl hch.size
   have hall:=fun W=>all_ok (i:Int) W
   obtain⟨W,hW⟩:∃W,W=wr.alloc (.cells #[.int .i64 o.off,.slice (some ⟨b1,q,none⟩) o.bytes.length c1] 119):=⟨_,rfl⟩
   have hX:Blk W wr.heap.size 119 #[.int .i64 o.off,.slice (some ⟨b1,q,none⟩) o.bytes.length c1]:=by rw[hW];exact Blk.new wr 119 _
   have hBW:BufR W.drew bl n (snapTo S i):=by rw[hW];exact(hB.alloc _).drew
   have hchW:Ch (fun b=>b=bl) w W.drew:=by rw[hW];exact(hch.trans (Ch.alloc_ _ _)).trans (Ch.drew_ _)
   have hbc3:∀(j:Nat) (x:UInt8),o.bytes[j]? =some x->W.drew.cell? ⟨b1,q+j,none⟩=some (.int .u8 (x.toNat:Int)):=fun j x hx=>(hchW.cell hb1 n2).trans (hbc j x hx)
   obtain⟨w3,hcopy,hB3,hg3⟩:=BufR.copy (p:=fun _=>True) (c:=c1) hBW o hoi2 hbc3
   rw[hsl,<-HN.out]at hcopy
   rw[<-hsu]at hB3
   have hch3:Ch (fun b=>b=bl) w w3:=hchW.trans (Ch.of_grown hg3 rfl)
   have k0:W.drew.cell? ⟨wr.heap.size,0,none⟩=some (.int .i64 o.off):=hX.drew.cell_ 0 rfl
   have k1:W.drew.cell? ⟨wr.heap.size,1,none⟩=some (.slice (some ⟨b1,q,none⟩) o.bytes.length c1):=hX.drew.cell_ 1 rfl
   have d1':W.drew.cell? ⟨s,1,none⟩=some (.slice (some ⟨bl,0,none⟩) n n):=(hchW.cell hl hbs).trans (H1.out.cell_ 1 rfl)
   obtain⟨f,hf'⟩:=Int.eq_ofNat_of_zero_le o0
   obtain⟨m,hm⟩:∃m,m=o.bytes.length:=⟨_,rfl⟩
   rw[hf']at hcopy k0 j0 hW o1
   rw[<-hm]at hcopy k1 j1 hW o1 o3
   rw[Int.toNat_natCast]at hcopy
   have m1:f<=n:=by omega
   have m2:n≠f:=by omega
   have m3:(f:Int)<=(n:Int):=by omega
   have m5:(0:Int)<=(f:Int):=by omega
   clear hf' hm hB hch hBW hchW hbc hbc3 hX hsl hoi2 hsu h5 h6 hin hu ho hv q0 q1 o2 d1
   go_wp2_with fail
   refine(hall _).mono ?_
   rintro e w2 ⟨rfl,rfl⟩
   clear hall
   go_wp2_with fail
   rw[<-hW]
   clear hW
   go_region_law (fail)
   all_goals
    go_wp2_with fail
    go_roundw
    case rel=>exact⟨i+1,by go_num,by omega,hB3,hch3⟩
    case measure=>simp[intOf];omega
  ·obtain rfl:i=k:=by omega
   have hd:decide ((i:Int)<(i:Int))=false:=by simp
   have hSb:Blk wr s 116 _:=H1.out.ch hch hbs
   have d2:=hSb.cell_ 2 rfl
   have e2:=hSb.frozen 2
   have hlr:=hSb.lt
   have HS:=Lib.hid hSb
   clear hSb
   have hfull:snapTo S i=snap S:=by rw[HK.out];exact snapTo_all S
   have hlen:(snap S).length=n:=by rw[<-hfull,snapTo_len S hin i];exact HN.out.symm
   rw[hfull]at hB
   have HB:=Lib.hid (And.intro hB hlen)
   clear hB hfull hlen
   go_wp2_with fail
   go_end0
   obtain⟨hB,hlen⟩:=HB.out
   have hB':BufR wr bl (snap S).length (snap S):=by rw[hlen];exact hB
   refine⟨rfl,⟨bl,.slice none 0 0,vT,T,?_,h2,hB'.blk.far (p:=⟨s,2,none⟩) (fun e=>hbs e.symm) _,h4,OpRow.nil _ _ _,?_,?_⟩,?_⟩
   ·rw[hlen]
    exact HS.out.set_to 2 _ rfl
   ·refine h6.keep (by simpa[World.setCell]using hch.size) (fun b hb e=>?_)
    have hr:ρ b≠rSsd/\ρ b≠rLas:=by rcases e with e|e<;>rw[e]<;>decide
    rw[Below.heap_setCell _ _ _ _ (fun c=>hr.1 (by simp only at c;rw[c];exact h2))]
    exact hch.keep b hb (fun c=>hr.2 (by rw[c];exact h4))
   ·refine⟨H7.out.1,Nat.zero_le _,?_,fun o ho=>by simp at ho⟩
    simp only
    rw[hlen];exact h64
   ·exact(hch.mono (fun b e=>.inr (by rw[e];exact h4))).trans (Ch.set_ (p:=⟨s,2,none⟩) (.inl h2) _ _)
end Go.Proofs.YtggmdjdflaglpaaGreat
namespace Go.Proofs.YtggmdjdflaglpaaGreat
open Go.RowKit
set_option linter.unusedVariables false
def kept:List Opn->List Bool->List Opn
 |[],_=>[]
 |_::_,[]=>[]
 |o::l,b::ks=>if b then o::kept l ks else kept l ks
theorem kept_snoc:∀(l:List Opn) (ks:List Bool) (o:Opn),kept (l++[o]) ks=kept l ks++(if ks.getD l.length false then [o]else [])
 |[],[],o=>by simp[kept]
 |[],b::ks,o=>by cases b<;>simp[kept]
 |a::l,[],o=>by simp[kept]
 |a::l,b::ks,o=>by
  have ih:=kept_snoc l ks o
  cases b
  ·simpa[kept]using ih
  ·simp only[List.cons_append,kept,if_true,List.length_cons,List.getD_cons_succ]
   rw[ih]
theorem kept_sub:∀(l:List Opn) (ks:List Bool) (o:Opn),o∈kept l ks->o∈l
 |[],ks,o,h=>by simp[kept]at h
 |a::l,[],o,h=>by simp[kept]at h
 |a::l,b::ks,o,h=>by
  cases b
  ·exact List.mem_cons_of_mem _ (kept_sub l ks o (by simpa[kept]using h))
  ·rcases List.mem_cons.1 (show o∈a::kept l ks from h)with e|e
   ·exact List.mem_cons.2 (.inl e)
   ·exact List.mem_cons_of_mem _ (kept_sub l ks o e)
def crashTo (S:Ssd) (ks:List Bool) (i:Nat):By:=(kept (S.waits.take i) ks).foldl over S.lasts
def crashed (S:Ssd) (ks:List Bool):Ssd:=⟨(kept S.waits ks).foldl over S.lasts,[],S.cnt⟩
theorem crashTo_succ (S:Ssd) (ks:List Bool) (i:Nat) (o:Opn) (h:S.waits[i]? =some o):crashTo S ks (i+1)=if ks.getD i false then over (crashTo S ks i) o else crashTo S ks i:=by
 have hi:(S.waits.take i).length=i:=by rw[List.length_take];have:=(List.getElem?_eq_some_iff.1 h).1;omega
 unfold crashTo
 rw[List.take_add_one,h,show(some o).toList=[o]from rfl,kept_snoc,hi,List.foldl_append]
 split<;>rfl
theorem crashTo_all (S:Ssd) (ks:List Bool):crashTo S ks S.waits.length=(crashed S ks).lasts:=by unfold crashTo crashed;rw[List.take_length]
theorem folds_len:∀(l:List Opn) (b:By),(∀o∈l,o.in_ b.length)->(l.foldl over b).length=b.length
 |[],b,h=>rfl
 |o::l,b,h=>by
  have h0:=h o (List.mem_cons_self ..)
  have hl:(over b o).length=b.length:=over_len _ _ h0
  show(l.foldl over (over b o)).length=_
  rw[folds_len l (over b o) (fun x hx=>by rw[hl];exact h x (List.mem_cons_of_mem _ hx)),hl]
theorem crashTo_len (S:Ssd) (ks:List Bool) (hin:∀o∈S.waits,o.in_ S.lasts.length) (i:Nat):(crashTo S ks i).length=S.lasts.length:=
 folds_len _ _ (fun o ho=>hin o (List.take_subset _ _ (kept_sub _ _ _ ho)))
def HasK (p:Nat->Prop) (w:World) (v:Value) (ks:List Bool):Prop:=
 ∃A c,v=.slice A ks.length c/\(ks=[]\/∃b o,A=some ⟨b,o,none⟩/\p b/\b<w.heap.size/\ks.length<=c/\c<=maxLen/\∀(j:Nat) (x:Bool),ks[j]? =some x->w.cell? ⟨b,o+j,none⟩=some (.bool x))
theorem HasK.keep {p:Nat->Prop}{w w':World}{v:Value}{ks:List Bool}(h:HasK p w v ks) (hs:w.heap.size<=w'.heap.size) (hk:∀b,b<w.heap.size->p b->w'.heap[b]? =w.heap[b]?):HasK p w' v ks:=by
 obtain⟨A,c,e,h⟩:=h
 refine⟨A,c,e,?_⟩
 rcases h with h|⟨b,o,h1,h2,h3,h4,h5,h6⟩
 ·exact .inl h
 ·refine .inr ⟨b,o,h1,h2,Nat.lt_of_lt_of_le h3 hs,h4,h5,fun j x hj=>?_⟩
  rw[<-h6 j x hj]
  simp only[World.cell?,hk b h3 h2]
theorem HasK.below_ {p:Nat->Prop}{w w':World}{v:Value}{ks:List Bool}(h:HasK p w v ks) (hb:Below w.heap.size w w'):HasK p w' v ks:=h.keep hb.size (fun b hb' _=>hb.block b hb')
theorem HasK.weakB {p q:Nat->Prop}{w:World}{v:Value}{ks:List Bool}(h:HasK p w v ks) (hpq:∀b,b<w.heap.size->p b->q b):HasK q w v ks:=by
 obtain⟨A,c,e,h⟩:=h
 refine⟨A,c,e,?_⟩
 rcases h with h|⟨b,o,h1,h2,h3,h4⟩
 ·exact .inl h
 ·exact .inr ⟨b,o,h1,hpq b h3 h2,h3,h4⟩
set_option maxHeartbeats 1000000 in
theorem keepf_ok (p:Nat->Prop) (kb:Nat) (v:Value) (ks:List Bool) (i:Nat) (w:World) (hc:w.cell? ⟨kb,0,none⟩=some v) (h:HasK p w v ks) (hl:ks.length<=1000) (hi:i<=2000000):
 Calls Tryz.prog 122 #[.int .i64 i,.pointer (some ⟨kb,0,none⟩)] w fun e w'=>e=.returned (.bool (ks.getD i false))/\w=w':=by
 obtain⟨A,c,rfl,h⟩:=h
 obtain⟨n,hn⟩:∃n,n=ks.length:=⟨_,rfl⟩
 rw[<-hn]at hc hl
 obtain⟨R,hR⟩:∃R,R=ks.getD i false:=⟨_,rfl⟩
 rw[<-hR]
 by_cases hlt:i<n
 ·rcases h with h|⟨b,o,rfl,_,hb,hc1,hc2,hcl⟩
  ·rw[h]at hn;simp at hn;omega
  ·obtain⟨x,hx⟩:∃x,ks[i]? =some x:=⟨_,List.getElem?_eq_getElem (by omega)⟩
   have hcx:=hcl i x hx
   have hRx:R=x:=by rw[hR,List.getD_eq_getElem?_getD,hx];rfl
   subst hRx
   have i0:(0:Int)<=(i:Int):=by omega
   have i1:(i:Int)<(n:Int):=by omega
   clear hn hR hcl hx hc1 hc2
   go_enter Tryz.func122,Tryz.ntmps122
   go_wp2_with fail
   go_ret
   exact⟨rfl,rfl⟩
 ·have hRx:R=false:=by rw[hR,List.getD_eq_getElem?_getD,List.getElem?_eq_none (by omega)];rfl
  subst hRx
  have i1:¬((i:Int)<(n:Int)):=by omega
  clear hn hR h
  go_enter Tryz.func122,Tryz.ntmps122
  go_wp2_with fail
  go_ret
  exact⟨rfl,rfl⟩
set_option maxHeartbeats 4000000 in
theorem settles_keep (ρ:Rl) (p s kb:Nat) (S:Ssd) (ks:List Bool) (kv:Value) (w:World) (hf:Fresh ρ w) (h:SsdR ρ w p s S) (hcnt:S.cnt<=1000000) (hne:S.lasts≠[]) (hkb:kb<w.heap.size) (hkr:¬(ρ kb=rSsd\/ρ kb=rLas)) (hkc:w.cell? ⟨kb,0,none⟩=some kv) (hkv:HasK (fun b=>¬(ρ b=rSsd\/ρ b=rLas)) w kv ks) (hkl:ks.length<=1000):
 Calls Tryz.prog 47 #[.pointer (some ⟨s,0,none⟩),.func (.func 122) #[] #[.pointer (some ⟨kb,0,none⟩)]] w fun e w'=>e=.returned (.tuple #[])/\SsdR ρ w' p s (crashed S ks)/\Ch (fun i=>ρ i=rSsd\/ρ i=rLas) w w':=by
 obtain⟨bl,vW,vT,T,h1,h2,h3,h4,h5,h6,h7⟩:=h
 obtain⟨Aw,cw,rfl⟩:=h5.form
 have hnl:0<S.lasts.length:=List.length_pos_iff.2 hne
 have h64:=h7.2.2.1
 have hwl:=h7.2.1
 have hin:=h7.2.2.2
 have hB0:=BufR.of_blk h3
 obtain⟨n,hn⟩:∃n,n=S.lasts.length:=⟨_,rfl⟩
 obtain⟨k,hk⟩:∃k,k=S.waits.length:=⟨_,rfl⟩
 rw[<-hn]at h1 hnl h64 hB0
 rw[<-hk]at h1 hwl
 have HN:=Lib.hid hn
 have HK:=Lib.hid hk
 have hst:crashTo S ks 0=S.lasts:=rfl
 rw[<-hst]at hB0
 have c2:=h1.cell_ 2 rfl
 have hl:=h1.lt
 have hbs:s≠bl:=fun e=>by rw[e,h4]at h2;exact absurd h2 (by decide)
 have H1:=Lib.hid h1
 have H7:=Lib.hid h7
 have hlbl:=h3.lt
 clear hn hk h7 h1 h3 hst
 go_enter Tryz.func47,Tryz.ntmps47
 go_wp2_with fail
 go_loopw [4,5,11] (fun _ _ t wr=>∃i:Nat,t=.int .i64 i/\i<=k/\BufR wr bl n (crashTo S ks i)/\Ch (fun b=>b=bl) w wr) (fun _ _ t _=>k-(intOf t).toNat)
 case atStart=>exact⟨0,rfl,by omega,hB0,Ch.refl _ _⟩
 case round=>
  obtain⟨i,rfl,hik,hB,hch⟩:=hrel
  clear hB0 c2
  by_cases hlt:i<k
  ·obtain⟨o,ho⟩:∃o,S.waits[i]? =some o:=⟨_,List.getElem?_eq_getElem (by have:=HK.out;omega)⟩
   obtain⟨rb,rc,u,hv,hrr,hrl,q0,q1,hu⟩:=h5.at_ ho
   obtain⟨rfl,rfl⟩:Aw=some ⟨rb,0,none⟩/\cw=rc:=by simpa using hv
   have hoi:=hin o (List.mem_of_getElem? ho)
   obtain⟨b1,q,c1,rfl,hb1r,hb1,_,_,hbc⟩:=hu.spot hoi.2.2
   have i0:(0:Int)<=(i:Int):=by omega
   have i1:(i:Int)<(k:Int):=by omega
   have n1:¬(rb=bl):=fun e=>by rw[e]at hrr;rw[h4]at hrr;exact absurd hrr (by decide)
   have n2:¬(b1=bl):=fun e=>by rw[e]at hb1r;rw[h4]at hb1r;exact absurd hb1r (by decide)
   have j0:=(hch.cell (j:=i*2) hrl n1).trans q0
   have j1:=(hch.cell (j:=i*2+1) hrl n1).trans q1
   have hsl:=crashTo_len S ks hin i
   have hoi2:o.in_ (crashTo S ks i).length:=by rw[hsl];exact hoi
   have hsu:=crashTo_succ S ks i o ho
   obtain⟨o0,o1,o2⟩:=hoi
   rw[<-HN.out]at o1
   have o3:0<o.bytes.length:=List.length_pos_iff.2 o2
   have d1:wr.cell? ⟨s,1,none⟩=some (.slice (some ⟨bl,0,none⟩) n n):=(hch.cell hl hbs).trans (H1.out.cell_ 1 rfl)
   have hlr:=Nat.lt_of_lt_of_le hl hch.size
   have hki:i<=2000000:=by omega
   have kbl:kb≠bl:=fun e=>hkr (.inr (by rw[e];exact h4))
   have hkc':=(hch.cell (j:=0) hkb kbl).trans hkc
   have hkv':=hkv.keep hch.size (fun b hb e=>hch.keep b hb (fun c=>e (.inr (by rw[c];exact h4))))
   have hall:=keepf_ok _ kb kv ks i (wr.alloc (.cells #[.int .i64 o.off,.slice (some ⟨b1,q,none⟩) o.bytes.length c1] 119)) ((World.cell?_alloc_lt _ _ _ (by simp only;have:=hch.size;omega)).trans hkc') (hkv'.below_ ((Below.refl _ _).alloc (Nat.le_refl _) _)) hkl hki
   obtain⟨kp,hkp⟩:∃kp,kp=ks.getD i false:=⟨_,rfl⟩
   rw[<-hkp]at hall hsu
   cases kp with
   |true=>
    obtain⟨W,hW⟩:∃W,W=wr.alloc (.cells #[.int .i64 o.off,.slice (some ⟨b1,q,none⟩) o.bytes.length c1] 119):=⟨_,rfl⟩
    have hX:Blk W wr.heap.size 119 #[.int .i64 o.off,.slice (some ⟨b1,q,none⟩) o.bytes.length c1]:=by rw[hW];exact Blk.new wr 119 _
    have hBW:BufR W.drew bl n (crashTo S ks i):=by rw[hW];exact(hB.alloc _).drew
    have hchW:Ch (fun b=>b=bl) w W.drew:=by rw[hW];exact(hch.trans (Ch.alloc_ _ _)).trans (Ch.drew_ _)
    have hbc3:∀(j:Nat) (x:UInt8),o.bytes[j]? =some x->W.drew.cell? ⟨b1,q+j,none⟩=some (.int .u8 (x.toNat:Int)):=fun j x hx=>(hchW.cell hb1 n2).trans (hbc j x hx)
    obtain⟨w3,hcopy,hB3,hg3⟩:=BufR.copy (p:=fun _=>True) (c:=c1) hBW o hoi2 hbc3
    rw[hsl,<-HN.out]at hcopy
    rw[if_pos rfl]at hsu
    rw[<-hsu]at hB3
    have hch3:Ch (fun b=>b=bl) w w3:=hchW.trans (Ch.of_grown hg3 rfl)
    have k0:W.drew.cell? ⟨wr.heap.size,0,none⟩=some (.int .i64 o.off):=hX.drew.cell_ 0 rfl
    have k1:W.drew.cell? ⟨wr.heap.size,1,none⟩=some (.slice (some ⟨b1,q,none⟩) o.bytes.length c1):=hX.drew.cell_ 1 rfl
    have d1':W.drew.cell? ⟨s,1,none⟩=some (.slice (some ⟨bl,0,none⟩) n n):=(hchW.cell hl hbs).trans (H1.out.cell_ 1 rfl)
    obtain⟨f,hf'⟩:=Int.eq_ofNat_of_zero_le o0
    obtain⟨m,hm⟩:∃m,m=o.bytes.length:=⟨_,rfl⟩
    rw[hf']at hcopy k0 j0 hW o1 hall
    rw[<-hm]at hcopy k1 j1 hW o1 o3 hall
    rw[Int.toNat_natCast]at hcopy
    have m1:f<=n:=by omega
    have m2:n≠f:=by omega
    have m3:(f:Int)<=(n:Int):=by omega
    have m5:(0:Int)<=(f:Int):=by omega
    clear hkc' hkv' hkp hf' hm hB hch hBW hchW hbc hbc3 hX hsl hoi2 hsu h5 h6 hin hu ho hv q0 q1 o2 d1
    go_wp2_with fail
    refine hall.mono ?_
    rintro e w2 ⟨rfl,rfl⟩
    clear hall
    go_wp2_with fail
    rw[<-hW]
    clear hW
    go_region_law (fail)
    all_goals
     go_wp2_with fail
     go_roundw
     case rel=>exact⟨i+1,by go_num,by omega,hB3,hch3⟩
     case measure=>simp[intOf];omega
   |false=>
    rw[if_neg (by simp)]at hsu
    obtain⟨f,hf'⟩:=Int.eq_ofNat_of_zero_le o0
    obtain⟨m,hm⟩:∃m,m=o.bytes.length:=⟨_,rfl⟩
    have hB3:BufR (wr.alloc (.cells #[.int .i64 o.off,.slice (some ⟨b1,q,none⟩) o.bytes.length c1] 119)) bl n (crashTo S ks (i+1)):=by rw[hsu];exact hB.alloc _
    have hch3:Ch (fun b=>b=bl) w (wr.alloc (.cells #[.int .i64 o.off,.slice (some ⟨b1,q,none⟩) o.bytes.length c1] 119)):=hch.trans (Ch.alloc_ _ _)
    rw[hf']at j0 hall hB3 hch3
    rw[<-hm]at j1 hall hB3 hch3
    clear hkc' hkv' hkp hf' hm hB hch hbc hsl hoi2 hsu h5 h6 hin hu ho hv q0 q1 o2 d1
    go_wp2_with fail
    refine hall.mono ?_
    rintro e w2 ⟨rfl,rfl⟩
    clear hall
    go_wp2_with fail
    go_roundw
    case rel=>exact⟨i+1,by go_num,by omega,hB3,hch3⟩
    case measure=>simp[intOf];omega
  ·obtain rfl:i=k:=by omega
   have hd:decide ((i:Int)<(i:Int))=false:=by simp
   have hSb:Blk wr s 116 _:=H1.out.ch hch hbs
   have d2:=hSb.cell_ 2 rfl
   have e2:=hSb.frozen 2
   have hlr:=hSb.lt
   have HS:=Lib.hid hSb
   clear hSb
   have hfull:crashTo S ks i=(crashed S ks).lasts:=by rw[HK.out];exact crashTo_all S ks
   have hlen:((crashed S ks).lasts).length=n:=by rw[<-hfull,crashTo_len S ks hin i];exact HN.out.symm
   rw[hfull]at hB
   have HB:=Lib.hid (And.intro hB hlen)
   clear hB hfull hlen
   go_wp2_with fail
   go_end0
   obtain⟨hB,hlen⟩:=HB.out
   have hB':BufR wr bl ((crashed S ks).lasts).length ((crashed S ks).lasts):=by rw[hlen];exact hB
   refine⟨rfl,⟨bl,.slice none 0 0,vT,T,?_,h2,hB'.blk.far (p:=⟨s,2,none⟩) (fun e=>hbs e.symm) _,h4,OpRow.nil _ _ _,?_,?_⟩,?_⟩
   ·rw[hlen]
    exact HS.out.set_to 2 _ rfl
   ·refine h6.keep (by simpa[World.setCell]using hch.size) (fun b hb e=>?_)
    have hr:ρ b≠rSsd/\ρ b≠rLas:=by rcases e with e|e<;>rw[e]<;>decide
    rw[Below.heap_setCell _ _ _ _ (fun c=>hr.1 (by simp only at c;rw[c];exact h2))]
    exact hch.keep b hb (fun c=>hr.2 (by rw[c];exact h4))
   ·refine⟨H7.out.1,Nat.zero_le _,?_,fun o ho=>by simp[crashed]at ho⟩
    rw[hlen];exact h64
   ·exact(hch.mono (fun b e=>.inr (by rw[e];exact h4))).trans (Ch.set_ (p:=⟨s,2,none⟩) (.inl h2) _ _)
theorem scrash_ok (ρ:Rl) (p s:Nat) (S:Ssd) (ks:List Bool) (kv:Value) (w:World) (hf:Fresh ρ w) (h:SsdR ρ w p s S) (hcnt:S.cnt<=1000000) (hne:S.lasts≠[]) (hkv:HasK (fun b=>¬(ρ b=rSsd\/ρ b=rLas)) w kv ks) (hkl:ks.length<=1000):
 Calls Tryz.prog 77 #[.pointer (some ⟨s,0,none⟩),kv] w fun e w'=>e=.returned (.tuple #[])/\SsdR ρ w' p s (crashed S ks)/\Ch (fun i=>ρ i=rSsd\/ρ i=rLas) w w':=by
 have hkv0:=hkv
 obtain⟨A,c,rfl,_⟩:=hkv
 obtain⟨w1,hw1⟩:∃w1,w1=w.alloc (.cells #[.slice A ks.length c] 23):=⟨_,rfl⟩
 have q1:Below w.heap.size w w1:=by rw[hw1];exact(Below.refl _ _).alloc (Nat.le_refl _) _
 have b1:Blk w1 w.heap.size 23 #[.slice A ks.length c]:=by rw[hw1];exact Blk.new w 23 _
 have hr:¬(ρ w.heap.size=rSsd\/ρ w.heap.size=rLas):=by rw[hf _ (Nat.le_refl _)];decide
 have hse:=settles_keep ρ p s w.heap.size S ks _ w1 (fun i hi=>hf i (Nat.le_trans q1.size hi)) (h.keep q1.size (fun b hb _=>⟨q1.block b hb,rfl⟩)) hcnt hne b1.lt hr (b1.cell_ 0 rfl) (hkv0.below_ q1) hkl
 obtain⟨n,hn⟩:∃n,n=ks.length:=⟨_,rfl⟩
 rw[<-hn]at hw1 ⊢
 have HQ:=Lib.hid q1
 clear hn h hkv0 q1 b1 hr
 go_enter Tryz.func77,Tryz.ntmps77
 go_wp2_with fail
 rw[<-hw1]
 clear hw1
 refine hse.mono ?_
 rintro e w2 ⟨rfl,hS,hch⟩
 clear hse
 go_wp2_with fail
 go_end0
 exact⟨rfl,hS,(Ch.of_below HQ.out).trans hch⟩
end Go.Proofs.YtggmdjdflaglpaaGreat
namespace Go.Proofs.YtggmdjdflaglpaaGreat
open Go.RowKit
set_option linter.unusedVariables false
def push (S:Ssd) (off:Int) (b:By):Ssd:=⟨S.lasts,S.waits++[⟨off,b⟩],S.cnt+2⟩
theorem row_form {B:Nat}{e:TypeId}{z n:Nat}{w:World}{v:Value}{xs:List Value}(h:w.ownsRow B e z v n xs):∃A cap,v=.slice A n cap:=by
 rcases h.2 with⟨rfl,h0⟩|⟨g,c,cur,rfl,_⟩
 ·rw[h0];exact⟨_,_,rfl⟩
 ·exact⟨_,_,rfl⟩
theorem not_rs_pow:¬rsSsd rPow:=by unfold rsSsd;decide
set_option maxHeartbeats 4000000 in
set_option maxRecDepth 100000 in
theorem swrite_ok (ρ:Rl) (p s:Nat) (P:Pow) (S:Ssd) (off:Int) (vb:Value) (b:By) (w:World) (hf:Fresh ρ w) (hP:PowR w p P) (hp:ρ p=rPow) (h:SsdR ρ w p s S) (hv:HasP (fun i=>¬rtDev (ρ i)) w vb b)
 (hin:(⟨off,b⟩:Opn).in_ S.lasts.length) (hc:S.cnt<=1000000):
 Calls Tryz.prog 157 #[.pointer (some ⟨s,0,none⟩),.int .i64 off,vb] w fun e w'=>e=.returned (.bool (spend P).2)/\PowR w' p (spend P).1/\∃ρ',SsdR ρ' w' p s (if(spend P).2 then push S off b else S)/\Ste rtDev ρ w ρ' w':=by
 have hin':=hin
 obtain⟨hi0,hi1,hi2⟩:=hin
 simp only at hi0 hi1 hi2
 have hb64:S.lasts.length<=65536:=by obtain⟨_,_,_,_,_,_,_,_,_,_,_,_,h64,_⟩:=h;exact h64
 obtain⟨A,cap,rfl⟩:=hv.slice
 have hsp:=spend_ok p P w hP
 obtain⟨n,hn⟩:∃n,n=b.length:=⟨_,rfl⟩
 have his:=sis_ok ρ p s S off n w h hi0 (by omega) (by omega) hb64
 rw[<-hn]at hv ⊢
 have HN:=Lib.hid hn
 have H:=Lib.hid h
 have hPl:=hP.lt
 have hbl:b.length<=100000:=by omega
 obtain⟨bl,vW,vT,T,h1,h2,_⟩:=h
 have c0:=h1.cell_ 0 rfl
 have hl:=h1.lt
 clear hn h1
 cases hs:(spend P).2 with
 |false=>
  rw[hs]at hsp
  go_enter Tryz.func157,Tryz.ntmps157
  go_wp2_with fail
  refine his.mono ?_
  rintro e w1 ⟨rfl,rfl⟩
  go_wp2_with fail
  refine hsp.mono ?_
  rintro e w1 ⟨rfl,hp1,hg⟩
  go_wp2_with fail
  go_ret
  have hst:Ste rtDev ρ w ρ w1:=Ste.of_grown hg (by rw[hp];simp[rtDev]) hf
  refine⟨by simp,hp1,ρ,?_,hst⟩
  exact H.out.keep hg.size (fun b hb hr=>⟨hg.block b hb (fun e=>by injection e with e;rw[e,hp]at hr;exact not_rs_pow hr),rfl⟩)
 |true=>
  rw[hs]at hsp
  go_enter Tryz.func157,Tryz.ntmps157
  go_wp2_with fail
  refine his.mono ?_
  rintro e w1 ⟨rfl,rfl⟩
  go_wp2_with fail
  refine hsp.mono ?_
  rintro e w1 ⟨rfl,hp1,hg⟩
  have hst:Ste rtDev ρ w ρ w1:=Ste.of_grown hg (by rw[hp];simp[rtDev]) hf
  have hS1:SsdR ρ w1 p s S:=H.out.keep hg.size (fun b hb hr=>⟨hg.block b hb (fun e=>by injection e with e;rw[e,hp]at hr;exact not_rs_pow hr),rfl⟩)
  have hv1:HasP (fun i=>¬rtDev (ρ i)) w1 (.slice A n cap) b:=hv.keep hg.size (fun i hi hn=>hst.ch.keep i hi hn)
  clear his hsp c0 hv
  go_wp2_with fail
  have hX:=Blk.new w1 119 #[.int .i64 off,.slice A n cap]
  have hbel:Below w1.heap.size w1 (w1.alloc (.cells #[.int .i64 off,.slice A n cap] 119)):=(Below.refl _ _).alloc (Nat.le_refl _) _
  have hst2:=hst.trans (Ste.of_below (T:=rtDev) hbel hst.fresh)
  have hS2:SsdR ρ (w1.alloc (.cells #[.int .i64 off,.slice A n cap] 119)) p s S:=hS1.keep hbel.size (fun b hb hr=>⟨hbel.block b hb,rfl⟩)
  replace hv1:=hv1.alloc (.cells #[.int .i64 off,.slice A n cap] 119)
  have hxw:w.heap.size<=w1.heap.size:=hst.size
  obtain⟨W,hW⟩:∃W,W=w1.alloc (.cells #[.int .i64 off,.slice A n cap] 119):=⟨_,rfl⟩
  obtain⟨x,hx⟩:∃x,x=w1.heap.size:=⟨_,rfl⟩
  rw[<-hW,<-hx]at hX
  rw[<-hW]at hst2 hS2 hv1
  rw[<-hx]at hxw
  have hx0:ρ x=0:=hst.fresh x (by omega)
  rw[<-hW,<-hx]
  have HP1:=Lib.hid hp1
  have hpw:PowR W p (spend P).1:=hp1.keep (by rw[hW];exact hbel.block p hp1.lt)
  clear hW hx hbel hS1 hst hp1 HP1
  obtain⟨bl,vW,vT,T,h1,h2,h3,h4,⟨csW,r1,r2,r3⟩,h6,h7⟩:=hS2
  obtain⟨Aw,cw,rfl⟩:∃Aw cw,vW=.slice Aw S.waits.length cw:=OpRow.form ⟨csW,r1,r2,r3⟩
  obtain⟨i0,hi,hz0,hz1,hz2⟩:=info_parts info119
  have hf2:=hst2.fresh
  have c2:=h1.cell_ 2 rfl
  have hl2:=h1.lt
  have hcl:=fun(W':World) (hh:HasP (fun i=>¬rtDev (ρ i)) W' (.slice A n cap) b)=>copied_ok _ off _ b W' hh hbl
  have hB:=(Below.refl W.heap.size W).drew
  have hB0:=hB
  replace hX:=hX.drew
  replace h1:=h1.drew
  replace hv1:=hv1.drew
  replace c2:W.drew.cell? ⟨s,2,none⟩=_:=c2
  replace r1:W.drew.ownsRow 0 119 2 (.slice Aw S.waits.length cw) S.waits.length csW:=r1
  have hnw:=h7.2.1
  replace r2:∀b,(Value.slice Aw S.waits.length cw).ownBlock=some b->ρ b=rSwt:=r2
  have kx0:=hX.cell_ 0 rfl
  have kx1:=hX.cell_ 1 rfl
  have hlx:=hX.lt
  have hlx0:x<W.heap.size:=hlx
  go_region_law
   (first
    |(refine step_append_own (by rfl) _ _ _ (by rfl) 0 119 i0 _ 2 32 Tryz.underlying114 hi hz0 hz1 hz2 rfl (by omega) _ S.waits.length csW (by rfl) (World.ownsRow.alloc r1 _) ⟨w3.heap.size,0,none⟩ 1 1 [.int .i64 off,.slice A1 b.length c1] (by rfl) (by simp) (cell_two_new _ _ _ _) (fun v hv=>by simp at hv;rcases hv with rfl|rfl<;>rfl) (by unfold maxLen;omega) (by omega) (by omega) ?_;intro v2 w2 hown2 hgrow2 hor2;obtain⟨A2,cap2,rfl⟩:=row_form hown2;replace hX:=(hX.alloc (.cells #[.int .i64 off,.slice A1 b.length c1] 119)).grown hgrow2 (fun e=>by have:=r2 x e.symm;rw[hx0]at this;exact absurd this (by decide));have hS2':=(h1.alloc (.cells #[.int .i64 off,.slice A1 b.length c1] 119)).grown hgrow2 (fun e=>by have:=r2 s e.symm;rw[h2]at this;exact absurd this (by decide));have d2:=hS2'.cell_ 2 rfl;have e2:=hS2'.frozen 2;have k2:=hS2'.lt;have hxs:x≠s:=(fun e=>by rw[e,h2]at hx0;exact absurd hx0 (by decide));have hX3:=hX.far (p:=⟨s,2,none⟩) hxs (.slice A2 (S.waits.length+1) cap2))
    |(go_simp;go_at_call 175;refine(hcl _ hv1).mono ?_;rintro e w3 ⟨v1,rfl,o1,l1⟩;replace hB0:=hB;obtain⟨A1,c1,rfl⟩:=o1.has.slice;replace hX:=hX.below_ l1;replace h1:=h1.below_ l1;replace hv1:=hv1.below_ l1;replace r1:=row_keep r1 (fun b hb _=>l1.block b hb);replace hB:=hB.trans (l1.mono hB.size);replace c2:=h1.cell_ 2 rfl;replace hl2:=h1.lt;replace kx0:=hX.cell_ 0 rfl;replace kx1:=hX.cell_ 1 rfl;replace hlx:=hX.lt))
  all_goals
   have hBb:Below W.heap.size W (w3.alloc (.cells #[.int .i64 off,.slice A1 b.length c1] 119)):=(hB.alloc hB.size _)
   obtain⟨ρ4,k1,k2,k3,hS4,hch4⟩:=SsdR.pushW (o:=⟨off,b⟩) (u:=.slice A1 b.length c1) (h1.alloc (.cells #[.int .i64 off,.slice A1 b.length c1] 119)) h2 (h3.below_ hBb) h4 (World.ownsRow.alloc r1 _) r2 (r3.keep hBb.size (fun b hb _=>hBb.block b hb)) (h6.keep hBb.size (fun b hb _=>hBb.block b hb)) h7 hin'
    ((o1.has.alloc _).weak (fun i hi=>hf2 i (Nat.le_trans hB0.size hi))) hown2 hgrow2 hor2 (fun i hi=>hf2 i (Nat.le_trans hBb.size hi))
   have hst4:Ste rtDev ρ w ρ4 _:=Ste.of_push hst2 hBb (fun i hi=>by
    rcases k2 i hi with e|e
    ·exact Nat.le_trans hB0.size (o1.ge e).1
    ·rw[e];exact hBb.size) k3 hch4
   have hxs:x≠s:=(fun e=>by rw[e,h2]at hx0;exact absurd hx0 (by decide))
   have hX4:=hX.far (p:=⟨s,2,none⟩) hxs (.slice A2 (S.waits.length+1) cap2)
   have hv4:HasP (fun i=>¬rtDev (ρ i)) _ (.slice A n cap) b:=(hv1.alloc (.cells #[.int .i64 off,.slice A1 b.length c1] 119)).keep hch4.size (fun i hi hn=>hch4.keep i hi hn)
   have hpw4:PowR (w2.setCell ⟨s,2,none⟩ (.slice A2 (S.waits.length+1) cap2)) p (spend P).1:=hpw.keep (by
    rw[Below.heap_setCell _ _ _ _ (fun e=>by simp only at e;rw[e,h2]at hp;exact absurd hp (by decide)),hgrow2.block p (Nat.lt_of_lt_of_le hpw.lt hBb.size) (fun e=>by have:=r2 p e.symm;rw[hp]at this;exact absurd this (by decide))]
    exact hBb.block p hpw.lt)
   have hx4:ρ4 x=0:=by
    by_cases e:ρ4 x=ρ x
    ·rw[e];exact hx0
    ·rcases k2 x e with e|e
     ·have:=(o1.ge e).1;have:=hlx0;have:=hB0.size;omega
     ·have:=hlx0;have:=hBb.size;omega
   obtain⟨W4,hW4⟩:∃W4,W4=w2.setCell ⟨s,2,none⟩ (.slice A2 (S.waits.length+1) cap2):=⟨_,rfl⟩
   rw[<-hW4]at hst4 hX4 hv4 hpw4 hS4 ⊢
   clear hW4 hX hv1 hown2 hgrow2 hor2 hBb hB0 hB k1 k2 k3 hch4 o1 l1 r1 r2 r3 h3 h6 h1 h4 h7 hpw hst2 d2 e2 hX3 hS2' c2 kx0 kx1
   obtain⟨bl',vW',vT',T',h1,h2',h3,h4,h5,⟨csT,r1,r2,r3⟩,h7⟩:=hS4
   obtain⟨At,ct,rfl⟩:∃At ct,vT'=.slice At T'.length ct:=OpRow.form ⟨csT,r1,r2,r3⟩
   have hf4:=hst4.fresh
   have hlt':=h7.1
   simp only at hlt'
   have c2:=h1.cell_ 3 rfl
   have hl3:=h1.lt
   have kx0:=hX4.cell_ 0 rfl
   have kx1:=hX4.cell_ 1 rfl
   have hlx:=hX4.lt
   have hlx0:=hlx
   go_wp2_with fail
   have hB:=(Below.refl W4.heap.size W4).drew
   have hB0:=hB
   have hX:=hX4.drew
   replace h1:=h1.drew
   have hv1:=hv4.drew
   replace c2:W4.drew.cell? ⟨s,3,none⟩=_:=c2
   replace r1:W4.drew.ownsRow 0 119 2 (.slice At T'.length ct) T'.length csT:=r1
   replace r2:∀b,(Value.slice At T'.length ct).ownBlock=some b->ρ4 b=rStr:=r2
   replace kx0:W4.drew.cell? ⟨x,0,none⟩=_:=kx0
   replace kx1:W4.drew.cell? ⟨x,1,none⟩=_:=kx1
   go_region_law
    (first
     |(refine step_append_own (by rfl) _ _ _ (by rfl) 0 119 i0 _ 2 32 Tryz.underlying114 hi hz0 hz1 hz2 rfl (by omega) _ T'.length csT (by rfl) (World.ownsRow.alloc r1 _) ⟨w5.heap.size,0,none⟩ 1 1 [.int .i64 off,.slice A3 b.length c3] (by rfl) (by simp) (cell_two_new _ _ _ _) (fun v hv=>by simp at hv;rcases hv with rfl|rfl<;>rfl) (by unfold maxLen;omega) (by omega) (by omega) ?_;intro v2 w6 hown2 hgrow2 hor2;obtain⟨A4,cap4,rfl⟩:=row_form hown2;have hS6':=(h1.alloc (.cells #[.int .i64 off,.slice A3 b.length c3] 119)).grown hgrow2 (fun e=>by have:=r2 s e.symm;rw[h2']at this;exact absurd this (by decide));have d2:=hS6'.cell_ 3 rfl;have e2:=hS6'.frozen 3;have k2:=hS6'.lt)
     |(go_simp;go_at_call 175;refine(hcl _ hv1).mono ?_;rintro e w5 ⟨v1,rfl,o1,l1⟩;replace hB0:=hB;obtain⟨A3,c3,rfl⟩:=o1.has.slice;replace hX:=hX.below_ l1;replace h1:=h1.below_ l1;replace hv1:=hv1.below_ l1;replace r1:=row_keep r1 (fun b hb _=>l1.block b hb);replace hB:=hB.trans (l1.mono hB.size);replace c2:=h1.cell_ 3 rfl;replace hl3:=h1.lt;replace kx0:=hX.cell_ 0 rfl;replace kx1:=hX.cell_ 1 rfl;replace hlx:=hX.lt))
   all_goals
    have hBb:Below W4.heap.size W4 (w5.alloc (.cells #[.int .i64 off,.slice A3 b.length c3] 119)):=(hB.alloc hB.size _)
    obtain⟨ρ6,k1,k2,k3,hS6,hch6⟩:=SsdR.pushT (S:=⟨S.lasts,S.waits++[⟨off,b⟩],S.cnt+1⟩) (o:=⟨off,b⟩) (u:=.slice A3 b.length c3) (h1.alloc (.cells #[.int .i64 off,.slice A3 b.length c3] 119)) h2' (h3.below_ hBb) h4 (World.ownsRow.alloc r1 _) r2 (r3.keep hBb.size (fun b hb _=>hBb.block b hb)) (h5.keep hBb.size (fun b hb _=>hBb.block b hb)) h7
     ((o1.has.alloc _).weak (fun i hi=>hf4 i (Nat.le_trans hB0.size hi))) hown2 hgrow2 hor2 (fun i hi=>hf4 i (Nat.le_trans hBb.size hi))
    have hst6:Ste rtDev ρ4 W4 ρ6 _:=Ste.of_push (Ste.refl _ hf4) hBb (fun i hi=>by
     rcases k2 i hi with e|e
     ·exact Nat.le_trans hB0.size (o1.ge e).1
     ·rw[e];exact hBb.size) k3 hch6
    have hp4:ρ4 p=rPow:=(hst4.old p hPl).trans hp
    have hpw6:PowR (w6.setCell ⟨s,3,none⟩ (.slice A4 (T'.length+1) cap4)) p (spend P).1:=hpw4.keep (by
     rw[Below.heap_setCell _ _ _ _ (fun e=>by simp only at e;rw[e,h2']at hp4;exact absurd hp4 (by decide)),hgrow2.block p (Nat.lt_of_lt_of_le hpw4.lt hBb.size) (fun e=>by have:=r2 p e.symm;rw[hp4]at this;exact absurd this (by decide))]
     exact hBb.block p hpw4.lt)
    have hfin:=Lib.hid (And.intro hS6 (And.intro hpw6 (hst4.trans hst6)))
    clear hS6 hpw6 hst6 hst4 hch6 hown2 hgrow2 hor2 d2 e2 hS6' hX hX4 hv1 hv4 o1 l1 r1 r2 r3 h1 h3 h5 h7
    go_wp2_with fail
    go_ret
    exact⟨by simp,hfin.out.2.1,ρ6,hfin.out.1,hfin.out.2.2⟩
end Go.Proofs.YtggmdjdflaglpaaGreat
