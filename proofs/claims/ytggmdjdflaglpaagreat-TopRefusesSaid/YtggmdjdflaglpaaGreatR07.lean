/- slices.Concat of rows of bytes. -/
import Derived.Test.YtggmdjdflaglpaaGreatR03
import Derived.Test.YtggmdjdflaglpaaGreatR06
import Derived.Maps.RangeWalk
namespace Go.Proofs.YtggmdjdflaglpaaGreat
open Go.RowKit Go.Shelf
set_option linter.unusedVariables false
def Rows (w:World) (v:Value) (Ls:List By):Prop:=
 ∃b off cap,v=.slice (some ⟨b,off,none⟩) Ls.length cap/\b<w.heap.size/\Ls.length<=1000/\
  ∀(j:Nat) (l:By),Ls[j]? =some l->l≠[]/\∃vj,w.cell? ⟨b,off+j,none⟩=some vj/\Has w vj l
def total (Ls:List By):Nat:=(Ls.map List.length).sum
theorem total_take (Ls:List By) (i:Nat) (l:By) (h:Ls[i]? =some l):total (Ls.take (i+1))=total (Ls.take i)+l.length:=by
 unfold total
 rw[List.take_add_one,h]
 simp
theorem total_le (Ls:List By) (i:Nat):total (Ls.take i)<=total Ls:=by
 unfold total
 conv=>rhs;rw[<-List.take_append_drop i Ls]
 rw[List.map_append,List.sum_append]
 omega
theorem flat_take (Ls:List By) (i:Nat) (l:By) (h:Ls[i]? =some l):(Ls.take (i+1)).flatten=(Ls.take i).flatten++l:=by
 rw[List.take_add_one,h]
 simp
theorem flat_len (Ls:List By):Ls.flatten.length=total Ls:=by
 unfold total
 rw[List.length_flatten]
theorem grow_nil (n:Nat) (hn:n<=1000000) (w:World):
 Calls Tryz.prog 128 #[.slice none 0 0,.int .i64 n] w fun e w'=>∃v',e=.returned v'/\OwnB w.heap.size w' v' []/\Below w.heap.size w w':=by
 obtain⟨i0,hi,hz0,hz1,hz2⟩:=info_parts info5
 by_cases h0:n=0
 ·subst h0
  refine(Any8.slices_Grow_room growL none 0 0 0 w (by omega) (by omega) (by omega) (by omega)).mono ?_
  rintro e w' ⟨rfl,rfl⟩
  exact⟨_,rfl,OwnB.nil _ _,Below.refl _ _⟩
 ·refine(Any8.slices_Grow_grow growL i0 (.int .u8 0) hi hz0 (by omega) none 0 0 n [] w (by omega) (by omega) (by rw[hz2];omega) (by omega) (by simp) (fun _=>rfl) (fun a h=>by cases h)).mono ?_
  rintro e w' ⟨rfl,rfl⟩
  have hge:=grownCap_ge w (0+n) 0 (growL_ren.t 25)
  have hle:=grownCap_le_maxLen w (0+n) 0 (growL_ren.t 25) (by unfold maxLen;omega)
  obtain⟨cc,hcc⟩:∃cc,cc=grownCap w (0+n) 0 (growL_ren.t 25):=⟨_,rfl⟩
  rw[<-hcc]at hge hle ⊢
  refine⟨_,rfl,⟨rfl,.inr ⟨w.heap.size,_,_,rfl,Nat.le_refl _,heap_alloc_new w.drew _,Nat.zero_le _,hle,?_,by simp[bvals]⟩⟩,(Below.refl _ w).drew.alloc (by simp) _⟩
  simp[Builtin.zeroCells,Value.cells]
  omega
set_option maxHeartbeats 1000000 in
theorem concat_ok (v:Value) (Ls:List By) (w:World) (h:Rows w v Ls) (ht:total Ls<=100000):
 Calls Tryz.prog 86 #[v] w fun e w'=>∃v',e=.returned v'/\OwnB w.heap.size w' v' Ls.flatten/\Below w.heap.size w w':=by
 obtain⟨b,off,cap,rfl,hb,hL,hc⟩:=h
 obtain⟨i0,hi,hz0,hz1,hz2⟩:=info_parts info5
 obtain⟨k,hk⟩:∃k,k=Ls.length:=⟨_,rfl⟩
 rw[<-hk]at hL ⊢
 have HK:=Lib.hid hk
 clear hk
 go_enter Tryz.func86,Tryz.ntmps86
 go_wp2_with fail
 go_loopw [3,5,11] (fun s _ t wr=>∃i:Nat,t=.int .i64 i/\i<=k/\s=.int .i64 (total (Ls.take i))/\w=wr) (fun _ _ t _=>k-(intOf t).toNat)
 case atStart=>exact⟨0,rfl,by omega,rfl,rfl⟩
 case round=>
  obtain⟨i,rfl,hik,rfl,rfl⟩:=hrel
  by_cases hlt:i<k
  ·have i0':(0:Int)<=(i:Int):=by omega
   have i1:(i:Int)<(k:Int):=by omega
   obtain⟨l,hl⟩:∃l,Ls[i]? =some l:=⟨_,List.getElem?_eq_getElem (by have:=HK.out;omega)⟩
   obtain⟨hne,vj,hcell,hv⟩:=hc i l hl
   obtain⟨b1,q1,c1,rfl,_,hb1,h3,h4,h5⟩:=hv.spot hne
   have e1:=total_take Ls i l hl
   have e2:=total_le Ls (i+1)
   obtain⟨m,hm⟩:∃m,m=l.length:=⟨_,rfl⟩
   obtain⟨s0,hs0⟩:∃s0,s0=total (Ls.take i):=⟨_,rfl⟩
   rw[<-hm]at hcell e1
   rw[<-hs0]at e1 ⊢
   have b2:s0+m<=100000:=by omega
   have hng:decide ((s0:Int)+(m:Int)<0)=false:=by simp;omega
   have E1:=Lib.hid e1
   clear e1 e2 hm hs0 h5 h4 h3 hl hc
   go_wp2_with fail
   go_roundw
   case rel=>exact⟨i+1,by go_num,by omega,by rw[E1.out];go_num,by first|trivial|rfl⟩
   case measure=>simp[intOf];omega
  ·obtain rfl:i=k:=by omega
   have hd:decide ((i:Int)<(i:Int))=false:=by simp
   have hfull:Ls.take i=Ls:=List.take_of_length_le (by have:=HK.out;omega)
   rw[hfull]
   obtain⟨n,hn⟩:∃n,n=total Ls:=⟨_,rfl⟩
   rw[<-hn]at ht ⊢
   have HN:=Lib.hid hn
   have HF:=Lib.hid hfull
   have hg:=grow_nil n (by omega) w
   clear hn hfull
   go_wp2_with fail
   refine hg.mono ?_
   rintro e w1 ⟨v1,rfl,o1,l1⟩
   clear hg hd
   go_wp2_with fail
   go_loopw [6,8,27] (fun r _ t wr=>∃(j:Nat) (V:Value),V=r/\t=.int .i64 j/\j<=i/\OwnB w.heap.size wr V (Ls.take j).flatten/\Below w.heap.size w wr) (fun _ _ t _=>i-(intOf t).toNat)
   case atStart=>exact⟨0,_,rfl,rfl,by omega,by simpa using o1,l1⟩
   case round=>
    obtain⟨j,V,rfl,rfl,hji,hO,hb2⟩:=hrel
    clear o1 l1
    by_cases hlt2:j<i
    ·have j0:(0:Int)<=(j:Int):=by omega
     have j1:(j:Int)<(i:Int):=by omega
     obtain⟨l,hl⟩:∃l,Ls[j]? =some l:=⟨_,List.getElem?_eq_getElem (by have:=HK.out;omega)⟩
     obtain⟨hne,vj,hcell,hv⟩:=hc j l hl
     obtain⟨b1,q1,c1,rfl,_,hb1,h3,h4,h5⟩:=hv.spot hne
     have hcell2:=(hb2.cell (p:=⟨b,off+j,none⟩) hb).trans hcell
     have hlen:(Ls.take j).flatten.length+l.length<=100000:=by
      have:=total_take Ls j l hl
      have:=total_le Ls (j+1)
      have:=HN.out
      rw[flat_len]
      omega
     have hft:=flat_take Ls j l hl
     have hsz:=hb2.size
     clear hcell hl hc
     go_wp2_with (at_builtin;refine wpList_append_own _ rfl _ _ 32 rfl w.heap.size 5 i0 (.int .u8 0) 1 1 Tryz.underlying32 hi hz0 hz1 hz2 rfl (by decide) _ _ _ rfl hO ⟨b1,q1,none⟩ l.length c1 (bvals l) rfl (by rw[bvals_len];simp) (ex_slice (fun _=>True) _ b1 q1 c1 l (fun j u hj=>(hb2.cell (p:=⟨b1,q1+j,none⟩) hb1).trans (h5 j u hj))) (bvals_one l) (by unfold maxLen;omega) (by omega) hsz ?_;intro v' w2 hown2 hgrow2 hnil2;go_frame)
     have hO3:OwnB w.heap.size w2 v' (Ls.take (j+1)).flatten:=by rw[hft];exact OwnB.of hown2 (by simp) (by rw[bvals_app])
     have hb3:=hb2.grown hgrow2 hsz (fun k hk=>(hO.ge hk).1)
     clear hown2 hgrow2 hnil2 hft hlen
     go_roundw
     case rel=>exact⟨j+1,_,rfl,by go_num,by omega,hO3,hb3⟩
     case measure=>simp[intOf];omega
    ·obtain rfl:j=i:=by omega
     rw[HF.out]at hO
     go_wp2_with fail
     go_ret
     exact⟨_,rfl,hO,hb2⟩
end Go.Proofs.YtggmdjdflaglpaaGreat
