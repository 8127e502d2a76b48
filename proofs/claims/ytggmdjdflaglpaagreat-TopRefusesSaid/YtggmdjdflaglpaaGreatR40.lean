/- lockboxtop: acts that came in; long. lockboxtop.long: what is kept is short. A new box: what it holds; a write and a read of it (no walk). lockboxtop.known. The reference's step, as TopRefuses asks it. -/
import Derived.Test.YtggmdjdflaglpaaGreatR39
import Derived.Test.YtggmdjdflaglpaaGreatR35
import Derived.Test.YtggmdjdflaglpaaGreatR38
namespace Go.Proofs.YtggmdjdflaglpaaGreat
open Go.RowKit Go.Proofs.YtggmdjdflaglpaaGreat.geo
set_option linter.unusedVariables false
structure ActV where
 k:Int
 kd:Int
 l:Int
 N:Int
 F:Int
 data:By
 V:Option Addr
 vn:Nat
 vc:Nat
 D:Option Addr
 dn:Nat
 dc:Nat
 K:Option Addr
 kn:Nat
 kc:Nat
def ActV.cells (x:ActV):List Value:=[.int .i64 x.k,.int .i64 x.kd,.int .i64 x.l,.slice x.V x.vn x.vc,.int .i64 x.N,.int .i64 x.F,.slice x.D x.dn x.dc,.slice x.K x.kn x.kc]
structure ActAt (w:World) (b o:Nat) (x:ActV):Prop where
 cell:∀(j:Nat) (v:Value),x.cells[j]? =some v->w.cell? ⟨b,o+j,none⟩=some v
 data:HasD (fun _=>True) w (.slice x.V x.vn x.vc) x.data
 vlen:x.vn<=9223372036854775807
 dlen:x.dn<=9223372036854775807
 klen:x.kn<=9223372036854775807
def ActRow (w:World) (A:Option Addr) (len:Nat):Prop:=
 len=0\/∃b off,A=some ⟨b,off,none⟩/\b<w.heap.size/\∀i,i<len->∃x,ActAt w b (off+i*8) x
theorem ActAt.below_ {w w':World}{b o:Nat}{x:ActV}(h:ActAt w b o x) (hb:b<w.heap.size) (hw:Below w.heap.size w w'):ActAt w' b o x:=
 ⟨fun j v hv=>by rw[<-h.cell j v hv];simp only[World.cell?,hw.block b hb],h.data.below_ hw,h.vlen,h.dlen,h.klen⟩
theorem ActRow.below_ {w w':World}{A:Option Addr}{len:Nat}(h:ActRow w A len) (hw:Below w.heap.size w w'):ActRow w' A len:=by
 rcases h with h|⟨b,off,h1,h2,h3⟩
 ·exact .inl h
 ·exact .inr ⟨b,off,h1,Nat.lt_of_lt_of_le h2 hw.size,fun i hi=>by obtain⟨x,hx⟩:=h3 i hi;exact⟨x,hx.below_ h2 hw⟩⟩
def LongP (len:Nat) (w:World) (e:Ending) (w':World):Prop:=∃b,e=.returned (.bool b)/\(b=false->len<=200)/\Below w.heap.size w w'
theorem LongP.yes {len:Nat}{w w':World}(h:Below w.heap.size w w'):LongP len w (.returned (.bool true)) w':=⟨true,rfl,(fun c=>by cases c),h⟩
theorem LongP.no {len:Nat}{w w':World}(h:Below w.heap.size w w') (hl:len<=200):LongP len w (.returned (.bool false)) w':=⟨false,rfl,(fun _=>hl),h⟩
set_option maxHeartbeats 4000000 in
set_option maxRecDepth 100000 in
theorem long_ok (A:Option Addr) (len cap:Nat) (w:World) (h:ActRow w A len) (hl:len<=9223372036854775807):
 Calls Tryz.prog 6 #[.slice A len cap] w (LongP len w):=by
 have H:=Lib.hid h
 clear h
 go_enter Tryz.func6,Tryz.ntmps6
 go_wp2_with fail
 go_loopw [3] (fun t wr=>∃i:Nat,t=.int .i64 i/\i<=200/\i<=len/\Below w.heap.size w wr) (fun t _=>200-(intOf t).toNat)
 case atStart=>exact⟨0,rfl,by omega,by omega,Below.refl _ _⟩
 case round=>
  obtain⟨i,rfl,hi,hil,hq⟩:=hrel
  by_cases hlt:i<len
  ·by_cases h200:i<200
   ·rcases H.out with h0|⟨b,off,rfl,hb,hx⟩
    ·omega
    ·obtain⟨x,hx⟩:=hx i hlt
     have hx:=hx.below_ hb hq
     have m0:(0:Int)<=(i:Int):=by omega
     have m1:(i:Int)<(len:Int):=by omega
     have m2:(i:Int)<200:=by omega
     have c3:=hx.cell 3 _ rfl
     have c6:=hx.cell 6 _ rfl
     have c7:=hx.cell 7 _ rfl
     have hd:=hx.dlen
     have hk:=hx.klen
     have lb:=Nat.lt_of_lt_of_le hb hq.size
     have HQ:=Lib.hid (And.intro hq hx)
     have hvl:=hx.vlen
     obtain⟨k,kd,l,N,F,data,V,vn,vc,D,dn,dc,K,kn,kc⟩:=x
     simp only at c3 c6 c7 hd hk hvl
     clear hq hx
     by_cases g1:(300:Int)<(dn:Int)
     ·go_wp2_with fail
      go_ret
      exact LongP.yes HQ.out.1
     ·by_cases g2:(100:Int)<(vn:Int)
      ·go_wp2_with fail
       go_ret
       exact LongP.yes HQ.out.1
      ·by_cases g3:(100:Int)<(kn:Int)
       ·go_wp2_with fail
        go_ret
        exact LongP.yes HQ.out.1
       ·go_wp2_with fail
        go_roundw
        case rel=>exact⟨i+1,by go_num,by omega,by omega,HQ.out.1⟩
        case measure=>simp[intOf];omega
   ·have hi2:i=200:=by omega
    subst hi2
    have m1:(200:Int)<(len:Int):=by omega
    have HQ:=Lib.hid hq
    clear hq
    go_wp2_with fail
    go_ret
    exact LongP.yes HQ.out
  ·have hi2:i=len:=by omega
   subst hi2
   have HQ:=Lib.hid hq
   clear hq
   have hno:¬((200:Int)<(i:Int)):=by omega
   go_wp2_with fail
   go_ret
   exact LongP.no HQ.out hi
end Go.Proofs.YtggmdjdflaglpaaGreat
namespace Go.Proofs.YtggmdjdflaglpaaGreat
open Go.RowKit Go.Proofs.YtggmdjdflaglpaaGreat.geo
set_option linter.unusedVariables false
def KnOk (w:World) (A:Option Addr) (i:Nat):Prop:=∀b off,A=some ⟨b,off,none⟩->∀j,j<i->∀x,ActAt w b (off+j*8) x->x.kn<=100
theorem kn_zero (w:World) (A:Option Addr):KnOk w A 0:=fun b off _ j hj=>absurd hj (Nat.not_lt_zero j)
theorem ActAt.kn_same {w:World}{b o:Nat}{x y:ActV}(h:ActAt w b o x) (h':ActAt w b o y):x.kn=y.kn:=by
 have h1:=h.cell 7 _ rfl
 have h2:=h'.cell 7 _ rfl
 rw[h1]at h2
 injection h2 with h2
 injection h2
theorem kn_succ {w:World}{b off i:Nat}{x:ActV}(h:KnOk w (some ⟨b,off,none⟩) i) (hx:ActAt w b (off+i*8) x) (hk:x.kn<=100):KnOk w (some ⟨b,off,none⟩) (i+1):=fun b' off' e j hj y hy=>by
 injection e with e
 injection e with e1 e2 e3
 subst e1 e2
 by_cases c:j<i
 ·exact h b off rfl j c y hy
 ·have:j=i:=by omega
  subst this
  rw[hy.kn_same hx];exact hk
def LongX (A:Option Addr) (len:Nat) (w:World) (e:Ending) (w':World):Prop:=∃b,e=.returned (.bool b)/\(b=false->len<=200/\KnOk w A len)/\Below w.heap.size w w'
theorem LongX.yes {A:Option Addr}{len:Nat}{w w':World}(h:Below w.heap.size w w'):LongX A len w (.returned (.bool true)) w':=⟨true,rfl,(fun c=>by cases c),h⟩
theorem LongX.no {A:Option Addr}{len:Nat}{w w':World}(h:Below w.heap.size w w') (hl:len<=200) (hk:KnOk w A len):LongX A len w (.returned (.bool false)) w':=⟨false,rfl,(fun _=>⟨hl,hk⟩),h⟩
set_option maxHeartbeats 4000000 in
set_option maxRecDepth 100000 in
theorem longx_ok (A:Option Addr) (len cap:Nat) (w:World) (h:ActRow w A len) (hl:len<=9223372036854775807):
 Calls Tryz.prog 6 #[.slice A len cap] w (LongX A len w):=by
 have H:=Lib.hid h
 clear h
 go_enter Tryz.func6,Tryz.ntmps6
 go_wp2_with fail
 go_loopw [3] (fun t wr=>∃i:Nat,t=.int .i64 i/\i<=200/\i<=len/\Below w.heap.size w wr/\KnOk w A i) (fun t _=>200-(intOf t).toNat)
 case atStart=>exact⟨0,rfl,by omega,by omega,Below.refl _ _,kn_zero w A⟩
 case round=>
  obtain⟨i,rfl,hi,hil,hq,hkn⟩:=hrel
  have HKN:=Lib.hid hkn
  clear hkn
  by_cases hlt:i<len
  ·by_cases h200:i<200
   ·rcases H.out with h0|⟨b,off,rfl,hb,hx⟩
    ·omega
    ·obtain⟨x,hx⟩:=hx i hlt
     have HX0:=Lib.hid hx
     have hx:=hx.below_ hb hq
     have m0:(0:Int)<=(i:Int):=by omega
     have m1:(i:Int)<(len:Int):=by omega
     have m2:(i:Int)<200:=by omega
     have c3:=hx.cell 3 _ rfl
     have c6:=hx.cell 6 _ rfl
     have c7:=hx.cell 7 _ rfl
     have hd:=hx.dlen
     have hk:=hx.klen
     have lb:=Nat.lt_of_lt_of_le hb hq.size
     have HQ:=Lib.hid (And.intro hq hx)
     have hvl:=hx.vlen
     obtain⟨k,kd,l,N,F,data,V,vn,vc,D,dn,dc,K,kn,kc⟩:=x
     simp only at c3 c6 c7 hd hk hvl
     clear hq hx
     by_cases g1:(300:Int)<(dn:Int)
     ·go_wp2_with fail
      go_ret
      exact LongX.yes HQ.out.1
     ·by_cases g2:(100:Int)<(vn:Int)
      ·go_wp2_with fail
       go_ret
       exact LongX.yes HQ.out.1
      ·by_cases g3:(100:Int)<(kn:Int)
       ·go_wp2_with fail
        go_ret
        exact LongX.yes HQ.out.1
       ·go_wp2_with fail
        go_roundw
        case rel=>exact⟨i+1,by go_num,by omega,by omega,HQ.out.1,kn_succ HKN.out HX0.out (by simp only;omega)⟩
        case measure=>simp[intOf];omega
   ·have hi2:i=200:=by omega
    subst hi2
    have m1:(200:Int)<(len:Int):=by omega
    have HQ:=Lib.hid hq
    clear hq
    go_wp2_with fail
    go_ret
    exact LongX.yes HQ.out
  ·have hi2:i=len:=by omega
   subst hi2
   have HQ:=Lib.hid hq
   clear hq
   have hno:¬((200:Int)<(i:Int)):=by omega
   go_wp2_with fail
   go_ret
   exact LongX.no HQ.out hi HKN.out
end Go.Proofs.YtggmdjdflaglpaaGreat
namespace Go.Proofs.YtggmdjdflaglpaaGreat
open Go.RowKit Go.Proofs.YtggmdjdflaglpaaGreat.geo
open Go.Proofs.YtggmdjdflaglpaaGreat.r27 (okc upd)
set_option linter.unusedVariables false
theorem newC_lf (n seed:Nat) (i:Bool) (j:Nat):(newC n seed i).lf j=Lf.no:=by
 show(newC n seed i).now.getD j Lf.no=_
 rw[(newC_same n seed i).1,List.getD_eq_getElem?_getD,List.getElem?_replicate]
 split<;>rfl
theorem newC_was (n seed:Nat) (i:Bool):(newC n seed i).was=List.replicate n Lf.no:=
 (ctouchs_now ⟨(newW n seed i).bot,⟨(newW n seed i).bot.cnt.boots,0⟩,List.replicate n Lf.no,List.replicate n Lf.no,[],0,false⟩ (List.replicate n Lf.no).length).2.1
theorem newC_inv (n seed:Nat) (i:Bool):Inv (newC n seed i) (fun _=>nought):=by
 have hl:=newC_lf n seed i
 have hs:=newC_same n seed i
 refine⟨fun s h=>?_,fun s h=>rfl,fun s s' h=>?_,fun x hx _=>?_,fun x hx=>by simp[nought],?_,hs.2.2.2⟩
 ·rw[hl]at h;exact absurd h (by decide)
 ·rw[hl]at h;exact absurd rfl h
 ·rw[hs.2.1,newW_bot];rfl
 ·rw[hs.2.1,newW_bot];exact⟨rfl,rfl⟩
theorem newC_free (n seed:Nat) (i:Bool) (hn:0<n):0<=free (newC n seed i):=by
 refine free_yes (i:=0) ?_ (by rw[newC_lf];rfl) ?_
 ·rw[(newC_same n seed i).1,List.length_replicate];exact hn
 ·rw[newC_was,List.getD_eq_getElem?_getD,List.getElem?_replicate,if_pos hn];rfl
theorem newC_write (n seed:Nat) (i:Bool) (hV:V n) {x:Nat}(hx:x<32) {data:By}(hd:data.length=32):
 (cdo (newC n seed i) 2 x data).1=0/\Inv (cdo (newC n seed i) 2 x data).2.2 (upd (fun _=>nought) x data):=by
 have hi:=newC_inv n seed i
 have hC:=(newC_cin n seed i hV).cok
 have hok:okc 2 (x:Int) data.length:=.inr (.inl ⟨rfl,⟨by omega,by omega⟩,hd⟩)
 have hn:0<n:=by unfold V at hV;omega
 have hf:=newC_free n seed i hn
 have hm:(newC n seed i).M.n=0:=by rw[(newC_same n seed i).2.2.1]
 have e0:(cdo (newC n seed i) 2 x data).1=(cwrite (newC n seed i) x data).1:=by
  unfold cdo
  rw[if_neg (by rw[hi.on.1];simp),if_neg (by rw[hi.pois];simp),if_neg (not_not_intro hok),if_neg (by decide),if_pos rfl,Int.toNat_natCast]
 have hr:croom (newC n seed i)=(0,newC n seed i):=by unfold croom;rw[if_pos hf]
 have e1:(cwrite (newC n seed i) x data).1=0:=by
  unfold cwrite
  rw[hr,if_neg (by simp)]
  simp only
  have hc:(clay (newC n seed i) (free (newC n seed i)).toNat x data true).1=0:=by
   rcases clay_err (newC n seed i) (free (newC n seed i)).toNat x data true with⟨e,_⟩|⟨_,_,e⟩|⟨_,_,_,e⟩
   ·exact e
   ·rw[hm]at e;cases e
   ·rw[hi.on.spend.1]at e;cases e
  rw[if_neg (by rw[hc];simp)]
 rcases hi.do_ hC (by omega) hok with⟨h1,h2,h3⟩|⟨h1,_⟩
 ·refine⟨h1,?_⟩
  have:bnext (fun _=>nought) 2 (x:Int) data=upd (fun _=>nought) x data:=by unfold bnext;rw[if_pos rfl,Int.toNat_natCast]
  rw[<-this];exact h3
 ·rw[e0,e1]at h1
  rcases h1 with h1|h1<;>cases h1
theorem Inv.do_read {C:Cch}{B:Nat->By}{k t:Nat}(h:Inv C B) (hC:Cok C k t) {x:Nat}(hx:x<32) (data:By):(cdo C 1 x data).1=0/\(cdo C 1 x data).2.1=B x:=by
 have hok:okc 1 (x:Int) data.length:=.inl ⟨.inl rfl,by omega,by omega⟩
 have e:cdo C 1 x data=cread C x:=by
  unfold cdo
  rw[if_neg (by rw[h.on.1];simp),if_neg (by rw[h.pois];simp),if_neg (not_not_intro hok),if_pos rfl,Int.toNat_natCast]
 rw[e]
 exact⟨(h.read hC hx).1,(h.read hC hx).2.1⟩
end Go.Proofs.YtggmdjdflaglpaaGreat
namespace Go.Proofs.YtggmdjdflaglpaaGreat
open Go.RowKit Go.Proofs.YtggmdjdflaglpaaGreat.geo
open Go.Proofs.YtggmdjdflaglpaaGreat.r27 (okc upd)
set_option linter.unusedVariables false
theorem conv_hasp {p:Nat->Prop}{w:World}{b o n c:Nat}{l:By}(h:HasP p w (.slice (some ⟨b,o,none⟩) n c) l) (hl:l.length=n) (hn:0<n):(convert 32 9 (.slice (some ⟨b,o,none⟩) n c)).run Tryz.prog w=.ok (.string (r27.str l)) w:=by
 have h2:=run_convert_bytes_back (P:=Tryz.prog) w 32 9 5 ⟨b,o,none⟩ c l Tryz.underlying32 Tryz.underlying5 Tryz.underlying9 (fun j hj=>by
  rcases h with⟨h1,_⟩|⟨b',o',cap,h1,_,_,_,_,h6⟩
  ·cases h1
  ·injection h1 with e1 e2 e3
   injection e1 with e1
   injection e1 with e4 e5
   subst e4 e5
   rw[add_plain]
   exact h6 j _ (List.getElem?_eq_getElem hj))
 rw[hl]at h2
 exact h2
theorem field38 (a b:Value) (w:World):(Instr.field 38 (.agg #[a,b]) 0).run Tryz.prog w=.ok a w:=by kernel_rfl
theorem s2k {w:World}{g:Nat}{a b:Value}(h:Blk w g 38 #[a,b]):w.cell? ⟨g,0,none⟩=some a/\w.cell? ⟨g,1,none⟩=some b:=⟨h.cell_ 0 rfl,h.cell_ 1 rfl⟩
set_option maxHeartbeats 8000000 in
set_option maxRecDepth 100000 in
theorem tknown_ok (HO:OpenOk) (HS:SumOk) (HT:ShutOk) (w:World):Calls Tryz.prog 12 #[] w fun e w'=>e=.returned (.bool true)/\Below w.heap.size w w':=by
 have hV4:V ((4:Nat):Int):=by unfold V;omega
 have hbl:∀W:World,Calls Tryz.prog 24 #[.int .u8 5] W fun e w'=>e=.returned (.slice (some ⟨W.heap.size,0,none⟩) 32 32)/\Blk w' W.heap.size 5 (bvals (fillB 5 32)).toArray/\Below W.heap.size W w':=fun W=>tblock_ok 5 W
 go_enter Tryz.func12,Tryz.ntmps12
 go_wp2_with fail
 go_loopw [1] (fun t wr=>∃k:Nat,t=.int .i64 k/\k<=2/\∃ρr,Ste rtC (fun _=>0) w ρr wr) (fun t _=>2-(intOf t).toNat)
 case atStart=>exact⟨0,rfl,by omega,fun _=>0,Ste.refl _ (fun _ _=>rfl)⟩
 case round=>
  obtain⟨k,rfl,hk,hst⟩:=hrel
  have hk3:k=0\/k=1\/k=2:=by omega
  rcases hk3 with rfl|rfl|rfl
  ·
   obtain⟨ρr,hst⟩:=hst
   have hp:Calls Tryz.prog 7 #[.int .i64 4,.int .u64 1,.bool true] wr fun e w'=>∃bx,e=.returned (.tuple #[.pointer (some ⟨bx,0,none⟩),.int .i64 0])/\∃ρ' a cc m ag,BoxR ρ' w' bx a cc m ag (.slice none 0 0) (newC 4 1 true)/\Ste rtC ρr wr ρ' w':=pnew_box HO HS HT 4 1 true wr ρr hst.fresh hV4 (by omega)
   go_wp2_with fail
   refine hp.mono ?_
   rintro e w1 ⟨bx,rfl,ρ1,a,cc,m,ag,hB1,s1⟩
   clear hp
   have HB1:=Lib.hid (And.intro hB1 (hst.trans s1))
   clear hB1 s1 hst
   go_wp2_with fail
   refine(hbl w1).mono ?_
   rintro e w2 ⟨rfl,bB2,q2⟩
   have HB2:=Lib.hid (And.intro bB2 q2)
   clear bB2 q2
   go_wp2_with fail
   refine(tcall_ok 2 3 (some ⟨w1.heap.size,0,none⟩) 32 32 w2).mono ?_
   rintro e w3 ⟨rfl,q3⟩
   obtain⟨hB1,st1⟩:=HB1.out
   obtain⟨bB2,q2⟩:=HB2.out
   have q13:Below w1.heap.size w1 w3:=q2.trans (q3.mono q2.size)
   have hB3:BoxR ρ1 w3 bx a cc m ag (.slice none 0 0) (newC 4 1 true):=hB1.keep q13.size (fun b hb _=>⟨q13.block b hb,rfl⟩)
   have hf3:Fresh ρ1 w3:=fun i hi=>st1.fresh i (Nat.le_trans q13.size hi)
   have st3:Ste rtC (fun _=>0) w ρ1 w3:=st1.trans (Ste.of_below q13 st1.fresh)
   have hd3:HasP (fun b=>¬rtC (ρ1 b)) w3 (.slice (some ⟨w1.heap.size,0,none⟩) 32 32) (fillB 5 32):=by
    have h:=(HasP.of_blk (p:=fun b=>¬rtC (ρ1 b)) bB2 (by rw[fillB_len 5 32 (Nat.le_refl _)];unfold maxLen;omega) (by show ¬rtC (ρ1 w1.heap.size);rw[st1.fresh _ (Nat.le_refl _)];exact rtC0)).below_ q3
    rw[fillB_len 5 32 (Nat.le_refl _)]at h
    exact h
   have hdo:=bdo_call HO HS HT ρ1 bx a cc m ag (.slice none 0 0) (newC 4 1 true) 1 16 2 3 0 0 (fillB 5 32) (.slice (some ⟨w1.heap.size,0,none⟩) 32 32) none none 0 0 0 0 w3 hf3 hB3 (newC_cin 4 1 true hV4) (by omega) (by omega) (HasD.of hd3)
   have hwr:=newC_write 4 1 true hV4 (x:=3) (by omega) (data:=fillB 5 32) (fillB_len 5 32 (Nat.le_refl _))
   have hcin:=(newC_cin 4 1 true hV4).do_ (by omega) 2 3 (fillB 5 32)
   obtain⟨R,hR⟩:∃R,R=cdo (newC 4 1 true) 2 3 (fillB 5 32):=⟨_,rfl⟩
   have hwr1:R.1=0:=by rw[hR];exact hwr.1
   have hwr2:Inv R.2.2 (upd (fun _=>nought) 3 (fillB 5 32)):=by rw[hR];exact hwr.2
   rw[<-hR]at hdo hcin
   obtain⟨er,bb,C1⟩:=R
   simp only at hwr1 hwr2 hdo hcin
   subst hwr1
   have HS3:=Lib.hid (And.intro st3 (And.intro hwr2 hcin))
   clear hR hwr hB3 hf3 hd3 q13 bB2 q2 hB1 st1 q3 st3 hwr2 hcin
   go_wp2_with fail
   refine hdo.mono ?_
   rintro e w4 ⟨v4,rfl,ρ4,ag4,hv4,hB4,s4⟩
   clear hdo
   obtain⟨A4,z4,rfl⟩:=hv4.slice
   obtain⟨st3,hwr2,hcin⟩:=HS3.out
   have HB4:=Lib.hid (And.intro hB4 (And.intro (st3.trans s4) (And.intro hwr2 hcin)))
   have hf38:=fun W=>field38 (.int .i64 0) (.slice A4 bb.length z4) W
   clear hv4 hB4 s4 st3 hwr2 hcin
   go_wp2_with fail
   refine(tcall_ok 1 3 none 0 0 w4).mono ?_
   rintro e w5 ⟨rfl,q5⟩
   clear hf38
   obtain⟨hB4,st4,hwr2,hcin⟩:=HB4.out
   have hB5:BoxR ρ4 w5 bx a cc m ag4 (.slice none 0 0) C1:=hB4.keep q5.size (fun b hb _=>⟨q5.block b hb,rfl⟩)
   have hf5:Fresh ρ4 w5:=fun i hi=>st4.fresh i (Nat.le_trans q5.size hi)
   have st5:Ste rtC (fun _=>0) w ρ4 w5:=st4.trans (Ste.of_below q5 st4.fresh)
   have hdo:=bdo_call HO HS HT ρ4 bx a cc m ag4 (.slice none 0 0) C1 (1+140) (16+1) 1 3 0 0 [] (.slice none 0 0) none none 0 0 0 0 w5 hf5 hB5 hcin (by omega) (by omega) (HasD.of (.inl ⟨rfl,rfl⟩))
   have hrd:=hwr2.do_read hcin.cok (x:=3) (by omega) []
   obtain⟨R,hR⟩:∃R,R=cdo C1 1 3 []:=⟨_,rfl⟩
   have hrd1:R.1=0:=by rw[hR];exact hrd.1
   have hrd2:R.2.1=fillB 5 32:=by rw[hR];exact hrd.2
   rw[<-hR]at hdo
   obtain⟨er2,b2,C2⟩:=R
   simp only at hrd1 hrd2 hdo
   subst hrd1
   subst hrd2
   have HS5:=Lib.hid st5
   clear hR hrd hB5 hf5 hB4 st4 hwr2 hcin q5 st5
   go_wp2_with fail
   refine hdo.mono ?_
   rintro e w6 ⟨v6,rfl,ρ6,ag6,hv6,hB6,s6⟩
   clear hdo
   have hl32:=fillB_len 5 32 (Nat.le_refl _)
   obtain⟨g6,o6,z6,rfl,hz6,hg6,_,_,_⟩:=hv6.eight hl32 (by omega)
   obtain⟨W7,hW7⟩:∃W7,W7=w6.alloc (.cells #[.int .i64 0,.slice (some ⟨g6,o6,none⟩) 32 z6] 38):=⟨_,rfl⟩
   have st6:Ste rtC (fun _=>0) w ρ6 w6:=HS5.out.trans s6
   have q7:Below w6.heap.size w6 W7.drew:=by rw[hW7];exact((Below.refl _ _).alloc (Nat.le_refl _) _).drew
   have b7:Blk W7.drew w6.heap.size 38 #[.int .i64 0,.slice (some ⟨g6,o6,none⟩) 32 z6]:=by rw[hW7];exact(Blk.new w6 38 _).drew
   have hv7:=hv6.below_ q7
   have k1:=conv_hasp hv7 hl32 (by omega)
   have HW7:=Lib.hid hW7
   have HS7:=Lib.hid st6
   clear hW7 st6 hv6 hB6 s6 hz6
   go_wp2_with fail
   rw[<-HW7.out]
   have c0:=b7.cell_ 0 rfl
   have c1:=b7.cell_ 1 rfl
   have cl:=b7.lt
   go_region_law
    (first
      |(go_simp;go_at_call 24;refine(hbl _).mono ?_;rintro e w8 ⟨rfl,b8,q8⟩;replace b7:=b7.below_ q8;replace hv7:=hv7.below_ q8;replace q7:=q7.trans (q8.mono q7.size);replace c0:=b7.cell_ 0 rfl;replace c1:=b7.cell_ 1 rfl;replace cl:=b7.lt;replace k1:=conv_hasp hv7 hl32 (by omega);have hv8:=HasP.of_blk (p:=fun _=>True) b8 (by rw[hl32];unfold maxLen;omega) trivial;rw[hl32]at hv8;have k2:(convert 32 9 (.slice (some ⟨W7.heap.size,0,none⟩) 32 32)).run Tryz.prog w8=.ok (.string (r27.str (fillB 5 32))) w8:=conv_hasp hv8 hl32 (by omega)))
   all_goals
    have HQ:=Lib.hid (HS7.out.trans (Ste.of_below q7 HS7.out.fresh))
    clear b7 hv7 q7 c0 c1 k1 k2 q8 b8 hv8
    go_wp2_with fail
    go_roundw
    case rel=>exact⟨1,by go_num,by omega,_,HQ.out⟩
    case measure=>simp[intOf]
  ·
   obtain⟨ρr,hst⟩:=hst
   have hp:Calls Tryz.prog 7 #[.int .i64 4,.int .u64 1,.bool false] wr fun e w'=>∃bx,e=.returned (.tuple #[.pointer (some ⟨bx,0,none⟩),.int .i64 0])/\∃ρ' a cc m ag,BoxR ρ' w' bx a cc m ag (.slice none 0 0) (newC 4 1 false)/\Ste rtC ρr wr ρ' w':=pnew_box HO HS HT 4 1 false wr ρr hst.fresh hV4 (by omega)
   go_wp2_with fail
   refine hp.mono ?_
   rintro e w1 ⟨bx,rfl,ρ1,a,cc,m,ag,hB1,s1⟩
   clear hp
   have HB1:=Lib.hid (And.intro hB1 (hst.trans s1))
   clear hB1 s1 hst
   go_wp2_with fail
   refine(hbl w1).mono ?_
   rintro e w2 ⟨rfl,bB2,q2⟩
   have HB2:=Lib.hid (And.intro bB2 q2)
   clear bB2 q2
   go_wp2_with fail
   refine(tcall_ok 2 3 (some ⟨w1.heap.size,0,none⟩) 32 32 w2).mono ?_
   rintro e w3 ⟨rfl,q3⟩
   obtain⟨hB1,st1⟩:=HB1.out
   obtain⟨bB2,q2⟩:=HB2.out
   have q13:Below w1.heap.size w1 w3:=q2.trans (q3.mono q2.size)
   have hB3:BoxR ρ1 w3 bx a cc m ag (.slice none 0 0) (newC 4 1 false):=hB1.keep q13.size (fun b hb _=>⟨q13.block b hb,rfl⟩)
   have hf3:Fresh ρ1 w3:=fun i hi=>st1.fresh i (Nat.le_trans q13.size hi)
   have st3:Ste rtC (fun _=>0) w ρ1 w3:=st1.trans (Ste.of_below q13 st1.fresh)
   have hd3:HasP (fun b=>¬rtC (ρ1 b)) w3 (.slice (some ⟨w1.heap.size,0,none⟩) 32 32) (fillB 5 32):=by
    have h:=(HasP.of_blk (p:=fun b=>¬rtC (ρ1 b)) bB2 (by rw[fillB_len 5 32 (Nat.le_refl _)];unfold maxLen;omega) (by show ¬rtC (ρ1 w1.heap.size);rw[st1.fresh _ (Nat.le_refl _)];exact rtC0)).below_ q3
    rw[fillB_len 5 32 (Nat.le_refl _)]at h
    exact h
   have hdo:=bdo_call HO HS HT ρ1 bx a cc m ag (.slice none 0 0) (newC 4 1 false) 1 16 2 3 0 0 (fillB 5 32) (.slice (some ⟨w1.heap.size,0,none⟩) 32 32) none none 0 0 0 0 w3 hf3 hB3 (newC_cin 4 1 false hV4) (by omega) (by omega) (HasD.of hd3)
   have hwr:=newC_write 4 1 false hV4 (x:=3) (by omega) (data:=fillB 5 32) (fillB_len 5 32 (Nat.le_refl _))
   have hcin:=(newC_cin 4 1 false hV4).do_ (by omega) 2 3 (fillB 5 32)
   obtain⟨R,hR⟩:∃R,R=cdo (newC 4 1 false) 2 3 (fillB 5 32):=⟨_,rfl⟩
   have hwr1:R.1=0:=by rw[hR];exact hwr.1
   have hwr2:Inv R.2.2 (upd (fun _=>nought) 3 (fillB 5 32)):=by rw[hR];exact hwr.2
   rw[<-hR]at hdo hcin
   obtain⟨er,bb,C1⟩:=R
   simp only at hwr1 hwr2 hdo hcin
   subst hwr1
   have HS3:=Lib.hid (And.intro st3 (And.intro hwr2 hcin))
   clear hR hwr hB3 hf3 hd3 q13 bB2 q2 hB1 st1 q3 st3 hwr2 hcin
   go_wp2_with fail
   refine hdo.mono ?_
   rintro e w4 ⟨v4,rfl,ρ4,ag4,hv4,hB4,s4⟩
   clear hdo
   obtain⟨A4,z4,rfl⟩:=hv4.slice
   obtain⟨st3,hwr2,hcin⟩:=HS3.out
   have HB4:=Lib.hid (And.intro hB4 (And.intro (st3.trans s4) (And.intro hwr2 hcin)))
   have hf38:=fun W=>field38 (.int .i64 0) (.slice A4 bb.length z4) W
   clear hv4 hB4 s4 st3 hwr2 hcin
   go_wp2_with fail
   refine(tcall_ok 1 3 none 0 0 w4).mono ?_
   rintro e w5 ⟨rfl,q5⟩
   clear hf38
   obtain⟨hB4,st4,hwr2,hcin⟩:=HB4.out
   have hB5:BoxR ρ4 w5 bx a cc m ag4 (.slice none 0 0) C1:=hB4.keep q5.size (fun b hb _=>⟨q5.block b hb,rfl⟩)
   have hf5:Fresh ρ4 w5:=fun i hi=>st4.fresh i (Nat.le_trans q5.size hi)
   have st5:Ste rtC (fun _=>0) w ρ4 w5:=st4.trans (Ste.of_below q5 st4.fresh)
   have hdo:=bdo_call HO HS HT ρ4 bx a cc m ag4 (.slice none 0 0) C1 (1+140) (16+1) 1 3 0 0 [] (.slice none 0 0) none none 0 0 0 0 w5 hf5 hB5 hcin (by omega) (by omega) (HasD.of (.inl ⟨rfl,rfl⟩))
   have hrd:=hwr2.do_read hcin.cok (x:=3) (by omega) []
   obtain⟨R,hR⟩:∃R,R=cdo C1 1 3 []:=⟨_,rfl⟩
   have hrd1:R.1=0:=by rw[hR];exact hrd.1
   have hrd2:R.2.1=fillB 5 32:=by rw[hR];exact hrd.2
   rw[<-hR]at hdo
   obtain⟨er2,b2,C2⟩:=R
   simp only at hrd1 hrd2 hdo
   subst hrd1
   subst hrd2
   have HS5:=Lib.hid st5
   clear hR hrd hB5 hf5 hB4 st4 hwr2 hcin q5 st5
   go_wp2_with fail
   refine hdo.mono ?_
   rintro e w6 ⟨v6,rfl,ρ6,ag6,hv6,hB6,s6⟩
   clear hdo
   have hl32:=fillB_len 5 32 (Nat.le_refl _)
   obtain⟨g6,o6,z6,rfl,hz6,hg6,_,_,_⟩:=hv6.eight hl32 (by omega)
   obtain⟨W7,hW7⟩:∃W7,W7=w6.alloc (.cells #[.int .i64 0,.slice (some ⟨g6,o6,none⟩) 32 z6] 38):=⟨_,rfl⟩
   have st6:Ste rtC (fun _=>0) w ρ6 w6:=HS5.out.trans s6
   have q7:Below w6.heap.size w6 W7.drew:=by rw[hW7];exact((Below.refl _ _).alloc (Nat.le_refl _) _).drew
   have b7:Blk W7.drew w6.heap.size 38 #[.int .i64 0,.slice (some ⟨g6,o6,none⟩) 32 z6]:=by rw[hW7];exact(Blk.new w6 38 _).drew
   have hv7:=hv6.below_ q7
   have k1:=conv_hasp hv7 hl32 (by omega)
   have HW7:=Lib.hid hW7
   have HS7:=Lib.hid st6
   clear hW7 st6 hv6 hB6 s6 hz6
   go_wp2_with fail
   rw[<-HW7.out]
   have c0:=b7.cell_ 0 rfl
   have c1:=b7.cell_ 1 rfl
   have cl:=b7.lt
   go_region_law
    (first
      |(go_simp;go_at_call 24;refine(hbl _).mono ?_;rintro e w8 ⟨rfl,b8,q8⟩;replace b7:=b7.below_ q8;replace hv7:=hv7.below_ q8;replace q7:=q7.trans (q8.mono q7.size);replace c0:=b7.cell_ 0 rfl;replace c1:=b7.cell_ 1 rfl;replace cl:=b7.lt;replace k1:=conv_hasp hv7 hl32 (by omega);have hv8:=HasP.of_blk (p:=fun _=>True) b8 (by rw[hl32];unfold maxLen;omega) trivial;rw[hl32]at hv8;have k2:(convert 32 9 (.slice (some ⟨W7.heap.size,0,none⟩) 32 32)).run Tryz.prog w8=.ok (.string (r27.str (fillB 5 32))) w8:=conv_hasp hv8 hl32 (by omega)))
   all_goals
    have HQ:=Lib.hid (HS7.out.trans (Ste.of_below q7 HS7.out.fresh))
    clear b7 hv7 q7 c0 c1 k1 k2 q8 b8 hv8
    go_wp2_with fail
    go_roundw
    case rel=>exact⟨2,by go_num,by omega,_,HQ.out⟩
    case measure=>simp[intOf]
  ·obtain⟨ρr,hst⟩:=hst
   have HQ:=Lib.hid (hst.below (Nat.le_refl _) (fun _ _=>rtC0))
   clear hst
   go_wp2_with fail
   go_ret
   exact⟨rfl,HQ.out⟩
end Go.Proofs.YtggmdjdflaglpaaGreat
namespace Go.Proofs.YtggmdjdflaglpaaGreat
open Go.RowKit Go.Proofs.YtggmdjdflaglpaaGreat.geo
open Go.Proofs.YtggmdjdflaglpaaGreat.r27 (okc upd RI rnew_ok rdo_bad rdo_read rdo_write rdo_discard rdo_flush Data32 zeros)
set_option linter.unusedVariables false
def Cv (w:World) (v:Value) (l:By):Prop:=∀o o':Obj,(convert 32 9 v).run Tryz.prog ((w.alloc o).alloc o')=.ok (.string (r27.str l)) ((w.alloc o).alloc o')
theorem Cv.nil (w:World):Cv w (.slice none 0 0) []:=fun o o'=>run_convert_bytes_nil (P:=Tryz.prog) _ 32 5 Tryz.underlying32 Tryz.underlying5 0 0 9 Tryz.underlying9
theorem Cv.hasp {p:Nat->Prop}{w:World}{v:Value}{l:By}(h:HasP p w v l):Cv w v l:=fun o o'=>by
 have h2:=(h.alloc o).alloc o'
 rcases h2 with⟨rfl,rfl⟩|⟨b,q,cap,rfl,_,_,_,_,h6⟩
 ·exact Cv.nil w o o'
 ·exact run_convert_bytes_back (P:=Tryz.prog) _ 32 9 5 ⟨b,q,none⟩ cap l Tryz.underlying32 Tryz.underlying5 Tryz.underlying9 (fun j hj=>by rw[add_plain];exact h6 j _ (List.getElem?_eq_getElem hj))
theorem Cv.has {w:World}{b c:Nat}{l:By}(h:r27.Has w (.slice (some ⟨b,0,none⟩) 32 c) l):Cv w (.slice (some ⟨b,0,none⟩) 32 c) l:=fun o o'=>r27.conv_has _ b c l ((h.alloc o).alloc o')
set_option maxHeartbeats 2000000 in
theorem tsame_ok (e:Int) (A A':Option Addr) (n n' c c':Nat) (l:By) (w:World) (h1:Cv w (.slice A n c) l) (h2:Cv w (.slice A' n' c') l):
 Calls Tryz.prog 11 #[.agg #[.int .i64 e,.slice A n c],.agg #[.int .i64 e,.slice A' n' c']] w fun e w'=>e=.returned (.bool true)/\Below w.heap.size w w':=by
 have k1:=h1
 have k2:=h2
 unfold Cv at k1 k2
 clear h1 h2
 go_enter Tryz.func11,Tryz.ntmps11
 go_wp2_with fail
 go_ret
 exact⟨rfl,((Below.refl _ _).alloc (Nat.le_refl _) _).alloc (by simp) _⟩
theorem grown_of_below {w w':World}{g:Nat}(h:Below w.heap.size w w'):w.grownBy w' (some g):=⟨h.os,h.tape,h.output,h.size,fun i hi _=>h.block i hi⟩
theorem data32_of {p:Nat->Prop}{w:World}{A:Option Addr}{c:Nat}{l:By}(h:HasP p w (.slice A 32 c) l) (hl:l.length=32):Data32 w A l:=by
 rcases h with⟨_,rfl⟩|⟨b,o,cap,h1,_,h3,_,_,h6⟩
 ·simp at hl
 ·injection h1 with e1 _ _
  exact⟨hl,b,o,e1,h3,h6⟩
def RsP (g:Nat) (er:Int) (bb:By) (B:Nat->By) (W:World) (e:Ending) (w':World):Prop:=
 ∃A n c L',e=.returned (.agg #[.int .i64 er,.slice A n c])/\Cv w' (.slice A n c) bb/\RI w' g B L'/\W.grownBy w' (some g)
theorem rstep_bad (g:Nat) (kd l:Int) (V:Option Addr) (vn vc:Nat) (B L:Nat->By) (W:World) (h:RI W g B L) (hb:¬okc kd l vn):
 Calls Tryz.prog 14 #[.pointer (some ⟨g,0,none⟩),.agg #[.int .i64 kd,.int .i64 l,.slice V vn vc]] W (RsP g 1 [] B W):=by
 refine(rdo_bad g kd l V vn vc W hb).mono ?_
 rintro e w1 ⟨rfl,q⟩
 exact⟨_,_,_,L,rfl,Cv.nil _,(q.block g (Blk.lt h)).trans h,grown_of_below q⟩
theorem rstep_ok (p:Nat->Prop) (g:Nat) (kd l:Int) (V:Option Addr) (vn vc:Nat) (data:By) (B L:Nat->By) (W:World) (h:RI W g B L) (hd:HasD p W (.slice V vn vc) data) (hlen:∀x,x<32->(B x).length=32) (hok:okc kd l data.length):
 Calls Tryz.prog 14 #[.pointer (some ⟨g,0,none⟩),.agg #[.int .i64 kd,.int .i64 l,.slice V vn vc]] W (RsP g 0 (btell B kd l) (bnext B kd l data) W):=by
 rcases hok with⟨hk',l0,l1⟩|⟨rfl,⟨l0,l1⟩,hn⟩|hk'
 ·obtain⟨x,rfl⟩:∃x:Nat,l=x:=⟨l.toNat,by omega⟩
  rcases hk' with rfl|rfl
  ·refine(rdo_read g x V vn vc B L W h (by omega) (hlen x (by omega))).mono ?_
   rintro e w1 ⟨a,c',rfl,hh,q⟩
   exact⟨_,_,_,L,rfl,Cv.has hh,(q.block g (Blk.lt h)).trans h,grown_of_below q⟩
  ·refine(rdo_discard g x V vn vc B L W h (by omega)).mono ?_
   rintro e w1 ⟨rfl,hr,q⟩
   exact⟨_,_,_,L,rfl,Cv.nil _,hr,q⟩
 ·obtain⟨x,rfl⟩:∃x:Nat,l=x:=⟨l.toNat,by omega⟩
  obtain⟨A',c',he⟩:=hd.slice
  injection he with e1 e2 e3
  rw[hn]at e2
  subst e2
  refine(rdo_write g x V vc data B L W h (by omega) (data32_of (hd.has hn) hn)).mono ?_
  rintro e w1 ⟨rfl,hr,q⟩
  exact⟨_,_,_,L,rfl,Cv.nil _,hr,q⟩
 ·refine(rdo_flush g kd l V vn vc B L W h hk').mono ?_
  rintro e w1 ⟨rfl,hr,q⟩
  have e1:btell B kd l=[]:=by unfold btell;rw[if_neg (by omega)]
  have e2:bnext B kd l data=B:=by unfold bnext;rw[if_neg (by omega),if_neg (by omega)]
  rw[e1,e2]
  exact⟨_,_,_,B,rfl,Cv.nil _,hr,q⟩
end Go.Proofs.YtggmdjdflaglpaaGreat
