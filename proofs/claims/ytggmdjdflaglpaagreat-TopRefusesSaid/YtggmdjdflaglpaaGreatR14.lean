/- The reference's Do. The reference's Do at a discard and a flush; Same. -/
import Derived.Test.YtggmdjdflaglpaaGreatR13
namespace Go.Proofs.YtggmdjdflaglpaaGreat.r27
open Go.RowKit
set_option linter.unusedVariables false
theorem RI.lt {w:World}{g:Nat}{N L:Nat->List UInt8}(h:RI w g N L):g<w.heap.size:=Blk.lt h
theorem RI.below {w w':World}{g:Nat}{N L:Nat->List UInt8}(h:RI w g N L) (hb:Below w.heap.size w w'):RI w' g N L:=Blk.below_ h hb
theorem RI.only {w w':World}{g g' t:Nat}{cs:Array Value}{N L:Nat->List UInt8}(h:RI w g N L) (hg:w.grownBy w' (some g')) (hb:Blk w g' t cs) (h44:t≠79):RI w' g N L:=
 Blk.grown h hg (fun e=>(Blk.ne_ h hb (Ne.symm h44)) (by injection e))
theorem RI.at_ {w:World}{g k:Nat}{N L:Nat->List UInt8}(h:RI w g N L) (hk:k<32):w.cell? ⟨g,k,none⟩=some (Str (N k)):=
 Blk.cell_ h k (by rw[List.getElem?_toArray,List.getElem?_append_left (by simp;omega)];simp[hk])
theorem RI.last_ {w:World}{g k:Nat}{N L:Nat->List UInt8}(h:RI w g N L) (hk:k<32):w.cell? ⟨g,32+k,none⟩=some (Str (L k)):=
 Blk.cell_ h (32+k) (by rw[List.getElem?_toArray,List.getElem?_append_right (by simp)];simp[hk])
theorem row_set (N:Nat->List UInt8) (k:Nat) (l:List UInt8) (hk:k<32):((List.range 32).map (fun i=>Str (N i))).set k (Str l)=(List.range 32).map (fun i=>Str (upd N k l i)):=by
 apply List.ext_getElem?
 intro i
 rw[List.getElem?_set]
 by_cases e:k=i
 ·subst e
  rw[if_pos rfl,if_pos (by simp;omega)]
  simp[hk,upd]
 ·rw[if_neg e]
  simp only[List.getElem?_map]
  by_cases hi:i<32
  ·simp[hi,upd,Ne.symm e]
  ·simp[hi]
theorem RI.store {w:World}{g k:Nat}{N L:Nat->List UInt8}{l:List UInt8}(h:RI w g N L) (hk:k<32):RI (w.setCell ⟨g,k,none⟩ (Str l)) g (upd N k l) L:=
 Blk.set_to h k _ (by rw[List.setIfInBounds_toArray,List.set_append_left _ _ (by simp;omega),row_set N k l hk])
theorem RI.lasts {w:World}{g:Nat}{N L:Nat->List UInt8}(h:RI w g N L):RI (w.setCells g 32 ((List.range 32).map (fun i=>Str (N i)))) g N N:=by
 have hb:=Blk.setCells (w:=w) ((List.range 32).map (fun i=>Str (N i))) ((List.range 32).map (fun i=>Str (N i))++(List.range 32).map (fun i=>Str (L i))) 32 w h (by simp)
 exact hb
theorem RI.back {w:World}{g:Nat}{N L:Nat->List UInt8}(h:RI w g N L):RI (w.setCells g 0 ((List.range 32).map (fun i=>Str (L i)))) g L L:=by
 have hb:=Blk.setCells (w:=w) ((List.range 32).map (fun i=>Str (L i))) ((List.range 32).map (fun i=>Str (N i))++(List.range 32).map (fun i=>Str (L i))) 0 w h (by simp)
 exact hb
theorem conv_data (w:World) (b o c:Nat) (l:List UInt8) (hl:l.length=32) (hc:∀(j:Nat) (u:UInt8),l[j]? =some u->w.cell? ⟨b,o+j,none⟩=some (.int .u8 (u.toNat:Int))):
 (convert 32 9 (.slice (some ⟨b,o,none⟩) 32 c)).run Tryz.prog w=.ok (Str l) w:=by
 have h:=run_convert_bytes_back (P:=Tryz.prog) w 32 9 5 ⟨b,o,none⟩ c l Tryz.underlying32 Tryz.underlying5 Tryz.underlying9 (fun j hj=>by
  have hadd:(⟨b,o,none⟩:Addr).add j=⟨b,o+j,none⟩:=by unfold Addr.add;split<;>simp_all
  rw[hadd]
  exact hc j _ (List.getElem?_eq_getElem hj))
 rw[hl]at h
 exact h
theorem conv_back (l:List UInt8) (hl:l.length=32) (W:World):∃c C fr,(convert 9 32 (Str l)).run Tryz.prog W=.ok (.slice (some ⟨W.heap.size,0,none⟩) 32 c) (W.drew.alloc (.cells C 5 fr))/\
 ∀(j:Nat) (u:UInt8),l[j]? =some u->C[j]? =some (Value.int .u8 (u.toNat:Int)):=by
 have h:=run_bytes_of_string (P:=Tryz.prog) W 9 32 5 (str l) Tryz.underlying9 Tryz.underlying32 Tryz.underlying5
 have hs:(str l).size=32:=by simp[str,ByteArray.size,hl]
 rw[hs]at h
 refine⟨_,_,_,h,fun j u hu=>?_⟩
 have hj:j<(str l).data.size:=by
  have:=(List.getElem?_eq_some_iff.1 hu).1
  simpa[str]using this
 rw[bytesRow_at _ _ j hj]
 have hj':j<l.length:=(List.getElem?_eq_some_iff.1 hu).1
 have e:l[j]=u:=(List.getElem?_eq_some_iff.1 hu).2
 simp[str,e]
theorem rdo_bad (g:Nat) (k i:Int) (A:Option Addr) (n c:Nat) (w:World) (hb:¬okc k i n):
 Calls Tryz.prog 14 #[.pointer (some ⟨g,0,none⟩),.agg #[.int .i64 k,.int .i64 i,.slice A n c]] w fun e w'=>e=.returned (.agg #[.int .i64 1,.slice none 0 0])/\Below w.heap.size w w':=by
 have H:=Lib.hid hb
 clear hb
 go_enter Tryz.func14,Tryz.ntmps14
 go_wp2_with fail
 refine(ris_no k i A n c _ H.out).mono ?_
 rintro e w1 ⟨rfl,hb1⟩
 have hs1:=hb1.size
 simp only[World.size_alloc]at hs1
 have k1:Blk w1 w.heap.size 34 #[.int .i64 k,.int .i64 i,.slice A n c]:=((Blk.new w 34 _).alloc _).below_ hb1
 have r1:Blk w1 (w.heap.size+1) 44 #[.int .i64 0,.slice none 0 0]:=by
  have:=(Blk.new (w.alloc (.cells #[.int .i64 k,.int .i64 i,.slice A n c] 34)) 44 #[.int .i64 0,.slice none 0 0]).below_ hb1
  rwa[World.size_alloc]at this
 have bel1:Below w.heap.size w w1:=(((Below.refl _ _).alloc (Nat.le_refl _) _).alloc (by simp) _).trans (hb1.mono (by simp only[World.size_alloc];omega))
 have c0:w1.cell? ⟨w.heap.size,0,none⟩=some (.int .i64 k):=k1.cell_ 0 rfl
 have c1:w1.cell? ⟨w.heap.size,1,none⟩=some (.int .i64 i):=k1.cell_ 1 rfl
 have c2:w1.cell? ⟨w.heap.size,2,none⟩=some (.slice A n c):=k1.cell_ 2 rfl
 have ra:w1.cell? ⟨w.heap.size+1,0,none⟩=some (.int .i64 0):=r1.cell_ 0 rfl
 have rb:w1.cell? ⟨w.heap.size+1,1,none⟩=some (.slice none 0 0):=r1.cell_ 1 rfl
 have rc:=r1.frozen 0
 have rd:=r1.frozen 1
 have rl:=r1.lt
 clear hb1
 go_wp2_with fail
 exact bodyPost_ret (v:=.agg #[.int .i64 1,.slice none 0 0]) (by simp[results,Tryz.results14,go_sem,ra,rb]) rfl ⟨rfl,(bel1.setCell (by simp) _).setCell (by simp) _⟩
theorem rdo_read (g k:Nat) (A:Option Addr) (n c:Nat) (N L:Nat->List UInt8) (w:World) (h:RI w g N L) (hk:k<32) (hl:(N k).length=32):
 Calls Tryz.prog 14 #[.pointer (some ⟨g,0,none⟩),.agg #[.int .i64 1,.int .i64 k,.slice A n c]] w fun e w'=>∃a c',e=.returned (.agg #[.int .i64 0,.slice (some ⟨a,0,none⟩) 32 c'])/\
  Has w' (.slice (some ⟨a,0,none⟩) 32 c') (N k)/\Below w.heap.size w w':=by
 have hlt:=h.lt
 have ho:okc 1 k n:=by unfold okc;omega
 have H:=Lib.hid ho
 clear ho
 have i0:(0:Int)<=(k:Int):=by omega
 have i1:(k:Int)<32:=by omega
 go_enter Tryz.func14,Tryz.ntmps14
 go_wp2_with fail
 refine(ris_ok 1 k A n c _ H.out).mono ?_
 rintro e w1 ⟨rfl,hb1⟩
 have hs1:=hb1.size
 simp only[World.size_alloc]at hs1
 have k1:Blk w1 w.heap.size 34 #[.int .i64 1,.int .i64 k,.slice A n c]:=((Blk.new w 34 _).alloc _).below_ hb1
 have r1:Blk w1 (w.heap.size+1) 44 #[.int .i64 0,.slice none 0 0]:=by
  have:=(Blk.new (w.alloc (.cells #[.int .i64 1,.int .i64 k,.slice A n c] 34)) 44 #[.int .i64 0,.slice none 0 0]).below_ hb1
  rwa[World.size_alloc]at this
 have bel1:Below w.heap.size w w1:=(((Below.refl _ _).alloc (Nat.le_refl _) _).alloc (by simp) _).trans (hb1.mono (by simp only[World.size_alloc];omega))
 have c0:w1.cell? ⟨w.heap.size,0,none⟩=some (.int .i64 1):=k1.cell_ 0 rfl
 have c1:w1.cell? ⟨w.heap.size,1,none⟩=some (.int .i64 k):=k1.cell_ 1 rfl
 have c2:w1.cell? ⟨w.heap.size,2,none⟩=some (.slice A n c):=k1.cell_ 2 rfl
 have ra:w1.cell? ⟨w.heap.size+1,0,none⟩=some (.int .i64 0):=r1.cell_ 0 rfl
 have rb:w1.cell? ⟨w.heap.size+1,1,none⟩=some (.slice none 0 0):=r1.cell_ 1 rfl
 have rc:=r1.frozen 0
 have rd:=r1.frozen 1
 have rl:=r1.lt
 have cg:w1.cell? ⟨g,k,none⟩=some (Str (N k)):=(h.below bel1).at_ hk
 have n0:¬(w.heap.size+1=g):=by omega
 have n1:g<w1.heap.size:=by omega
 obtain⟨c',C,fr,hconv,hC⟩:=conv_back (N k) hl w1.drew
 have hconv':(convert 9 32 (Str (N k))).run Tryz.prog w1.drew=.ok (.slice (some ⟨w1.heap.size,0,none⟩) 32 c') (w1.alloc (.cells C 5 fr)).drew.drew:=hconv
 have HC:=Lib.hid hC
 clear hb1 h hC hconv
 go_wp2_with fail
 go_region
 go_wp2_with fail
 refine bodyPost_ret (v:=.agg #[.int .i64 0,.slice (some ⟨w1.heap.size,0,none⟩) 32 c']) (by simp[results,Tryz.results14,go_sem,ra,rb,rl]) rfl ⟨w1.heap.size,c',rfl,?_,?_⟩
 ·refine⟨hl,.inr ⟨_,_,C,fr,rfl,?_,HC.out⟩⟩
  have hn:=heap_alloc_new ((w1.setCell ⟨w.heap.size+1,0,none⟩ (.int .i64 0)).setCell ⟨w.heap.size+1,1,none⟩ (.slice (some ⟨w1.heap.size,0,none⟩) 32 c')) (.cells C 5 fr)
  simp only[World.size_setCell]at hn
  exact hn
 ·exact((((bel1.setCell (by simp) _).setCell (by simp) _).alloc (by simp;omega) _).drew).drew
theorem rdo_write (g k:Nat) (A:Option Addr) (c:Nat) (l:List UInt8) (N L:Nat->List UInt8) (w:World) (h:RI w g N L) (hk:k<32) (hd:Data32 w A l):
 Calls Tryz.prog 14 #[.pointer (some ⟨g,0,none⟩),.agg #[.int .i64 2,.int .i64 k,.slice A 32 c]] w fun e w'=>e=.returned (.agg #[.int .i64 0,.slice none 0 0])/\
  RI w' g (upd N k l) L/\w.grownBy w' (some g):=by
 have hlt:=h.lt
 have ho:okc 2 k 32:=by unfold okc;omega
 have H:=Lib.hid ho
 clear ho
 have i0:(0:Int)<=(k:Int):=by omega
 have i1:(k:Int)<32:=by omega
 obtain⟨hl,b,o,rfl,hbl,hc⟩:=hd
 go_enter Tryz.func14,Tryz.ntmps14
 go_wp2_with fail
 refine(ris_ok 2 k _ 32 c _ H.out).mono ?_
 rintro e w1 ⟨rfl,hb1⟩
 have hs1:=hb1.size
 simp only[World.size_alloc]at hs1
 have k1:Blk w1 w.heap.size 34 #[.int .i64 2,.int .i64 k,.slice (some ⟨b,o,none⟩) 32 c]:=((Blk.new w 34 _).alloc _).below_ hb1
 have r1:Blk w1 (w.heap.size+1) 44 #[.int .i64 0,.slice none 0 0]:=by
  have:=(Blk.new (w.alloc (.cells #[.int .i64 2,.int .i64 k,.slice (some ⟨b,o,none⟩) 32 c] 34)) 44 #[.int .i64 0,.slice none 0 0]).below_ hb1
  rwa[World.size_alloc]at this
 have bel1:Below w.heap.size w w1:=(((Below.refl _ _).alloc (Nat.le_refl _) _).alloc (by simp) _).trans (hb1.mono (by simp only[World.size_alloc];omega))
 have c0:w1.cell? ⟨w.heap.size,0,none⟩=some (.int .i64 2):=k1.cell_ 0 rfl
 have c1:w1.cell? ⟨w.heap.size,1,none⟩=some (.int .i64 k):=k1.cell_ 1 rfl
 have c2:w1.cell? ⟨w.heap.size,2,none⟩=some (.slice (some ⟨b,o,none⟩) 32 c):=k1.cell_ 2 rfl
 have ra:w1.cell? ⟨w.heap.size+1,0,none⟩=some (.int .i64 0):=r1.cell_ 0 rfl
 have rb:w1.cell? ⟨w.heap.size+1,1,none⟩=some (.slice none 0 0):=r1.cell_ 1 rfl
 have rc:=r1.frozen 0
 have rd:=r1.frozen 1
 have rl:=r1.lt
 have hconv:=conv_data w1.drew b o c l hl (fun j u hu=>(bel1.drew.cell hbl).trans (hc j u hu))
 have h1:=h.below bel1
 have cg:=h1.at_ hk
 have cf:=Blk.frozen h1 k
 have h3:RI (w1.setCell ⟨g,k,none⟩ (.string (str l))) g (upd N k l) L:=h1.store hk
 have r3:=r1.far (p:=⟨g,k,none⟩) (by simp;omega) (.string (str l))
 have o3:w.grownBy (w1.setCell ⟨g,k,none⟩ (.string (str l))) (some g):=only_setCell (only_of_below bel1 _) (.inl rfl) _
 have H3:=Lib.hid h3;have R3:=Lib.hid r3;have O3:=Lib.hid o3
 have n0:¬(w.heap.size=g):=by omega
 have n1:g<w1.heap.size:=by omega
 have hst:Str l=.string (str l):=rfl
 clear hb1 h hc h3 r3 o3 h1 ra rb rc rd rl
 go_wp2_with fail
 go_region
 clear cg cf hconv c0 c1 c2 hst
 generalize w1.setCell ⟨g,k,none⟩ (.string (str l))=w3 at H3 R3 O3 ⊢
 have ra:w3.cell? ⟨w.heap.size+1,0,none⟩=some (.int .i64 0):=R3.out.cell_ 0 rfl
 have rb:w3.cell? ⟨w.heap.size+1,1,none⟩=some (.slice none 0 0):=R3.out.cell_ 1 rfl
 have rc:=R3.out.frozen 0
 have rd:=R3.out.frozen 1
 have rl:=R3.out.lt
 go_wp2_with fail
 refine bodyPost_ret (v:=.agg #[.int .i64 0,.slice none 0 0]) (by simp[results,Tryz.results14,go_sem,ra,rb]) rfl ⟨rfl,?_,?_⟩
 ·exact(H3.out.only (g':=w.heap.size+1) (only_setCell (only_refl _ _) (.inl rfl) _) R3.out (by decide)).only (g':=w.heap.size+1) (only_drew (only_setCell (only_refl _ _) (.inl rfl) _)) (R3.out.set_ 0 _) (by decide)
 ·exact only_drew (only_setCell (only_setCell O3.out (.inr (by simp)) _) (.inr (by simp)) _)
end Go.Proofs.YtggmdjdflaglpaaGreat.r27
namespace Go.Proofs.YtggmdjdflaglpaaGreat.r27
open Go.RowKit
set_option linter.unusedVariables false
theorem rdo_discard (g k:Nat) (A:Option Addr) (n c:Nat) (N L:Nat->List UInt8) (w:World) (h:RI w g N L) (hk:k<32):
 Calls Tryz.prog 14 #[.pointer (some ⟨g,0,none⟩),.agg #[.int .i64 4,.int .i64 k,.slice A n c]] w fun e w'=>e=.returned (.agg #[.int .i64 0,.slice none 0 0])/\
  RI w' g (upd N k zeros) L/\w.grownBy w' (some g):=by
 have hlt:=h.lt
 have ho:okc 4 k n:=by unfold okc;omega
 have H:=Lib.hid ho
 clear ho
 have i0:(0:Int)<=(k:Int):=by omega
 have i1:(k:Int)<32:=by omega
 go_enter Tryz.func14,Tryz.ntmps14
 go_wp2_with fail
 refine(ris_ok 4 k A n c _ H.out).mono ?_
 rintro e w1 ⟨rfl,hb1⟩
 have hs1:=hb1.size
 simp only[World.size_alloc]at hs1
 have k1:Blk w1 w.heap.size 34 #[.int .i64 4,.int .i64 k,.slice A n c]:=((Blk.new w 34 _).alloc _).below_ hb1
 have r1:Blk w1 (w.heap.size+1) 44 #[.int .i64 0,.slice none 0 0]:=by
  have:=(Blk.new (w.alloc (.cells #[.int .i64 4,.int .i64 k,.slice A n c] 34)) 44 #[.int .i64 0,.slice none 0 0]).below_ hb1
  rwa[World.size_alloc]at this
 have bel1:Below w.heap.size w w1:=(((Below.refl _ _).alloc (Nat.le_refl _) _).alloc (by simp) _).trans (hb1.mono (by simp only[World.size_alloc];omega))
 have c0:w1.cell? ⟨w.heap.size,0,none⟩=some (.int .i64 4):=k1.cell_ 0 rfl
 have c1:w1.cell? ⟨w.heap.size,1,none⟩=some (.int .i64 k):=k1.cell_ 1 rfl
 have hm:=make32
 have hconv:=conv_made zeros (by simp[zeros])
 have h1:=h.below bel1
 have cg:=h1.at_ hk
 have cf:=Blk.frozen h1 k
 have h3:RI (w1.setCell ⟨g,k,none⟩ (.string (str zeros))) g (upd N k zeros) L:=h1.store hk
 have r3:=r1.far (p:=⟨g,k,none⟩) (by simp;omega) (.string (str zeros))
 have o3:w.grownBy (w1.setCell ⟨g,k,none⟩ (.string (str zeros))) (some g):=only_setCell (only_of_below bel1 _) (.inl rfl) _
 have H3:=Lib.hid h3;have R3:=Lib.hid r3;have O3:=Lib.hid o3
 have n0:¬(w.heap.size=g):=by omega
 have n1:g<w1.heap.size:=by omega
 have hst:Str zeros=.string (str zeros):=rfl
 have rl0:w.heap.size<w1.heap.size:=by omega
 clear hb1 h h3 r3 o3 h1
 go_wp2_with fail
 go_region
 clear cg cf hconv c0 c1 hst hm
 generalize w1.setCell ⟨g,k,none⟩ (.string (str zeros))=w3 at H3 R3 O3 ⊢
 have ra:w3.cell? ⟨w.heap.size+1,0,none⟩=some (.int .i64 0):=R3.out.cell_ 0 rfl
 have rb:w3.cell? ⟨w.heap.size+1,1,none⟩=some (.slice none 0 0):=R3.out.cell_ 1 rfl
 have rc:=R3.out.frozen 0
 have rd:=R3.out.frozen 1
 have rl:=R3.out.lt
 go_wp2_with fail
 refine bodyPost_ret (v:=.agg #[.int .i64 0,.slice none 0 0]) (by simp[results,Tryz.results14,go_sem,ra,rb,rl]) rfl ⟨rfl,?_,?_⟩
 ·have h5:=(H3.out.only (g':=w.heap.size+1) (only_setCell (only_refl _ _) (.inl rfl) (.int .i64 0)) R3.out (by decide)).only (g':=w.heap.size+1) (only_setCell (p:=⟨w.heap.size+1,1,none⟩) (only_refl _ _) (.inl rfl) (.slice none 0 0)) (R3.out.set_ 0 _) (by decide)
  exact h5.alloc _
 ·exact only_drew (only_alloc (only_setCell (only_setCell O3.out (.inr (by simp)) _) (.inr (by simp)) _) _)
theorem rdo_flush (g:Nat) (k i:Int) (A:Option Addr) (n c:Nat) (N L:Nat->List UInt8) (w:World) (h:RI w g N L) (hk:k=3\/k=5):
 Calls Tryz.prog 14 #[.pointer (some ⟨g,0,none⟩),.agg #[.int .i64 k,.int .i64 i,.slice A n c]] w fun e w'=>e=.returned (.agg #[.int .i64 0,.slice none 0 0])/\
  RI w' g N N/\w.grownBy w' (some g):=by
 have hlt:=h.lt
 have ho:okc k i n:=by unfold okc;omega
 have H:=Lib.hid ho
 clear ho
 rcases hk with rfl|rfl
 ·go_enter Tryz.func14,Tryz.ntmps14
  go_wp2_with fail
  refine(ris_ok 3 i A n c _ H.out).mono ?_
  rintro e w1 ⟨rfl,hb1⟩
  have hs1:=hb1.size
  simp only[World.size_alloc]at hs1
  have k1:Blk w1 w.heap.size 34 #[.int .i64 3,.int .i64 i,.slice A n c]:=((Blk.new w 34 _).alloc _).below_ hb1
  have r1:Blk w1 (w.heap.size+1) 44 #[.int .i64 0,.slice none 0 0]:=by
   have:=(Blk.new (w.alloc (.cells #[.int .i64 3,.int .i64 i,.slice A n c] 34)) 44 #[.int .i64 0,.slice none 0 0]).below_ hb1
   rwa[World.size_alloc]at this
  have bel1:Below w.heap.size w w1:=(((Below.refl _ _).alloc (Nat.le_refl _) _).alloc (by simp) _).trans (hb1.mono (by simp only[World.size_alloc];omega))
  have c0:w1.cell? ⟨w.heap.size,0,none⟩=some (.int .i64 3):=k1.cell_ 0 rfl
  have c1:w1.cell? ⟨w.heap.size,1,none⟩=some (.int .i64 i):=k1.cell_ 1 rfl
  have hB2:=h.below bel1
  obtain⟨vs,hvs⟩:∃vs,vs=(List.range 32).map (fun i=>Str (N i)):=⟨_,rfl⟩
  have hl:vs.length=32:=by rw[hvs];simp
  have hr:w1.rangeAt g 0 vs:=range_of hB2 (fun j u hj=>by rw[hvs]at hj;rw[Nat.zero_add,List.getElem?_append_left (List.getElem?_eq_some_iff.1 hj).1];exact hj)
  have ht:w1.there g 32 vs.toArray.size:=there_of hB2 (by simp[hl])
  have hsz:(Tryz.prog.info? 40).map (·.size)=some vs.length:=by rw[hl];exact info42
  have hsz':(Tryz.prog.info? 40).map (·.size)=some vs.toArray.size:=by rw[List.size_toArray];exact hsz
  have h1:vs.toArray.all (·.oneCell')=true:=all_oneCell_toArray (by intro v hv;rw[hvs]at hv;simp only[List.mem_map]at hv;obtain⟨i,_,rfl⟩:=hv;rfl)
  have m3:RI (w1.setCells g 32 vs) g N N:=by rw[hvs];exact hB2.lasts
  have o3:w.grownBy (w1.setCells g 32 vs) (some g):=only_setCells _ _ _ (only_of_below bel1 _)
  have r3:Blk (w1.setCells g 32 vs) (w.heap.size+1) 44 #[.int .i64 0,.slice none 0 0]:=r1.grown (only_setCells vs 32 w1 (only_refl _ (some g))) (by simp;omega)
  have hlt1:g<w1.heap.size:=by omega
  have M3:=Lib.hid m3;have O3:=Lib.hid o3;have R3:=Lib.hid r3
  clear hb1 h m3 o3 r3 hB2 hvs hl
  go_wp2_with (first|(with_reducible refine wpList_load_mid rfl 40 _ rfl g 0 rfl vs _ hr Tryz.underlying40 rfl hsz ?_)|(with_reducible refine wpList_store_mid rfl 40 _ _ rfl g 32 vs.toArray rfl rfl ht hsz' h1 ?_;rw[List.toList_toArray];clear hr ht hsz hsz' h1;generalize w1.setCells g 32 vs=w3 at M3 O3 R3 ⊢;have ra:w3.cell? ⟨w.heap.size+1,0,none⟩=some (.int .i64 0):=R3.out.cell_ 0 rfl;have rb:w3.cell? ⟨w.heap.size+1,1,none⟩=some (.slice none 0 0):=R3.out.cell_ 1 rfl;have rc:=R3.out.frozen 0;have rd:=R3.out.frozen 1;have rl:=R3.out.lt))
  refine bodyPost_ret (v:=.agg #[.int .i64 0,.slice none 0 0]) (by simp[results,Tryz.results14,go_sem,ra,rb]) rfl ⟨rfl,?_,?_⟩
  ·exact(M3.out.only (g':=w.heap.size+1) (only_setCell (only_refl _ _) (.inl rfl) _) R3.out (by decide)).only (g':=w.heap.size+1) (only_setCell (only_refl _ _) (.inl rfl) _) (R3.out.set_ 0 _) (by decide)
  ·exact only_setCell (only_setCell O3.out (.inr (by simp)) _) (.inr (by simp)) _
 ·go_enter Tryz.func14,Tryz.ntmps14
  go_wp2_with fail
  refine(ris_ok 5 i A n c _ H.out).mono ?_
  rintro e w1 ⟨rfl,hb1⟩
  have hs1:=hb1.size
  simp only[World.size_alloc]at hs1
  have k1:Blk w1 w.heap.size 34 #[.int .i64 5,.int .i64 i,.slice A n c]:=((Blk.new w 34 _).alloc _).below_ hb1
  have r1:Blk w1 (w.heap.size+1) 44 #[.int .i64 0,.slice none 0 0]:=by
   have:=(Blk.new (w.alloc (.cells #[.int .i64 5,.int .i64 i,.slice A n c] 34)) 44 #[.int .i64 0,.slice none 0 0]).below_ hb1
   rwa[World.size_alloc]at this
  have bel1:Below w.heap.size w w1:=(((Below.refl _ _).alloc (Nat.le_refl _) _).alloc (by simp) _).trans (hb1.mono (by simp only[World.size_alloc];omega))
  have c0:w1.cell? ⟨w.heap.size,0,none⟩=some (.int .i64 5):=k1.cell_ 0 rfl
  have c1:w1.cell? ⟨w.heap.size,1,none⟩=some (.int .i64 i):=k1.cell_ 1 rfl
  have hB2:=h.below bel1
  obtain⟨vs,hvs⟩:∃vs,vs=(List.range 32).map (fun i=>Str (N i)):=⟨_,rfl⟩
  have hl:vs.length=32:=by rw[hvs];simp
  have hr:w1.rangeAt g 0 vs:=range_of hB2 (fun j u hj=>by rw[hvs]at hj;rw[Nat.zero_add,List.getElem?_append_left (List.getElem?_eq_some_iff.1 hj).1];exact hj)
  have ht:w1.there g 32 vs.toArray.size:=there_of hB2 (by simp[hl])
  have hsz:(Tryz.prog.info? 40).map (·.size)=some vs.length:=by rw[hl];exact info42
  have hsz':(Tryz.prog.info? 40).map (·.size)=some vs.toArray.size:=by rw[List.size_toArray];exact hsz
  have h1:vs.toArray.all (·.oneCell')=true:=all_oneCell_toArray (by intro v hv;rw[hvs]at hv;simp only[List.mem_map]at hv;obtain⟨i,_,rfl⟩:=hv;rfl)
  have m3:RI (w1.setCells g 32 vs) g N N:=by rw[hvs];exact hB2.lasts
  have o3:w.grownBy (w1.setCells g 32 vs) (some g):=only_setCells _ _ _ (only_of_below bel1 _)
  have r3:Blk (w1.setCells g 32 vs) (w.heap.size+1) 44 #[.int .i64 0,.slice none 0 0]:=r1.grown (only_setCells vs 32 w1 (only_refl _ (some g))) (by simp;omega)
  have hlt1:g<w1.heap.size:=by omega
  have M3:=Lib.hid m3;have O3:=Lib.hid o3;have R3:=Lib.hid r3
  clear hb1 h m3 o3 r3 hB2 hvs hl
  go_wp2_with (first|(with_reducible refine wpList_load_mid rfl 40 _ rfl g 0 rfl vs _ hr Tryz.underlying40 rfl hsz ?_)|(with_reducible refine wpList_store_mid rfl 40 _ _ rfl g 32 vs.toArray rfl rfl ht hsz' h1 ?_;rw[List.toList_toArray];clear hr ht hsz hsz' h1;generalize w1.setCells g 32 vs=w3 at M3 O3 R3 ⊢;have ra:w3.cell? ⟨w.heap.size+1,0,none⟩=some (.int .i64 0):=R3.out.cell_ 0 rfl;have rb:w3.cell? ⟨w.heap.size+1,1,none⟩=some (.slice none 0 0):=R3.out.cell_ 1 rfl;have rc:=R3.out.frozen 0;have rd:=R3.out.frozen 1;have rl:=R3.out.lt))
  refine bodyPost_ret (v:=.agg #[.int .i64 0,.slice none 0 0]) (by simp[results,Tryz.results14,go_sem,ra,rb]) rfl ⟨rfl,?_,?_⟩
  ·exact(M3.out.only (g':=w.heap.size+1) (only_setCell (only_refl _ _) (.inl rfl) _) R3.out (by decide)).only (g':=w.heap.size+1) (only_setCell (only_refl _ _) (.inl rfl) _) (R3.out.set_ 0 _) (by decide)
  ·exact only_setCell (only_setCell O3.out (.inr (by simp)) _) (.inr (by simp)) _
theorem conv_has (w:World) (b c:Nat) (l:List UInt8) (h:Has w (.slice (some ⟨b,0,none⟩) 32 c) l):(convert 32 9 (.slice (some ⟨b,0,none⟩) 32 c)).run Tryz.prog w=.ok (Str l) w:=by
 obtain⟨hl,h⟩:=h
 rcases h with⟨h,_⟩|⟨b',c',cs,fr,hv,hb,hc⟩
 ·exact absurd h (by simp)
 ·obtain⟨h1,rfl,_⟩:b'=b/\c'=c/\True:=by
   simp only[Value.slice.injEq,Option.some.injEq,Addr.mk.injEq,and_true,true_and]at hv
   exact⟨hv.1.symm,hv.2.symm,trivial⟩
  subst h1
  exact conv_data w b' 0 c' l hl (fun j u hu=>by rw[Nat.zero_add,cell_of_row w b' j cs 5 fr hb];exact hc j u hu)
theorem same_data (b c b' c':Nat) (l:List UInt8) (e:Int) (w:World) (h:Has w (.slice (some ⟨b,0,none⟩) 32 c) l) (h':Has w (.slice (some ⟨b',0,none⟩) 32 c') l):
 Calls Tryz.prog 11 #[.agg #[.int .i64 e,.slice (some ⟨b,0,none⟩) 32 c],.agg #[.int .i64 e,.slice (some ⟨b',0,none⟩) 32 c']] w fun e w'=>e=.returned (.bool true)/\Below w.heap.size w w':=by
 have k1:=fun o o'=>conv_has _ b c l ((h.alloc o).alloc o')
 have k2:=fun o o'=>conv_has _ b' c' l ((h'.alloc o).alloc o')
 have hst:Str l=.string (str l):=rfl
 go_enter Tryz.func11,Tryz.ntmps11
 go_wp2_with fail
 go_ret
 exact⟨rfl,((Below.refl _ _).alloc (Nat.le_refl _) _).alloc (by simp) _⟩
theorem same_none (e:Int) (w:World):
 Calls Tryz.prog 11 #[.agg #[.int .i64 e,.slice none 0 0],.agg #[.int .i64 e,.slice none 0 0]] w fun e w'=>e=.returned (.bool true)/\Below w.heap.size w w':=by
 have k1:=fun W:World=>run_convert_bytes_nil (P:=Tryz.prog) W 32 5 Tryz.underlying32 Tryz.underlying5 0 0 9 Tryz.underlying9
 go_enter Tryz.func11,Tryz.ntmps11
 go_wp2_with fail
 go_ret
 exact⟨rfl,((Below.refl _ _).alloc (Nat.le_refl _) _).alloc (by simp) _⟩
theorem Has.conv {w:World}{b c:Nat}{l:List UInt8}(h:Has w (.slice (some ⟨b,0,none⟩) 32 c) l):(convert 32 9 (.slice (some ⟨b,0,none⟩) 32 c)).run Tryz.prog w=.ok (.string (str l)) w:=conv_has w b c l h
end Go.Proofs.YtggmdjdflaglpaaGreat.r27
