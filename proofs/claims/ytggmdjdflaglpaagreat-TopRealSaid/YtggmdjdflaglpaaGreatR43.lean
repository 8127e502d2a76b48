/- lockboxtop.TopReal: the walk. -/
import Derived.Test.YtggmdjdflaglpaaGreatR42
import Derived.Test.YtggmdjdflaglpaaGreatR40
namespace Go.Proofs.YtggmdjdflaglpaaGreat
open Go.RowKit Go.Proofs.YtggmdjdflaglpaaGreat.geo
set_option linter.unusedVariables false
structure Rnd2 (w:World) (bx:Nat) (a:Ads) (bx2:Nat) (a2:Ads) (i:Nat) (wr:World) (ρ ρ2:Rl) (S S2:Bst):Prop where
 two:Two2 w bx a bx2 a2 wr ρ ρ2 S S2
 rs:Rs S S2 (1+140*i) (16+i)
theorem Rnd2.next {w:World}{bx:Nat}{a:Ads}{bx2:Nat}{a2:Ads}{i:Nat}{wr w':World}{ρ ρ2:Rl}{S S2:Bst}(h:Rnd2 w bx a bx2 a2 i wr ρ ρ2 S S2) (q:Below wr.heap.size wr w'):Rnd2 w bx a bx2 a2 (i+1) w' ρ ρ2 S S2:=
 ⟨h.two.below_ q,h.rs.mono (by omega) (by omega)⟩
theorem Rs.facts {S S':Bst}{k t:Nat}(h:Rs S S' k t) (ht:t<=900):((∃E,Per S.C E)/\Cok S.C k t/\(S.dead=false->S.C.tw)/\S.C.W.dsk.ok/\S.n<=1000)/\((∃E,Per S'.C E)/\Cok S'.C k t/\(S'.dead=false->S'.C.tw)/\S'.C.W.dsk.ok/\S'.n<=1000):=by
 obtain⟨D,r⟩:=h.rel
 have hn:=h.cnt
 exact⟨⟨⟨D,r.pa⟩,r.ca,h.tw,r.dok,by omega⟩,⟨⟨D,r.pb⟩,r.cb,fun e=>r.eqv.tw (h.tw (by rw[h.dead];exact e)),by rw[<-r.eqv.dsk];exact r.dok,by omega⟩⟩
theorem s8 {w:World}{b o:Nat}{k kd l N F:Int}{data:By}{V D K:Option Addr}{vn vc dn dc kn kc:Nat}(h:ActAt w b o ⟨k,kd,l,N,F,data,V,vn,vc,D,dn,dc,K,kn,kc⟩):
 w.cell? ⟨b,o,none⟩=some (.int .i64 k)/\w.cell? ⟨b,o+1,none⟩=some (.int .i64 kd)/\w.cell? ⟨b,o+2,none⟩=some (.int .i64 l)/\w.cell? ⟨b,o+3,none⟩=some (.slice V vn vc)/\w.cell? ⟨b,o+4,none⟩=some (.int .i64 N)/\w.cell? ⟨b,o+5,none⟩=some (.int .i64 F)/\w.cell? ⟨b,o+6,none⟩=some (.slice D dn dc)/\w.cell? ⟨b,o+7,none⟩=some (.slice K kn kc):=
 ⟨h.cell 0 _ rfl,h.cell 1 _ rfl,h.cell 2 _ rfl,h.cell 3 _ rfl,h.cell 4 _ rfl,h.cell 5 _ rfl,h.cell 6 _ rfl,h.cell 7 _ rfl⟩
def ActC (w:World) (b o:Nat) (x:ActV):Prop:=∀(j:Nat) (v:Value),x.cells[j]? =some v->w.cell? ⟨b,o+j,none⟩=some v
theorem ActC.of {w:World}{b o:Nat}{x:ActV}(h:ActAt w b o x):ActC w b o x:=h.cell
theorem ActC.lt {w:World}{b o:Nat}{x:ActV}(h:ActC w b o x):b<w.heap.size:=by
 have:=h 0 _ rfl
 exact World.block_lt_of_cell? _ _ this
theorem ActC.drew {w:World}{b o:Nat}{x:ActV}(h:ActC w b o x):ActC w.drew b o x:=h
theorem ActC.alloc {w:World}{b o:Nat}{x:ActV}(h:ActC w b o x) (ob:Obj):ActC (w.alloc ob) b o x:=fun j v hv=>by
 rw[<-h j v hv]
 simp only[World.cell?,Below.heap_alloc w ob b h.lt]
theorem ActC.far {w:World}{b o:Nat}{x:ActV}(h:ActC w b o x) {p:Addr}(hp:b≠p.block) (u:Value):ActC (w.setCell p u) b o x:=fun j v hv=>by
 rw[<-h j v hv]
 simp only[World.cell?,Below.heap_setCell _ _ _ _ hp]
theorem s8c {w:World}{b o:Nat}{k kd l N F:Int}{data:By}{V D K:Option Addr}{vn vc dn dc kn kc:Nat}(h:ActC w b o ⟨k,kd,l,N,F,data,V,vn,vc,D,dn,dc,K,kn,kc⟩):
 w.cell? ⟨b,o,none⟩=some (.int .i64 k)/\w.cell? ⟨b,o+1,none⟩=some (.int .i64 kd)/\w.cell? ⟨b,o+2,none⟩=some (.int .i64 l)/\w.cell? ⟨b,o+3,none⟩=some (.slice V vn vc)/\w.cell? ⟨b,o+4,none⟩=some (.int .i64 N)/\w.cell? ⟨b,o+5,none⟩=some (.int .i64 F)/\w.cell? ⟨b,o+6,none⟩=some (.slice D dn dc)/\w.cell? ⟨b,o+7,none⟩=some (.slice K kn kc):=
 ⟨h 0 _ rfl,h 1 _ rfl,h 2 _ rfl,h 3 _ rfl,h 4 _ rfl,h 5 _ rfl,h 6 _ rfl,h 7 _ rfl⟩
theorem ActX.drew {w:World}{b o:Nat}{x:ActV}{ks:List Bool}(h:ActX w b o x ks) (hb:b<w.heap.size):ActX w.drew b o x ks:=h.below_ hb ((Below.refl _ _).drew)
theorem Ste.blkT {ρ ρ2 ρ':Rl}{W w':World}{g:Nat}{t:TypeId}{cs:Array Value}(hs:Ste rtX (mark ρ ρ2) W ρ' w') (h:Blk W g t cs/\Tr (ρ g)/\Tr (ρ2 g)):Blk w' g t cs/\Tr (ρ' g)/\Tr (ρ2 g):=by
 obtain⟨hb,h1,h2⟩:=h
 have e:mark ρ ρ2 g=ρ g:=by unfold mark;rw[if_pos h2]
 exact⟨Blk.ste hb hs (by rw[e];exact rtXT h1),by rw[hs.old g hb.lt,e];exact h1,h2⟩
theorem BT.swap {W:World}{ρ ρ2:Rl}{g:Nat}{t:TypeId}{cs:Array Value}(h:Blk W g t cs/\Tr (ρ g)/\Tr (ρ2 g)):Blk W g t cs/\Tr (ρ2 g)/\Tr (ρ g):=⟨h.1,h.2.2,h.2.1⟩
theorem BT.alloc {W:World}{ρ ρ2:Rl}{g:Nat}{t:TypeId}{cs:Array Value}(h:Blk W g t cs/\Tr (ρ g)/\Tr (ρ2 g)) (o:Obj):Blk (W.alloc o) g t cs/\Tr (ρ g)/\Tr (ρ2 g):=⟨h.1.alloc o,h.2⟩
theorem BT.drew {W:World}{ρ ρ2:Rl}{g:Nat}{t:TypeId}{cs:Array Value}(h:Blk W g t cs/\Tr (ρ g)/\Tr (ρ2 g)):Blk W.drew g t cs/\Tr (ρ g)/\Tr (ρ2 g):=⟨h.1.drew,h.2⟩
theorem BT.new {W:World}{ρ ρ2:Rl}(h1:Fresh ρ W) (h2:Fresh ρ2 W) (t:TypeId) (cs:Array Value):Blk (W.alloc (.cells cs t)) W.heap.size t cs/\Tr (ρ W.heap.size)/\Tr (ρ2 W.heap.size):=⟨Blk.new W t cs,.inl (h1 _ (Nat.le_refl _)),.inl (h2 _ (Nat.le_refl _))⟩
theorem BT.new2 {W:World}{ρ ρ2:Rl}(h1:Fresh ρ W) (h2:Fresh ρ2 W) (t:TypeId) (cs cs0:Array Value) (t0:TypeId):Blk ((W.alloc (.cells cs0 t0)).alloc (.cells cs t)) (W.heap.size+1) t cs/\Tr (ρ (W.heap.size+1))/\Tr (ρ2 (W.heap.size+1)):=by
 have:=Blk.new (W.alloc (.cells cs0 t0)) t cs
 rw[World.size_alloc]at this
 exact⟨this,.inl (h1 _ (by omega)),.inl (h2 _ (by omega))⟩
theorem hasp_far {p:Nat->Prop}{W:World}{P:Nat}{x:Int}{A:Option Addr}{n c:Nat}{v:Value}{l:By}(hb:Blk W P 38 #[.int .i64 x,.slice A n c]) (h:HasP p W v l) (i:Nat) (u:Value):HasP p (W.setCell ⟨P,i,none⟩ u) v l:=by
 rcases h with h|⟨b,o,cap,h1,h2,h3,h4,h5,h6⟩
 ·exact .inl h
 ·refine .inr ⟨b,o,cap,h1,h2,by simpa[World.setCell]using h3,h4,h5,fun j y hy=>?_⟩
  have hc:=h6 j y hy
  by_cases e:b=P
  ·exfalso
   subst e
   have hh:W.heap[b]? =some (.cells #[.int .i64 x,.slice A n c] 38):=hb
   simp only[World.cell?,hh]at hc
   rcases Nat.lt_or_ge (o+j) 2 with q|q
   ·rcases(by omega:o+j=0\/o+j=1)with q|q<;>rw[q]at hc<;>simp at hc
   ·have:(#[Value.int .i64 x,Value.slice A n c]:Array Value)[o+j]? =none:=by simp;omega
    simp[this]at hc
  ·rw[<-hc]
   have hh:(W.setCell ⟨P,i,none⟩ u).heap[b]? =W.heap[b]? :=Below.heap_setCell _ _ _ _ (by simpa using e)
   simp only[World.cell?,hh]
theorem conv_hp {p:Nat->Prop}{w:World}{v:Value}{l:By}(h:HasP p w v l):(convert 32 9 v).run Tryz.prog w=.ok (.string (r27.str l)) w:=by
 rcases h with⟨rfl,rfl⟩|⟨b,q,cap,rfl,_,_,_,_,h6⟩
 ·exact run_convert_bytes_nil (P:=Tryz.prog) _ 32 5 Tryz.underlying32 Tryz.underlying5 0 0 9 Tryz.underlying9
 ·exact run_convert_bytes_back (P:=Tryz.prog) _ 32 9 5 ⟨b,q,none⟩ cap l Tryz.underlying32 Tryz.underlying5 Tryz.underlying9 (fun j hj=>by rw[add_plain];exact h6 j _ (List.getElem?_eq_getElem hj))
structure Bun (w:World) (bx:Nat) (a:Ads) (bx2:Nat) (a2:Ads) (ρ ρ2:Rl) (S S2:Bst) (v1 v2:Value) (bb:By) (W:World):Prop where
 two:Two2 w bx a bx2 a2 W ρ ρ2 S S2
 h1:HasP (fun _=>True) W v1 bb
 h2:HasP (fun _=>True) W v2 bb
theorem Bun.alloc {w:World}{bx:Nat}{a:Ads}{bx2:Nat}{a2:Ads}{ρ ρ2:Rl}{S S2:Bst}{v1 v2:Value}{bb:By}{W:World}(h:Bun w bx a bx2 a2 ρ ρ2 S S2 v1 v2 bb W) (o:Obj):Bun w bx a bx2 a2 ρ ρ2 S S2 v1 v2 bb (W.alloc o):=
 ⟨h.two.below_ ((Below.refl _ _).alloc (Nat.le_refl _) o),h.h1.alloc o,h.h2.alloc o⟩
theorem Bun.set1 {w:World}{bx:Nat}{a:Ads}{bx2:Nat}{a2:Ads}{ρ ρ2:Rl}{S S2:Bst}{v1 v2:Value}{bb:By}{W:World}(h:Bun w bx a bx2 a2 ρ ρ2 S S2 v1 v2 bb W) {P:Nat}{x:Int}{A:Option Addr}{n c:Nat}(hb:Blk W P 38 #[.int .i64 x,.slice A n c]) (t1:Tr (ρ P)) (t2:Tr (ρ2 P)) (hP:w.heap.size<=P) (i:Nat) (u:Value):Bun w bx a bx2 a2 ρ ρ2 S S2 v1 v2 bb (W.setCell ⟨P,i,none⟩ u):=by
 have hg:W.grownBy (W.setCell ⟨P,i,none⟩ u) (some P):=only_setCell (only_refl _ _) (.inl rfl) _
 have hk:∀b,b<W.heap.size->b≠P->(W.setCell ⟨P,i,none⟩ u).heap[b]? =W.heap[b]? :=fun b hb e=>hg.block b hb (fun c=>e (Option.some.inj c))
 refine⟨⟨h.two.box.keepT hg.size (fun b hb e=>⟨hk b hb (fun c=>e (c▸t1)),rfl⟩),h.two.box2.keepT hg.size (fun b hb e=>⟨hk b hb (fun c=>e (c▸t2)),rfl⟩),h.two.old,h.two.dis,fun i hi=>h.two.fresh i (Nat.le_trans hg.size hi),fun i hi=>h.two.fresh2 i (Nat.le_trans hg.size hi),below_only h.two.bel hg h.two.bel.size hP⟩,hasp_far hb h.h1 i u,hasp_far hb h.h2 i u⟩
def Fin2 (w:World) (bx:Nat) (a:Ads) (bx2:Nat) (a2:Ads) (ρ ρ2:Rl) (S S2:Bst) (er:Int) (A1 A2:Option Addr) (n z1 z2:Nat) (bb:By) (g1 g2:Nat) (W:World):Prop:=
 Bun w bx a bx2 a2 ρ ρ2 S S2 (.slice A1 n z1) (.slice A2 n z2) bb W/\Blk W g1 38 #[.int .i64 er,.slice A1 n z1]/\Blk W g2 38 #[.int .i64 er,.slice A2 n z2]
section
variable {w:World}{bx:Nat}{a:Ads}{bx2:Nat}{a2:Ads}{ρ ρ2:Rl}{S S2:Bst}{er:Int}{A1 A2:Option Addr}{n z1 z2:Nat}{bb:By}{W:World}{P Q:Nat}
theorem fin_aa (h:Bun w bx a bx2 a2 ρ ρ2 S S2 (.slice A1 n z1) (.slice A2 n z2) bb W):Fin2 w bx a bx2 a2 ρ ρ2 S S2 er A1 A2 n z1 z2 bb W.heap.size (W.heap.size+1) ((W.alloc (.cells #[.int .i64 er,.slice A1 n z1] 38)).alloc (.cells #[.int .i64 er,.slice A2 n z2] 38)):=by
 refine⟨(h.alloc _).alloc _,(Blk.new W 38 _).alloc _,?_⟩
 have:=Blk.new (W.alloc (.cells #[.int .i64 er,.slice A1 n z1] 38)) 38 #[.int .i64 er,.slice A2 n z2]
 rw[World.size_alloc]at this
 exact this
theorem fin_ab (h:Bun w bx a bx2 a2 ρ ρ2 S S2 (.slice A1 n z1) (.slice A2 n z2) bb W):Fin2 w bx a bx2 a2 ρ ρ2 S S2 er A1 A2 n z1 z2 bb (W.heap.size+1) W.heap.size ((W.alloc (.cells #[.int .i64 er,.slice A2 n z2] 38)).alloc (.cells #[.int .i64 er,.slice A1 n z1] 38)):=by
 refine⟨(h.alloc _).alloc _,?_,(Blk.new W 38 _).alloc _⟩
 have:=Blk.new (W.alloc (.cells #[.int .i64 er,.slice A2 n z2] 38)) 38 #[.int .i64 er,.slice A1 n z1]
 rw[World.size_alloc]at this
 exact this
theorem set2_size (W:World) (P:Nat) (u v:Value):((W.setCell ⟨P,0,none⟩ u).setCell ⟨P,1,none⟩ v).heap.size=W.heap.size:=by simp[World.setCell]
theorem Bun.set2 (h:Bun w bx a bx2 a2 ρ ρ2 S S2 (.slice A1 n z1) (.slice A2 n z2) bb W) (hb:Blk W P 38 #[.int .i64 0,.slice none 0 0]) (t1:Tr (ρ P)) (t2:Tr (ρ2 P)) (hP:w.heap.size<=P) (B:Option Addr) (m d:Nat):
 Bun w bx a bx2 a2 ρ ρ2 S S2 (.slice A1 n z1) (.slice A2 n z2) bb ((W.setCell ⟨P,0,none⟩ (.int .i64 er)).setCell ⟨P,1,none⟩ (.slice B m d))/\Blk ((W.setCell ⟨P,0,none⟩ (.int .i64 er)).setCell ⟨P,1,none⟩ (.slice B m d)) P 38 #[.int .i64 er,.slice B m d]:=by
 have b1:Blk (W.setCell ⟨P,0,none⟩ (.int .i64 er)) P 38 #[.int .i64 er,.slice none 0 0]:=hb.set_to 0 (.int .i64 er) rfl
 exact⟨(h.set1 hb t1 t2 hP 0 _).set1 b1 t1 t2 hP 1 _,b1.set_to 1 _ rfl⟩
theorem fin_sa (h:Bun w bx a bx2 a2 ρ ρ2 S S2 (.slice A1 n z1) (.slice A2 n z2) bb W) (hb:Blk W P 38 #[.int .i64 0,.slice none 0 0]) (t1:Tr (ρ P)) (t2:Tr (ρ2 P)) (hP:w.heap.size<=P):Fin2 w bx a bx2 a2 ρ ρ2 S S2 er A1 A2 n z1 z2 bb P W.heap.size (((W.setCell ⟨P,0,none⟩ (.int .i64 er)).setCell ⟨P,1,none⟩ (.slice A1 n z1)).alloc (.cells #[.int .i64 er,.slice A2 n z2] 38)):=by
 obtain⟨k1,k2⟩:=h.set2 (er:=er) hb t1 t2 hP A1 n z1
 refine⟨k1.alloc _,k2.alloc _,?_⟩
 have:=Blk.new ((W.setCell ⟨P,0,none⟩ (.int .i64 er)).setCell ⟨P,1,none⟩ (.slice A1 n z1)) 38 #[.int .i64 er,.slice A2 n z2]
 rw[set2_size]at this
 exact this
theorem fin_sb (h:Bun w bx a bx2 a2 ρ ρ2 S S2 (.slice A1 n z1) (.slice A2 n z2) bb W) (hb:Blk W P 38 #[.int .i64 0,.slice none 0 0]) (t1:Tr (ρ P)) (t2:Tr (ρ2 P)) (hP:w.heap.size<=P):Fin2 w bx a bx2 a2 ρ ρ2 S S2 er A1 A2 n z1 z2 bb W.heap.size P (((W.setCell ⟨P,0,none⟩ (.int .i64 er)).setCell ⟨P,1,none⟩ (.slice A2 n z2)).alloc (.cells #[.int .i64 er,.slice A1 n z1] 38)):=by
 obtain⟨k1,k2⟩:=h.set2 (er:=er) hb t1 t2 hP A2 n z2
 refine⟨k1.alloc _,?_,k2.alloc _⟩
 have:=Blk.new ((W.setCell ⟨P,0,none⟩ (.int .i64 er)).setCell ⟨P,1,none⟩ (.slice A2 n z2)) 38 #[.int .i64 er,.slice A1 n z1]
 rw[set2_size]at this
 exact this
theorem fin_ss (h:Bun w bx a bx2 a2 ρ ρ2 S S2 (.slice A1 n z1) (.slice A2 n z2) bb W) (hb:Blk W P 38 #[.int .i64 0,.slice none 0 0]) (t1:Tr (ρ P)) (t2:Tr (ρ2 P)) (hP:w.heap.size<=P) (hc:Blk W Q 38 #[.int .i64 0,.slice none 0 0]) (u1:Tr (ρ Q)) (u2:Tr (ρ2 Q)) (hQ:w.heap.size<=Q) (hne:P≠Q):
 Fin2 w bx a bx2 a2 ρ ρ2 S S2 er A1 A2 n z1 z2 bb P Q ((((W.setCell ⟨P,0,none⟩ (.int .i64 er)).setCell ⟨P,1,none⟩ (.slice A1 n z1)).setCell ⟨Q,0,none⟩ (.int .i64 er)).setCell ⟨Q,1,none⟩ (.slice A2 n z2)):=by
 obtain⟨k1,k2⟩:=h.set2 (er:=er) hb t1 t2 hP A1 n z1
 have hc':Blk ((W.setCell ⟨P,0,none⟩ (.int .i64 er)).setCell ⟨P,1,none⟩ (.slice A1 n z1)) Q 38 #[.int .i64 0,.slice none 0 0]:=(hc.far (p:=⟨P,0,none⟩) hne.symm _).far (p:=⟨P,1,none⟩) hne.symm _
 obtain⟨k3,k4⟩:=k1.set2 (er:=er) hc' u1 u2 hQ A2 n z2
 exact⟨k3,(k2.far (p:=⟨Q,0,none⟩) hne _).far (p:=⟨Q,1,none⟩) hne _,k4⟩
end
theorem Two2.call' (HO:OpenOk) (HS:SumOk) (HT:ShutOk) {w:World}{bx:Nat}{a:Ads}{bx2:Nat}{a2:Ads}{wr:World}{ρ ρ2:Rl}{S S2:Bst}(h:Two2 w bx a bx2 a2 wr ρ ρ2 S S2) {k t b o:Nat}{k' kd l N F:Int}{data:By}{V D K:Option Addr}{vn vc dn dc kn kc:Nat}{ks:List Bool}(hx:ActX w b o ⟨k',kd,l,N,F,data,V,vn,vc,D,dn,dc,K,kn,kc⟩ ks)
 (hP:∃E,Per S.C E) (hC:Cok S.C k t) (htw:S.dead=false->S.C.tw) (hdo:S.C.W.dsk.ok) (hn:S.n<=1000) (hk:k<=200000) (ht:t<=900) (h4:k'≠4) (h6:k'≠6) (hk1:kn<=1000):
 Calls Tryz.prog 9 #[.pointer (some ⟨bx,0,none⟩),.agg #[.int .i64 k',.int .i64 kd,.int .i64 l,.slice V vn vc,.int .i64 N,.int .i64 F,.slice D dn dc,.slice K kn kc]] wr fun e w'=>∃v,e=.returned (.agg #[.int .i64 (bact S k' kd l N data ks).1,v])/\∃ρ',HasP (fun b=>Tr (ρ2 b)) w' v (bact S k' kd l N data ks).2.1/\Two2 w bx a bx2 a2 w' ρ' ρ2 (bact S k' kd l N data ks).2.2 S2/\Ste rtX (mark ρ ρ2) wr ρ' w':=
 h.call HO HS HT hx hP hC htw hdo hn hk ht h4 h6 hk1
theorem new_bst {ρ:Rl}{w:World}{bx:Nat}{a:Ads}{cc m ag n:Nat}{i:Bool}(h:BoxR ρ w bx a cc m ag (.slice none 0 0) (newC n 1 i)):BstR ρ w bx a ⟨newC n 1 i,false,0⟩:=
 ⟨_,_,h.1,h.2.1,h.2.2.wld,⟨[],⟨by simp,.inl ⟨rfl,rfl⟩⟩,fun b hb=>by simp[Value.ownBlock]at hb⟩,.inr ⟨rfl,cc,m,ag,rfl,h.2.2⟩⟩
theorem ActAt.drewA {w:World}{b o:Nat}{x:ActV}(h:ActAt w b o x):ActAt w.drew b o x:=⟨h.cell,h.data.below_ ((Below.refl _ _).drew),h.vlen,h.dlen,h.klen⟩
theorem ActAt.allocA {w:World}{b o:Nat}{x:ActV}(h:ActAt w b o x) (hb:b<w.heap.size) (ob:Obj):ActAt (w.alloc ob) b o x:=h.below_ hb ((Below.refl _ _).alloc (Nat.le_refl _) ob)
theorem lt_alloc {w:World}{b:Nat}(h:b<w.heap.size) (ob:Obj):b<(w.alloc ob).heap.size:=by rw[World.size_alloc];omega
set_option maxHeartbeats 16000000 in
set_option maxRecDepth 100000 in
theorem treal_ok (HO:OpenOk) (HS:SumOk) (HT:ShutOk) (lg:Int) (A:Option Addr) (len cap:Nat) (w:World) (h:ActXRow w A len) (hl:len<=9223372036854775807):
 Calls Tryz.prog 5 #[.int .i64 lg,.slice A len cap] w fun e w'=>e=.returned (.bool true)/\Below w.heap.size w w':=by
 have hlo:=longx_ok A len cap w h.row hl
 have H:=Lib.hid h
 clear h
 by_cases g1:lg<2
 ·go_enter Tryz.func5,Tryz.ntmps5
  go_wp2_with fail
  go_ret
  exact⟨rfl,Below.refl _ _⟩
 ·by_cases g2:4<lg
  ·go_enter Tryz.func5,Tryz.ntmps5
   go_wp2_with fail
   go_ret
   exact⟨rfl,Below.refl _ _⟩
  ·have g3:lg=2\/lg=3\/lg=4:=by omega
   clear g1 g2
   rcases g3 with rfl|rfl|rfl
   ·go_enter Tryz.func5,Tryz.ntmps5
    go_wp2_with fail
    refine hlo.mono ?_
    rintro e w1 ⟨lb,rfl,hlb,q1⟩
    clear hlo
    cases lb with
    |true=>
     go_wp2_with fail
     go_ret
     exact⟨rfl,q1⟩
    |false=>
     have hp:Calls Tryz.prog 7 #[.int .i64 4,.int .u64 1,.bool true] w1 fun e w'=>∃bx,e=.returned (.tuple #[.pointer (some ⟨bx,0,none⟩),.int .i64 0])/\∃ρ' a cc m ag,BoxR ρ' w' bx a cc m ag (.slice none 0 0) (newC 4 1 true)/\Ste rtC (fun _=>0) w1 ρ' w':=pnew_box HO HS HT 4 1 true w1 (fun _=>0) (fun _ _=>rfl) (by unfold V;omega) (by omega)
     have hp2:∀W,Calls Tryz.prog 7 #[.int .i64 4,.int .u64 1,.bool false] W fun e w'=>∃bx,e=.returned (.tuple #[.pointer (some ⟨bx,0,none⟩),.int .i64 0])/\∃ρ' a cc m ag,BoxR ρ' w' bx a cc m ag (.slice none 0 0) (newC 4 1 false)/\Ste rtC (fun _=>0) W ρ' w':=fun W=>pnew_box HO HS HT 4 1 false W (fun _=>0) (fun _ _=>rfl) (by unfold V;omega) (by omega)
     obtain⟨hl200,hkn⟩:=hlb rfl
     have HKN:=Lib.hid hkn
     clear hlb hkn
     go_wp2_with fail
     refine hp.mono ?_
     rintro e w2 ⟨bx,rfl,ρ1,a,cc,m,ag,hB2,s2⟩
     clear hp
     have HB2:=Lib.hid (And.intro q1 (And.intro hB2 s2))
     clear q1 hB2 s2
     go_wp2_with fail
     refine(hp2 w2).mono ?_
     rintro e w3 ⟨bx2,rfl,ρ2,a2,cc2,m2,ag2,hB3,s3⟩
     clear hp2
     obtain⟨q1,hB2,s2⟩:=HB2.out
     have h0:Rnd2 w bx a bx2 a2 0 w3 ρ1 ρ2 ⟨newC 4 1 true,false,0⟩ ⟨newC 4 1 false,false,0⟩:=by
      refine⟨⟨?_,?_,fun b hb=>⟨?_,?_⟩,fun b=>?_,fun i hi=>s2.fresh i (Nat.le_trans s3.size hi),s3.fresh,?_⟩,new_rs 4 1 true false (by unfold V;omega)⟩
      ·have hb:=new_bst hB2
       exact hb.keep s3.size (fun b hb e=>⟨s3.ch.keep b hb rtC0,rfl⟩)
      ·exact new_bst hB3
      ·exact s2.old b (Nat.lt_of_lt_of_le hb q1.size)
      ·exact s3.old b (Nat.lt_of_lt_of_le hb (Nat.le_trans q1.size s2.size))
      ·rcases Nat.lt_or_ge b w2.heap.size with c|c
       ·exact .inr (.inl (s3.old b c))
       ·exact .inl (.inl (s2.fresh b c))
      ·exact(q1.trans ((s2.below (Nat.le_refl _) (fun _ _=>rtC0)).mono q1.size)).trans ((s3.below (Nat.le_refl _) (fun _ _=>rtC0)).mono (Nat.le_trans q1.size s2.size))
     have H3:=Lib.hid h0
     clear q1 hB2 s2 hB3 s3 h0 HB2
     go_wp2_with fail
     go_loopw [9] (fun t wr=>∃i:Nat,t=.int .i64 i/\i<=len/\∃ρr ρr2 S S2,Rnd2 w bx a bx2 a2 i wr ρr ρr2 S S2) (fun t _=>len-(intOf t).toNat)
     case atStart=>exact⟨0,rfl,by omega,_,_,_,_,H3.out⟩
     case round=>
      obtain⟨i,rfl,hi,ρr,ρr2,S,S2,hr⟩:=hrel
      by_cases hlt:i<len
      ·rcases H.out with hz|⟨b,off,rfl,hb,hx⟩
       ·omega
       ·obtain⟨x,ks,hx⟩:=hx i hlt
        have hk100:=HKN.out b off rfl i hlt x hx.at_
        have m0:(0:Int)<=(i:Int):=by omega
        have m1:(i:Int)<(len:Int):=by omega
        have hxr:=hx.below_ hb hr.two.bel
        have hx0:=hx
        obtain⟨k,kd,l,N,F,data,V,vn,vc,D,dn,dc,K,kn,kc⟩:=x
        obtain⟨c0,c1,c2,c3,c4,c5,c6,c7⟩:=s8 hxr.at_
        have lb:=Nat.lt_of_lt_of_le hb hr.two.bel.size
        have hfoe:=foe_ok k kd l N F V D K vn dn kn vc dc kc
        have HR:=Lib.hid (And.intro hr (And.intro hx hk100))
        by_cases kf:k=4\/k=6
        ·have hdf:decide (k=4\/k=6)=true:=by simpa using kf
         rw[hdf]at hfoe
         clear hr hx hxr hk100
         go_wp2_with fail
         refine(hfoe _).mono ?_
         rintro e w5 ⟨rfl,q5⟩
         have HQ:=Lib.hid q5
         clear c0 c1 c2 c3 c4 c5 c6 c7 hfoe q5
         go_wp2_with fail
         go_roundw
         case rel=>exact⟨i+1,by go_num,by omega,_,_,_,_,HR.out.1.next HQ.out⟩
         case measure=>simp[intOf];omega
        ·have hdf:decide (k=4\/k=6)=false:=by simpa using kf
         rw[hdf]at hfoe
         clear hr hx hxr hk100
         go_wp2_with fail
         refine(hfoe _).mono ?_
         rintro e w5 ⟨rfl,q5⟩
         clear c0 c1 c2 c3 c4 c5 c6 c7 hfoe
         obtain⟨hr,hx,hk100⟩:=HR.out
         have T5:=hr.two.below_ q5
         have bel:=T5.bel
         have hx5:=hx.below_ hb bel
         have hact:=hr.rs.act (by omega) (by omega) k kd l N data ks
         obtain⟨R,hRR⟩:∃R,R=bact S k kd l N data ks:=⟨_,rfl⟩
         obtain⟨R2,hRR2⟩:∃R2,R2=bact S2 k kd l N data ks:=⟨_,rfl⟩
         have hcall:=fun W (q:Below w5.heap.size w5 W)=>(T5.below_ q).call' HO HS HT hx (hr.rs.facts (by omega)).1.1 (hr.rs.facts (by omega)).1.2.1 (hr.rs.facts (by omega)).1.2.2.1 (hr.rs.facts (by omega)).1.2.2.2.1 (hr.rs.facts (by omega)).1.2.2.2.2 (by omega) (by omega) (fun e=>kf (.inl e)) (fun e=>kf (.inr e)) (Nat.le_trans hk100 (by omega))
         have hcall2:=fun W ρ' S' (T:Two2 w bx a bx2 a2 W ρ' ρr2 S' S2)=>T.swap.call' HO HS HT hx (hr.rs.facts (by omega)).2.1 (hr.rs.facts (by omega)).2.2.1 (hr.rs.facts (by omega)).2.2.2.1 (hr.rs.facts (by omega)).2.2.2.2.1 (hr.rs.facts (by omega)).2.2.2.2.2 (by omega) (by omega) (fun e=>kf (.inl e)) (fun e=>kf (.inr e)) (Nat.le_trans hk100 (by omega))
         simp only[<-hRR,<-hRR2]at hact hcall hcall2
         obtain⟨er,bb,S'⟩:=R
         obtain⟨er2,bb2,S2'⟩:=R2
         simp only at hact hcall hcall2
         obtain⟨rfl,rfl,hrs'⟩:=hact
         have HC1:=Lib.hid hcall
         have HC2:=Lib.hid hcall2
         have HS':=Lib.hid hrs'
         have HXX:=Lib.hid (And.intro hb hx.at_)
         obtain⟨nb,hnb⟩:∃nb,bb.length=nb:=⟨_,rfl⟩
         have HNB:=Lib.hid hnb
         clear hnb
         have l5:b<w5.heap.size:=Nat.lt_of_lt_of_le hb bel.size
         have q:Below w5.heap.size w5 w5.drew:=(Below.refl _ _).drew
         have hxa:=hx5.at_
         have l50:=l5
         have hw5:=bel.size
         have T5f:=T5.fresh
         have T5f2:=T5.fresh2
         clear hr hx hk100 q5 T5 hx5 hcall hcall2 hrs' hRR hRR2
         go_wp2_with fail
         go_region_held3 (fun w'=>w'.cell? ⟨b,off+i*8,none⟩=some (.int .i64 k)/\w'.cell? ⟨b,off+i*8+1,none⟩=some (.int .i64 kd)/\w'.cell? ⟨b,off+i*8+2,none⟩=some (.int .i64 l)/\w'.cell? ⟨b,off+i*8+3,none⟩=some (.slice V vn vc)/\w'.cell? ⟨b,off+i*8+4,none⟩=some (.int .i64 N)/\w'.cell? ⟨b,off+i*8+5,none⟩=some (.int .i64 F)/\w'.cell? ⟨b,off+i*8+6,none⟩=some (.slice D dn dc)/\w'.cell? ⟨b,off+i*8+7,none⟩=some (.slice K kn kc))
          (first|(with_reducible exact s8 hxa)|((with_reducible refine s8c (data:=data) ?_);(iterate 12 (first|(with_reducible exact ActC.of hxa)|(with_reducible refine ActC.drew ?_)|(with_reducible refine ActC.alloc ?_ _)|(with_reducible refine ActC.far ?_ (by simp only;omega) _)|skip));done))
          (first
            |(go_at_call 9;have hX0q:=hX0;have hX1q:=hX1;(with_reducible refine(HC2.out _ _ _ (T6.below_ (Below.refl _ _))).mono ?_);rintro e w7 ⟨v2,rfl,ρ7,hv2,T7,hs2⟩;obtain⟨A2,z2,rfl⟩:=hv2.slice;rw[HNB.out]at hv2 ⊢;replace hX0:=hs2.blkT (BT.swap hX0);have hX0c:=hX0.1.cell_ 0 rfl;have hX0d:=hX0.1.cell_ 1 rfl;have hX0f:=hX0.1.frozen 0;have hX0g:=hX0.1.frozen 1;have hX0l:=hX0.1.lt;replace hX1:=hs2.blkT (BT.swap hX1);have hX1c:=hX1.1.cell_ 0 rfl;have hX1d:=hX1.1.cell_ 1 rfl;have hX1f:=hX1.1.frozen 0;have hX1g:=hX1.1.frozen 1;have hX1l:=hX1.1.lt;have ne0:w5.heap.size≠w5.heap.size+1:=(by omega);have ne0b:w5.heap.size+1≠w5.heap.size:=(by omega);have hv1:=told_keep hs2 HV1.out;replace hxa:=(HXX.out.2).below_ HXX.out.1 T7.bel;replace l5:=Nat.lt_of_lt_of_le HXX.out.1 T7.bel.size;have s67:w6.heap.size<=w7.heap.size:=(by have:=hs2.size;(try simp at this);omega);clear hs2)
            |(go_at_call 9;have hX0q:=hX0;(with_reducible refine(HC2.out _ _ _ (T6.below_ ((Below.refl _ _).alloc (Nat.le_refl _) _))).mono ?_);rintro e w7 ⟨v2,rfl,ρ7,hv2,T7,hs2⟩;obtain⟨A2,z2,rfl⟩:=hv2.slice;rw[HNB.out]at hv2 ⊢;replace hX0:=hs2.blkT (BT.swap (BT.alloc hX0 _));have hX0c:=hX0.1.cell_ 0 rfl;have hX0d:=hX0.1.cell_ 1 rfl;have hX0f:=hX0.1.frozen 0;have hX0g:=hX0.1.frozen 1;have hX0l:=hX0.1.lt;have hY0:=hs2.blkT (BT.new T6.fresh2 T6.fresh 38 #[.int .i64 0,.slice none 0 0]);have hY0c:=hY0.1.cell_ 0 rfl;have hY0d:=hY0.1.cell_ 1 rfl;have hY0f:=hY0.1.frozen 0;have hY0g:=hY0.1.frozen 1;have hY0l:=hY0.1.lt;have ne0:w5.heap.size≠w6.heap.size:=(by omega);have ne0b:w6.heap.size≠w5.heap.size:=(by omega);have hv1:=told_keep hs2 (HV1.out.alloc _);replace hxa:=(HXX.out.2).below_ HXX.out.1 T7.bel;replace l5:=Nat.lt_of_lt_of_le HXX.out.1 T7.bel.size;have s67:w6.heap.size<=w7.heap.size:=(by have:=hs2.size;(try simp at this);omega);clear hs2)
            |(go_at_call 9;have hX0q:=hX0;(with_reducible refine(HC2.out _ _ _ (T6.below_ (Below.refl _ _))).mono ?_);rintro e w7 ⟨v2,rfl,ρ7,hv2,T7,hs2⟩;obtain⟨A2,z2,rfl⟩:=hv2.slice;rw[HNB.out]at hv2 ⊢;replace hX0:=hs2.blkT (BT.swap hX0);have hX0c:=hX0.1.cell_ 0 rfl;have hX0d:=hX0.1.cell_ 1 rfl;have hX0f:=hX0.1.frozen 0;have hX0g:=hX0.1.frozen 1;have hX0l:=hX0.1.lt;have ne0:w5.heap.size≠w7.heap.size:=(by omega);have ne0b:w7.heap.size≠w5.heap.size:=(by omega);have hv1:=told_keep hs2 HV1.out;replace hxa:=(HXX.out.2).below_ HXX.out.1 T7.bel;replace l5:=Nat.lt_of_lt_of_le HXX.out.1 T7.bel.size;have s67:w6.heap.size<=w7.heap.size:=(by have:=hs2.size;(try simp at this);omega);clear hs2)
            |(go_at_call 9;(with_reducible refine(HC2.out _ _ _ (T6.below_ (((Below.refl _ _).alloc (Nat.le_refl _) _).alloc (by simp) _))).mono ?_);rintro e w7 ⟨v2,rfl,ρ7,hv2,T7,hs2⟩;obtain⟨A2,z2,rfl⟩:=hv2.slice;rw[HNB.out]at hv2 ⊢;have hY0:=hs2.blkT (BT.alloc (BT.new T6.fresh2 T6.fresh 38 #[.int .i64 0,.slice none 0 0]) _);have hY0c:=hY0.1.cell_ 0 rfl;have hY0d:=hY0.1.cell_ 1 rfl;have hY0f:=hY0.1.frozen 0;have hY0g:=hY0.1.frozen 1;have hY0l:=hY0.1.lt;have hY1:=hs2.blkT (BT.new2 T6.fresh2 T6.fresh 38 #[.int .i64 0,.slice none 0 0] #[.int .i64 0,.slice none 0 0] 38);have hY1c:=hY1.1.cell_ 0 rfl;have hY1d:=hY1.1.cell_ 1 rfl;have hY1f:=hY1.1.frozen 0;have hY1g:=hY1.1.frozen 1;have hY1l:=hY1.1.lt;have ne0:w6.heap.size≠w6.heap.size+1:=(by omega);have ne0b:w6.heap.size+1≠w6.heap.size:=(by omega);have hv1:=told_keep hs2 ((HV1.out.alloc _).alloc _);replace hxa:=(HXX.out.2).below_ HXX.out.1 T7.bel;replace l5:=Nat.lt_of_lt_of_le HXX.out.1 T7.bel.size;have s67:w6.heap.size<=w7.heap.size:=(by have:=hs2.size;(try simp at this);omega);clear hs2)
            |(go_at_call 9;(with_reducible refine(HC2.out _ _ _ (T6.below_ ((Below.refl _ _).alloc (Nat.le_refl _) _))).mono ?_);rintro e w7 ⟨v2,rfl,ρ7,hv2,T7,hs2⟩;obtain⟨A2,z2,rfl⟩:=hv2.slice;rw[HNB.out]at hv2 ⊢;have hY0:=hs2.blkT (BT.new T6.fresh2 T6.fresh 38 #[.int .i64 0,.slice none 0 0]);have hY0c:=hY0.1.cell_ 0 rfl;have hY0d:=hY0.1.cell_ 1 rfl;have hY0f:=hY0.1.frozen 0;have hY0g:=hY0.1.frozen 1;have hY0l:=hY0.1.lt;have ne0:w6.heap.size≠w7.heap.size:=(by omega);have ne0b:w7.heap.size≠w6.heap.size:=(by omega);have hv1:=told_keep hs2 (HV1.out.alloc _);replace hxa:=(HXX.out.2).below_ HXX.out.1 T7.bel;replace l5:=Nat.lt_of_lt_of_le HXX.out.1 T7.bel.size;have s67:w6.heap.size<=w7.heap.size:=(by have:=hs2.size;(try simp at this);omega);clear hs2)
            |(go_at_call 9;(with_reducible refine(HC2.out _ _ _ (T6.below_ (Below.refl _ _))).mono ?_);rintro e w7 ⟨v2,rfl,ρ7,hv2,T7,hs2⟩;obtain⟨A2,z2,rfl⟩:=hv2.slice;rw[HNB.out]at hv2 ⊢;have hv1:=told_keep hs2 HV1.out;replace hxa:=(HXX.out.2).below_ HXX.out.1 T7.bel;replace l5:=Nat.lt_of_lt_of_le HXX.out.1 T7.bel.size;have s67:w6.heap.size<=w7.heap.size:=(by have:=hs2.size;(try simp at this);omega);clear hs2)
            |(go_at_call 9;(with_reducible refine(HC1.out _ (by first|exact(((Below.refl _ _).alloc (Nat.le_refl _) _).drew)|exact(q.alloc q.size _))).mono ?_);rintro e w6 ⟨v1,rfl,ρ6,hv1,T6,hs1⟩;obtain⟨A1,z1,rfl⟩:=hv1.slice;rw[HNB.out]at hv1 ⊢;have hX0:=hs1.blkT (by first|exact(BT.drew (BT.new T5f T5f2 38 #[.int .i64 0,.slice none 0 0]))|exact(BT.new (fun i hi=>T5f i hi) (fun i hi=>T5f2 i hi) 38 #[.int .i64 0,.slice none 0 0]));have nx:w5.heap.size<w6.heap.size:=hX0.1.lt;replace hxa:=(HXX.out.2).below_ HXX.out.1 T6.bel;replace l5:=Nat.lt_of_lt_of_le HXX.out.1 T6.bel.size;have s56:w5.heap.size<=w6.heap.size:=(by have:=hs1.size;(try simp at this);omega);have HV1:=Lib.hid hv1;clear hv1 hs1)
            |(go_at_call 9;(with_reducible refine(HC1.out _ (by first|exact((((Below.refl _ _).alloc (Nat.le_refl _) _).alloc (by simp) _).drew))).mono ?_);rintro e w6 ⟨v1,rfl,ρ6,hv1,T6,hs1⟩;obtain⟨A1,z1,rfl⟩:=hv1.slice;rw[HNB.out]at hv1 ⊢;have hX0:=hs1.blkT (BT.drew (BT.alloc (BT.new T5f T5f2 38 #[.int .i64 0,.slice none 0 0]) _));have hX1:=hs1.blkT (BT.drew (BT.new2 T5f T5f2 38 #[.int .i64 0,.slice none 0 0] #[.int .i64 0,.slice none 0 0] 38));have nx:w5.heap.size+1<w6.heap.size:=hX1.1.lt;replace hxa:=(HXX.out.2).below_ HXX.out.1 T6.bel;replace l5:=Nat.lt_of_lt_of_le HXX.out.1 T6.bel.size;have s56:w5.heap.size<=w6.heap.size:=(by have:=hs1.size;(try simp at this);omega);have HV1:=Lib.hid hv1;clear hv1 hs1)
            |(go_at_call 9;(with_reducible refine(HC1.out _ q).mono ?_);rintro e w6 ⟨v1,rfl,ρ6,hv1,T6,hs1⟩;obtain⟨A1,z1,rfl⟩:=hv1.slice;rw[HNB.out]at hv1 ⊢;skip;replace hxa:=(HXX.out.2).below_ HXX.out.1 T6.bel;replace l5:=Nat.lt_of_lt_of_le HXX.out.1 T6.bel.size;have s56:w5.heap.size<=w6.heap.size:=(by have:=hs1.size;(try simp at this);omega);have HV1:=Lib.hid hv1;clear hv1 hs1))
         all_goals
          have hb7:Bun w bx2 a2 bx a ρ7 ρ6 S2' S' (.slice A1 nb z1) (.slice A2 nb z2) bb w7:=⟨T7,hv1,hv2.weak (fun _ _=>trivial)⟩
          first
           |(refine gen_world (F:=Fin2 w bx2 a2 bx a ρ7 ρ6 S2' S' er A1 A2 nb z1 z2 bb (w7.heap.size) (w7.heap.size+1)) (by with_reducible exact fin_aa hb7) ?_)
           |(refine gen_world (F:=Fin2 w bx2 a2 bx a ρ7 ρ6 S2' S' er A1 A2 nb z1 z2 bb (w7.heap.size+1) (w7.heap.size)) (by with_reducible exact fin_ab hb7) ?_)
           |(refine gen_world (F:=Fin2 w bx2 a2 bx a ρ7 ρ6 S2' S' er A1 A2 nb z1 z2 bb (w5.heap.size) (w7.heap.size)) (by with_reducible exact fin_sa hb7 hX0.1 hX0.2.1 hX0.2.2 (by omega)) ?_)
           |(refine gen_world (F:=Fin2 w bx2 a2 bx a ρ7 ρ6 S2' S' er A1 A2 nb z1 z2 bb (w7.heap.size) (w5.heap.size)) (by with_reducible exact fin_sb hb7 hX0.1 hX0.2.1 hX0.2.2 (by omega)) ?_)
           |(refine gen_world (F:=Fin2 w bx2 a2 bx a ρ7 ρ6 S2' S' er A1 A2 nb z1 z2 bb (w5.heap.size+1) (w7.heap.size)) (by with_reducible exact fin_sa hb7 hX1.1 hX1.2.1 hX1.2.2 (by omega)) ?_)
           |(refine gen_world (F:=Fin2 w bx2 a2 bx a ρ7 ρ6 S2' S' er A1 A2 nb z1 z2 bb (w7.heap.size) (w5.heap.size+1)) (by with_reducible exact fin_sb hb7 hX1.1 hX1.2.1 hX1.2.2 (by omega)) ?_)
           |(refine gen_world (F:=Fin2 w bx2 a2 bx a ρ7 ρ6 S2' S' er A1 A2 nb z1 z2 bb (w6.heap.size) (w7.heap.size)) (by with_reducible exact fin_sa hb7 hY0.1 hY0.2.1 hY0.2.2 (by omega)) ?_)
           |(refine gen_world (F:=Fin2 w bx2 a2 bx a ρ7 ρ6 S2' S' er A1 A2 nb z1 z2 bb (w7.heap.size) (w6.heap.size)) (by with_reducible exact fin_sb hb7 hY0.1 hY0.2.1 hY0.2.2 (by omega)) ?_)
           |(refine gen_world (F:=Fin2 w bx2 a2 bx a ρ7 ρ6 S2' S' er A1 A2 nb z1 z2 bb (w6.heap.size+1) (w7.heap.size)) (by with_reducible exact fin_sa hb7 hY1.1 hY1.2.1 hY1.2.2 (by omega)) ?_)
           |(refine gen_world (F:=Fin2 w bx2 a2 bx a ρ7 ρ6 S2' S' er A1 A2 nb z1 z2 bb (w7.heap.size) (w6.heap.size+1)) (by with_reducible exact fin_sb hb7 hY1.1 hY1.2.1 hY1.2.2 (by omega)) ?_)
           |(refine gen_world (F:=Fin2 w bx2 a2 bx a ρ7 ρ6 S2' S' er A1 A2 nb z1 z2 bb (w5.heap.size) (w5.heap.size+1)) (by with_reducible exact fin_ss hb7 hX0.1 hX0.2.1 hX0.2.2 (by omega) hX1.1 hX1.2.1 hX1.2.2 (by omega) (by omega)) ?_)
           |(refine gen_world (F:=Fin2 w bx2 a2 bx a ρ7 ρ6 S2' S' er A1 A2 nb z1 z2 bb (w5.heap.size+1) (w5.heap.size)) (by with_reducible exact fin_ss hb7 hX1.1 hX1.2.1 hX1.2.2 (by omega) hX0.1 hX0.2.1 hX0.2.2 (by omega) (by omega)) ?_)
           |(refine gen_world (F:=Fin2 w bx2 a2 bx a ρ7 ρ6 S2' S' er A1 A2 nb z1 z2 bb (w5.heap.size) (w6.heap.size)) (by with_reducible exact fin_ss hb7 hX0.1 hX0.2.1 hX0.2.2 (by omega) hY0.1 hY0.2.1 hY0.2.2 (by omega) (by omega)) ?_)
           |(refine gen_world (F:=Fin2 w bx2 a2 bx a ρ7 ρ6 S2' S' er A1 A2 nb z1 z2 bb (w6.heap.size) (w5.heap.size)) (by with_reducible exact fin_ss hb7 hY0.1 hY0.2.1 hY0.2.2 (by omega) hX0.1 hX0.2.1 hX0.2.2 (by omega) (by omega)) ?_)
           |(refine gen_world (F:=Fin2 w bx2 a2 bx a ρ7 ρ6 S2' S' er A1 A2 nb z1 z2 bb (w6.heap.size) (w6.heap.size+1)) (by with_reducible exact fin_ss hb7 hY0.1 hY0.2.1 hY0.2.2 (by omega) hY1.1 hY1.2.1 hY1.2.2 (by omega) (by omega)) ?_)
           |(refine gen_world (F:=Fin2 w bx2 a2 bx a ρ7 ρ6 S2' S' er A1 A2 nb z1 z2 bb (w6.heap.size+1) (w6.heap.size)) (by with_reducible exact fin_ss hb7 hY1.1 hY1.2.1 hY1.2.2 (by omega) hY0.1 hY0.2.1 hY0.2.2 (by omega) (by omega)) ?_)
          intro w8 hF8
          obtain⟨hb8,k1,k2⟩:=hF8
          have e0:=k1.cell_ 0 rfl
          have e1:=k1.cell_ 1 rfl
          have e2:=k2.cell_ 0 rfl
          have e3:=k2.cell_ 1 rfl
          have el1:=k1.lt
          have el2:=k2.lt
          have cv1:=conv_hp hb8.h1
          have cv2:=conv_hp hb8.h2
          have HT8:=Lib.hid hb8.two.swap
          clear hb7 hb8 k1 k2 hv1 hv2 hxa T7 T6
          go_wp2_with fail
          go_roundw
          case rel=>exact⟨i+1,by go_num,by omega,_,_,_,_,HT8.out,HS'.out.mono (by omega) (by omega)⟩
          case measure=>simp[intOf];omega
      ·have hin:i=len:=by omega
       subst hin
       have hkn:=tknown_ok HO HS HT wr
       have HB:=Lib.hid hr.two.bel
       clear hr
       go_wp2_with fail
       refine hkn.mono ?_
       rintro e w9 ⟨rfl,q9⟩
       have q:=HB.out.trans (q9.mono HB.out.size)
       have HQ:=Lib.hid q
       clear hkn q q9
       go_wp2_with fail
       go_ret
       exact⟨rfl,HQ.out⟩
   ·go_enter Tryz.func5,Tryz.ntmps5
    go_wp2_with fail
    refine hlo.mono ?_
    rintro e w1 ⟨lb,rfl,hlb,q1⟩
    clear hlo
    cases lb with
    |true=>
     go_wp2_with fail
     go_ret
     exact⟨rfl,q1⟩
    |false=>
     have hp:Calls Tryz.prog 7 #[.int .i64 8,.int .u64 1,.bool true] w1 fun e w'=>∃bx,e=.returned (.tuple #[.pointer (some ⟨bx,0,none⟩),.int .i64 0])/\∃ρ' a cc m ag,BoxR ρ' w' bx a cc m ag (.slice none 0 0) (newC 8 1 true)/\Ste rtC (fun _=>0) w1 ρ' w':=pnew_box HO HS HT 8 1 true w1 (fun _=>0) (fun _ _=>rfl) (by unfold V;omega) (by omega)
     have hp2:∀W,Calls Tryz.prog 7 #[.int .i64 8,.int .u64 1,.bool false] W fun e w'=>∃bx,e=.returned (.tuple #[.pointer (some ⟨bx,0,none⟩),.int .i64 0])/\∃ρ' a cc m ag,BoxR ρ' w' bx a cc m ag (.slice none 0 0) (newC 8 1 false)/\Ste rtC (fun _=>0) W ρ' w':=fun W=>pnew_box HO HS HT 8 1 false W (fun _=>0) (fun _ _=>rfl) (by unfold V;omega) (by omega)
     obtain⟨hl200,hkn⟩:=hlb rfl
     have HKN:=Lib.hid hkn
     clear hlb hkn
     go_wp2_with fail
     refine hp.mono ?_
     rintro e w2 ⟨bx,rfl,ρ1,a,cc,m,ag,hB2,s2⟩
     clear hp
     have HB2:=Lib.hid (And.intro q1 (And.intro hB2 s2))
     clear q1 hB2 s2
     go_wp2_with fail
     refine(hp2 w2).mono ?_
     rintro e w3 ⟨bx2,rfl,ρ2,a2,cc2,m2,ag2,hB3,s3⟩
     clear hp2
     obtain⟨q1,hB2,s2⟩:=HB2.out
     have h0:Rnd2 w bx a bx2 a2 0 w3 ρ1 ρ2 ⟨newC 8 1 true,false,0⟩ ⟨newC 8 1 false,false,0⟩:=by
      refine⟨⟨?_,?_,fun b hb=>⟨?_,?_⟩,fun b=>?_,fun i hi=>s2.fresh i (Nat.le_trans s3.size hi),s3.fresh,?_⟩,new_rs 8 1 true false (by unfold V;omega)⟩
      ·have hb:=new_bst hB2
       exact hb.keep s3.size (fun b hb e=>⟨s3.ch.keep b hb rtC0,rfl⟩)
      ·exact new_bst hB3
      ·exact s2.old b (Nat.lt_of_lt_of_le hb q1.size)
      ·exact s3.old b (Nat.lt_of_lt_of_le hb (Nat.le_trans q1.size s2.size))
      ·rcases Nat.lt_or_ge b w2.heap.size with c|c
       ·exact .inr (.inl (s3.old b c))
       ·exact .inl (.inl (s2.fresh b c))
      ·exact(q1.trans ((s2.below (Nat.le_refl _) (fun _ _=>rtC0)).mono q1.size)).trans ((s3.below (Nat.le_refl _) (fun _ _=>rtC0)).mono (Nat.le_trans q1.size s2.size))
     have H3:=Lib.hid h0
     clear q1 hB2 s2 hB3 s3 h0 HB2
     go_wp2_with fail
     go_loopw [9] (fun t wr=>∃i:Nat,t=.int .i64 i/\i<=len/\∃ρr ρr2 S S2,Rnd2 w bx a bx2 a2 i wr ρr ρr2 S S2) (fun t _=>len-(intOf t).toNat)
     case atStart=>exact⟨0,rfl,by omega,_,_,_,_,H3.out⟩
     case round=>
      obtain⟨i,rfl,hi,ρr,ρr2,S,S2,hr⟩:=hrel
      by_cases hlt:i<len
      ·rcases H.out with hz|⟨b,off,rfl,hb,hx⟩
       ·omega
       ·obtain⟨x,ks,hx⟩:=hx i hlt
        have hk100:=HKN.out b off rfl i hlt x hx.at_
        have m0:(0:Int)<=(i:Int):=by omega
        have m1:(i:Int)<(len:Int):=by omega
        have hxr:=hx.below_ hb hr.two.bel
        have hx0:=hx
        obtain⟨k,kd,l,N,F,data,V,vn,vc,D,dn,dc,K,kn,kc⟩:=x
        obtain⟨c0,c1,c2,c3,c4,c5,c6,c7⟩:=s8 hxr.at_
        have lb:=Nat.lt_of_lt_of_le hb hr.two.bel.size
        have hfoe:=foe_ok k kd l N F V D K vn dn kn vc dc kc
        have HR:=Lib.hid (And.intro hr (And.intro hx hk100))
        by_cases kf:k=4\/k=6
        ·have hdf:decide (k=4\/k=6)=true:=by simpa using kf
         rw[hdf]at hfoe
         clear hr hx hxr hk100
         go_wp2_with fail
         refine(hfoe _).mono ?_
         rintro e w5 ⟨rfl,q5⟩
         have HQ:=Lib.hid q5
         clear c0 c1 c2 c3 c4 c5 c6 c7 hfoe q5
         go_wp2_with fail
         go_roundw
         case rel=>exact⟨i+1,by go_num,by omega,_,_,_,_,HR.out.1.next HQ.out⟩
         case measure=>simp[intOf];omega
        ·have hdf:decide (k=4\/k=6)=false:=by simpa using kf
         rw[hdf]at hfoe
         clear hr hx hxr hk100
         go_wp2_with fail
         refine(hfoe _).mono ?_
         rintro e w5 ⟨rfl,q5⟩
         clear c0 c1 c2 c3 c4 c5 c6 c7 hfoe
         obtain⟨hr,hx,hk100⟩:=HR.out
         have T5:=hr.two.below_ q5
         have bel:=T5.bel
         have hx5:=hx.below_ hb bel
         have hact:=hr.rs.act (by omega) (by omega) k kd l N data ks
         obtain⟨R,hRR⟩:∃R,R=bact S k kd l N data ks:=⟨_,rfl⟩
         obtain⟨R2,hRR2⟩:∃R2,R2=bact S2 k kd l N data ks:=⟨_,rfl⟩
         have hcall:=fun W (q:Below w5.heap.size w5 W)=>(T5.below_ q).call' HO HS HT hx (hr.rs.facts (by omega)).1.1 (hr.rs.facts (by omega)).1.2.1 (hr.rs.facts (by omega)).1.2.2.1 (hr.rs.facts (by omega)).1.2.2.2.1 (hr.rs.facts (by omega)).1.2.2.2.2 (by omega) (by omega) (fun e=>kf (.inl e)) (fun e=>kf (.inr e)) (Nat.le_trans hk100 (by omega))
         have hcall2:=fun W ρ' S' (T:Two2 w bx a bx2 a2 W ρ' ρr2 S' S2)=>T.swap.call' HO HS HT hx (hr.rs.facts (by omega)).2.1 (hr.rs.facts (by omega)).2.2.1 (hr.rs.facts (by omega)).2.2.2.1 (hr.rs.facts (by omega)).2.2.2.2.1 (hr.rs.facts (by omega)).2.2.2.2.2 (by omega) (by omega) (fun e=>kf (.inl e)) (fun e=>kf (.inr e)) (Nat.le_trans hk100 (by omega))
         simp only[<-hRR,<-hRR2]at hact hcall hcall2
         obtain⟨er,bb,S'⟩:=R
         obtain⟨er2,bb2,S2'⟩:=R2
         simp only at hact hcall hcall2
         obtain⟨rfl,rfl,hrs'⟩:=hact
         have HC1:=Lib.hid hcall
         have HC2:=Lib.hid hcall2
         have HS':=Lib.hid hrs'
         have HXX:=Lib.hid (And.intro hb hx.at_)
         obtain⟨nb,hnb⟩:∃nb,bb.length=nb:=⟨_,rfl⟩
         have HNB:=Lib.hid hnb
         clear hnb
         have l5:b<w5.heap.size:=Nat.lt_of_lt_of_le hb bel.size
         have q:Below w5.heap.size w5 w5.drew:=(Below.refl _ _).drew
         have hxa:=hx5.at_
         have l50:=l5
         have hw5:=bel.size
         have T5f:=T5.fresh
         have T5f2:=T5.fresh2
         clear hr hx hk100 q5 T5 hx5 hcall hcall2 hrs' hRR hRR2
         go_wp2_with fail
         go_region_held3 (fun w'=>w'.cell? ⟨b,off+i*8,none⟩=some (.int .i64 k)/\w'.cell? ⟨b,off+i*8+1,none⟩=some (.int .i64 kd)/\w'.cell? ⟨b,off+i*8+2,none⟩=some (.int .i64 l)/\w'.cell? ⟨b,off+i*8+3,none⟩=some (.slice V vn vc)/\w'.cell? ⟨b,off+i*8+4,none⟩=some (.int .i64 N)/\w'.cell? ⟨b,off+i*8+5,none⟩=some (.int .i64 F)/\w'.cell? ⟨b,off+i*8+6,none⟩=some (.slice D dn dc)/\w'.cell? ⟨b,off+i*8+7,none⟩=some (.slice K kn kc))
          (first|(with_reducible exact s8 hxa)|((with_reducible refine s8c (data:=data) ?_);(iterate 12 (first|(with_reducible exact ActC.of hxa)|(with_reducible refine ActC.drew ?_)|(with_reducible refine ActC.alloc ?_ _)|(with_reducible refine ActC.far ?_ (by simp only;omega) _)|skip));done))
          (first
            |(go_at_call 9;have hX0q:=hX0;have hX1q:=hX1;(with_reducible refine(HC2.out _ _ _ (T6.below_ (Below.refl _ _))).mono ?_);rintro e w7 ⟨v2,rfl,ρ7,hv2,T7,hs2⟩;obtain⟨A2,z2,rfl⟩:=hv2.slice;rw[HNB.out]at hv2 ⊢;replace hX0:=hs2.blkT (BT.swap hX0);have hX0c:=hX0.1.cell_ 0 rfl;have hX0d:=hX0.1.cell_ 1 rfl;have hX0f:=hX0.1.frozen 0;have hX0g:=hX0.1.frozen 1;have hX0l:=hX0.1.lt;replace hX1:=hs2.blkT (BT.swap hX1);have hX1c:=hX1.1.cell_ 0 rfl;have hX1d:=hX1.1.cell_ 1 rfl;have hX1f:=hX1.1.frozen 0;have hX1g:=hX1.1.frozen 1;have hX1l:=hX1.1.lt;have ne0:w5.heap.size≠w5.heap.size+1:=(by omega);have ne0b:w5.heap.size+1≠w5.heap.size:=(by omega);have hv1:=told_keep hs2 HV1.out;replace hxa:=(HXX.out.2).below_ HXX.out.1 T7.bel;replace l5:=Nat.lt_of_lt_of_le HXX.out.1 T7.bel.size;have s67:w6.heap.size<=w7.heap.size:=(by have:=hs2.size;(try simp at this);omega);clear hs2)
            |(go_at_call 9;have hX0q:=hX0;(with_reducible refine(HC2.out _ _ _ (T6.below_ ((Below.refl _ _).alloc (Nat.le_refl _) _))).mono ?_);rintro e w7 ⟨v2,rfl,ρ7,hv2,T7,hs2⟩;obtain⟨A2,z2,rfl⟩:=hv2.slice;rw[HNB.out]at hv2 ⊢;replace hX0:=hs2.blkT (BT.swap (BT.alloc hX0 _));have hX0c:=hX0.1.cell_ 0 rfl;have hX0d:=hX0.1.cell_ 1 rfl;have hX0f:=hX0.1.frozen 0;have hX0g:=hX0.1.frozen 1;have hX0l:=hX0.1.lt;have hY0:=hs2.blkT (BT.new T6.fresh2 T6.fresh 38 #[.int .i64 0,.slice none 0 0]);have hY0c:=hY0.1.cell_ 0 rfl;have hY0d:=hY0.1.cell_ 1 rfl;have hY0f:=hY0.1.frozen 0;have hY0g:=hY0.1.frozen 1;have hY0l:=hY0.1.lt;have ne0:w5.heap.size≠w6.heap.size:=(by omega);have ne0b:w6.heap.size≠w5.heap.size:=(by omega);have hv1:=told_keep hs2 (HV1.out.alloc _);replace hxa:=(HXX.out.2).below_ HXX.out.1 T7.bel;replace l5:=Nat.lt_of_lt_of_le HXX.out.1 T7.bel.size;have s67:w6.heap.size<=w7.heap.size:=(by have:=hs2.size;(try simp at this);omega);clear hs2)
            |(go_at_call 9;have hX0q:=hX0;(with_reducible refine(HC2.out _ _ _ (T6.below_ (Below.refl _ _))).mono ?_);rintro e w7 ⟨v2,rfl,ρ7,hv2,T7,hs2⟩;obtain⟨A2,z2,rfl⟩:=hv2.slice;rw[HNB.out]at hv2 ⊢;replace hX0:=hs2.blkT (BT.swap hX0);have hX0c:=hX0.1.cell_ 0 rfl;have hX0d:=hX0.1.cell_ 1 rfl;have hX0f:=hX0.1.frozen 0;have hX0g:=hX0.1.frozen 1;have hX0l:=hX0.1.lt;have ne0:w5.heap.size≠w7.heap.size:=(by omega);have ne0b:w7.heap.size≠w5.heap.size:=(by omega);have hv1:=told_keep hs2 HV1.out;replace hxa:=(HXX.out.2).below_ HXX.out.1 T7.bel;replace l5:=Nat.lt_of_lt_of_le HXX.out.1 T7.bel.size;have s67:w6.heap.size<=w7.heap.size:=(by have:=hs2.size;(try simp at this);omega);clear hs2)
            |(go_at_call 9;(with_reducible refine(HC2.out _ _ _ (T6.below_ (((Below.refl _ _).alloc (Nat.le_refl _) _).alloc (by simp) _))).mono ?_);rintro e w7 ⟨v2,rfl,ρ7,hv2,T7,hs2⟩;obtain⟨A2,z2,rfl⟩:=hv2.slice;rw[HNB.out]at hv2 ⊢;have hY0:=hs2.blkT (BT.alloc (BT.new T6.fresh2 T6.fresh 38 #[.int .i64 0,.slice none 0 0]) _);have hY0c:=hY0.1.cell_ 0 rfl;have hY0d:=hY0.1.cell_ 1 rfl;have hY0f:=hY0.1.frozen 0;have hY0g:=hY0.1.frozen 1;have hY0l:=hY0.1.lt;have hY1:=hs2.blkT (BT.new2 T6.fresh2 T6.fresh 38 #[.int .i64 0,.slice none 0 0] #[.int .i64 0,.slice none 0 0] 38);have hY1c:=hY1.1.cell_ 0 rfl;have hY1d:=hY1.1.cell_ 1 rfl;have hY1f:=hY1.1.frozen 0;have hY1g:=hY1.1.frozen 1;have hY1l:=hY1.1.lt;have ne0:w6.heap.size≠w6.heap.size+1:=(by omega);have ne0b:w6.heap.size+1≠w6.heap.size:=(by omega);have hv1:=told_keep hs2 ((HV1.out.alloc _).alloc _);replace hxa:=(HXX.out.2).below_ HXX.out.1 T7.bel;replace l5:=Nat.lt_of_lt_of_le HXX.out.1 T7.bel.size;have s67:w6.heap.size<=w7.heap.size:=(by have:=hs2.size;(try simp at this);omega);clear hs2)
            |(go_at_call 9;(with_reducible refine(HC2.out _ _ _ (T6.below_ ((Below.refl _ _).alloc (Nat.le_refl _) _))).mono ?_);rintro e w7 ⟨v2,rfl,ρ7,hv2,T7,hs2⟩;obtain⟨A2,z2,rfl⟩:=hv2.slice;rw[HNB.out]at hv2 ⊢;have hY0:=hs2.blkT (BT.new T6.fresh2 T6.fresh 38 #[.int .i64 0,.slice none 0 0]);have hY0c:=hY0.1.cell_ 0 rfl;have hY0d:=hY0.1.cell_ 1 rfl;have hY0f:=hY0.1.frozen 0;have hY0g:=hY0.1.frozen 1;have hY0l:=hY0.1.lt;have ne0:w6.heap.size≠w7.heap.size:=(by omega);have ne0b:w7.heap.size≠w6.heap.size:=(by omega);have hv1:=told_keep hs2 (HV1.out.alloc _);replace hxa:=(HXX.out.2).below_ HXX.out.1 T7.bel;replace l5:=Nat.lt_of_lt_of_le HXX.out.1 T7.bel.size;have s67:w6.heap.size<=w7.heap.size:=(by have:=hs2.size;(try simp at this);omega);clear hs2)
            |(go_at_call 9;(with_reducible refine(HC2.out _ _ _ (T6.below_ (Below.refl _ _))).mono ?_);rintro e w7 ⟨v2,rfl,ρ7,hv2,T7,hs2⟩;obtain⟨A2,z2,rfl⟩:=hv2.slice;rw[HNB.out]at hv2 ⊢;have hv1:=told_keep hs2 HV1.out;replace hxa:=(HXX.out.2).below_ HXX.out.1 T7.bel;replace l5:=Nat.lt_of_lt_of_le HXX.out.1 T7.bel.size;have s67:w6.heap.size<=w7.heap.size:=(by have:=hs2.size;(try simp at this);omega);clear hs2)
            |(go_at_call 9;(with_reducible refine(HC1.out _ (by first|exact(((Below.refl _ _).alloc (Nat.le_refl _) _).drew)|exact(q.alloc q.size _))).mono ?_);rintro e w6 ⟨v1,rfl,ρ6,hv1,T6,hs1⟩;obtain⟨A1,z1,rfl⟩:=hv1.slice;rw[HNB.out]at hv1 ⊢;have hX0:=hs1.blkT (by first|exact(BT.drew (BT.new T5f T5f2 38 #[.int .i64 0,.slice none 0 0]))|exact(BT.new (fun i hi=>T5f i hi) (fun i hi=>T5f2 i hi) 38 #[.int .i64 0,.slice none 0 0]));have nx:w5.heap.size<w6.heap.size:=hX0.1.lt;replace hxa:=(HXX.out.2).below_ HXX.out.1 T6.bel;replace l5:=Nat.lt_of_lt_of_le HXX.out.1 T6.bel.size;have s56:w5.heap.size<=w6.heap.size:=(by have:=hs1.size;(try simp at this);omega);have HV1:=Lib.hid hv1;clear hv1 hs1)
            |(go_at_call 9;(with_reducible refine(HC1.out _ (by first|exact((((Below.refl _ _).alloc (Nat.le_refl _) _).alloc (by simp) _).drew))).mono ?_);rintro e w6 ⟨v1,rfl,ρ6,hv1,T6,hs1⟩;obtain⟨A1,z1,rfl⟩:=hv1.slice;rw[HNB.out]at hv1 ⊢;have hX0:=hs1.blkT (BT.drew (BT.alloc (BT.new T5f T5f2 38 #[.int .i64 0,.slice none 0 0]) _));have hX1:=hs1.blkT (BT.drew (BT.new2 T5f T5f2 38 #[.int .i64 0,.slice none 0 0] #[.int .i64 0,.slice none 0 0] 38));have nx:w5.heap.size+1<w6.heap.size:=hX1.1.lt;replace hxa:=(HXX.out.2).below_ HXX.out.1 T6.bel;replace l5:=Nat.lt_of_lt_of_le HXX.out.1 T6.bel.size;have s56:w5.heap.size<=w6.heap.size:=(by have:=hs1.size;(try simp at this);omega);have HV1:=Lib.hid hv1;clear hv1 hs1)
            |(go_at_call 9;(with_reducible refine(HC1.out _ q).mono ?_);rintro e w6 ⟨v1,rfl,ρ6,hv1,T6,hs1⟩;obtain⟨A1,z1,rfl⟩:=hv1.slice;rw[HNB.out]at hv1 ⊢;skip;replace hxa:=(HXX.out.2).below_ HXX.out.1 T6.bel;replace l5:=Nat.lt_of_lt_of_le HXX.out.1 T6.bel.size;have s56:w5.heap.size<=w6.heap.size:=(by have:=hs1.size;(try simp at this);omega);have HV1:=Lib.hid hv1;clear hv1 hs1))
         all_goals
          have hb7:Bun w bx2 a2 bx a ρ7 ρ6 S2' S' (.slice A1 nb z1) (.slice A2 nb z2) bb w7:=⟨T7,hv1,hv2.weak (fun _ _=>trivial)⟩
          first
           |(refine gen_world (F:=Fin2 w bx2 a2 bx a ρ7 ρ6 S2' S' er A1 A2 nb z1 z2 bb (w7.heap.size) (w7.heap.size+1)) (by with_reducible exact fin_aa hb7) ?_)
           |(refine gen_world (F:=Fin2 w bx2 a2 bx a ρ7 ρ6 S2' S' er A1 A2 nb z1 z2 bb (w7.heap.size+1) (w7.heap.size)) (by with_reducible exact fin_ab hb7) ?_)
           |(refine gen_world (F:=Fin2 w bx2 a2 bx a ρ7 ρ6 S2' S' er A1 A2 nb z1 z2 bb (w5.heap.size) (w7.heap.size)) (by with_reducible exact fin_sa hb7 hX0.1 hX0.2.1 hX0.2.2 (by omega)) ?_)
           |(refine gen_world (F:=Fin2 w bx2 a2 bx a ρ7 ρ6 S2' S' er A1 A2 nb z1 z2 bb (w7.heap.size) (w5.heap.size)) (by with_reducible exact fin_sb hb7 hX0.1 hX0.2.1 hX0.2.2 (by omega)) ?_)
           |(refine gen_world (F:=Fin2 w bx2 a2 bx a ρ7 ρ6 S2' S' er A1 A2 nb z1 z2 bb (w5.heap.size+1) (w7.heap.size)) (by with_reducible exact fin_sa hb7 hX1.1 hX1.2.1 hX1.2.2 (by omega)) ?_)
           |(refine gen_world (F:=Fin2 w bx2 a2 bx a ρ7 ρ6 S2' S' er A1 A2 nb z1 z2 bb (w7.heap.size) (w5.heap.size+1)) (by with_reducible exact fin_sb hb7 hX1.1 hX1.2.1 hX1.2.2 (by omega)) ?_)
           |(refine gen_world (F:=Fin2 w bx2 a2 bx a ρ7 ρ6 S2' S' er A1 A2 nb z1 z2 bb (w6.heap.size) (w7.heap.size)) (by with_reducible exact fin_sa hb7 hY0.1 hY0.2.1 hY0.2.2 (by omega)) ?_)
           |(refine gen_world (F:=Fin2 w bx2 a2 bx a ρ7 ρ6 S2' S' er A1 A2 nb z1 z2 bb (w7.heap.size) (w6.heap.size)) (by with_reducible exact fin_sb hb7 hY0.1 hY0.2.1 hY0.2.2 (by omega)) ?_)
           |(refine gen_world (F:=Fin2 w bx2 a2 bx a ρ7 ρ6 S2' S' er A1 A2 nb z1 z2 bb (w6.heap.size+1) (w7.heap.size)) (by with_reducible exact fin_sa hb7 hY1.1 hY1.2.1 hY1.2.2 (by omega)) ?_)
           |(refine gen_world (F:=Fin2 w bx2 a2 bx a ρ7 ρ6 S2' S' er A1 A2 nb z1 z2 bb (w7.heap.size) (w6.heap.size+1)) (by with_reducible exact fin_sb hb7 hY1.1 hY1.2.1 hY1.2.2 (by omega)) ?_)
           |(refine gen_world (F:=Fin2 w bx2 a2 bx a ρ7 ρ6 S2' S' er A1 A2 nb z1 z2 bb (w5.heap.size) (w5.heap.size+1)) (by with_reducible exact fin_ss hb7 hX0.1 hX0.2.1 hX0.2.2 (by omega) hX1.1 hX1.2.1 hX1.2.2 (by omega) (by omega)) ?_)
           |(refine gen_world (F:=Fin2 w bx2 a2 bx a ρ7 ρ6 S2' S' er A1 A2 nb z1 z2 bb (w5.heap.size+1) (w5.heap.size)) (by with_reducible exact fin_ss hb7 hX1.1 hX1.2.1 hX1.2.2 (by omega) hX0.1 hX0.2.1 hX0.2.2 (by omega) (by omega)) ?_)
           |(refine gen_world (F:=Fin2 w bx2 a2 bx a ρ7 ρ6 S2' S' er A1 A2 nb z1 z2 bb (w5.heap.size) (w6.heap.size)) (by with_reducible exact fin_ss hb7 hX0.1 hX0.2.1 hX0.2.2 (by omega) hY0.1 hY0.2.1 hY0.2.2 (by omega) (by omega)) ?_)
           |(refine gen_world (F:=Fin2 w bx2 a2 bx a ρ7 ρ6 S2' S' er A1 A2 nb z1 z2 bb (w6.heap.size) (w5.heap.size)) (by with_reducible exact fin_ss hb7 hY0.1 hY0.2.1 hY0.2.2 (by omega) hX0.1 hX0.2.1 hX0.2.2 (by omega) (by omega)) ?_)
           |(refine gen_world (F:=Fin2 w bx2 a2 bx a ρ7 ρ6 S2' S' er A1 A2 nb z1 z2 bb (w6.heap.size) (w6.heap.size+1)) (by with_reducible exact fin_ss hb7 hY0.1 hY0.2.1 hY0.2.2 (by omega) hY1.1 hY1.2.1 hY1.2.2 (by omega) (by omega)) ?_)
           |(refine gen_world (F:=Fin2 w bx2 a2 bx a ρ7 ρ6 S2' S' er A1 A2 nb z1 z2 bb (w6.heap.size+1) (w6.heap.size)) (by with_reducible exact fin_ss hb7 hY1.1 hY1.2.1 hY1.2.2 (by omega) hY0.1 hY0.2.1 hY0.2.2 (by omega) (by omega)) ?_)
          intro w8 hF8
          obtain⟨hb8,k1,k2⟩:=hF8
          have e0:=k1.cell_ 0 rfl
          have e1:=k1.cell_ 1 rfl
          have e2:=k2.cell_ 0 rfl
          have e3:=k2.cell_ 1 rfl
          have el1:=k1.lt
          have el2:=k2.lt
          have cv1:=conv_hp hb8.h1
          have cv2:=conv_hp hb8.h2
          have HT8:=Lib.hid hb8.two.swap
          clear hb7 hb8 k1 k2 hv1 hv2 hxa T7 T6
          go_wp2_with fail
          go_roundw
          case rel=>exact⟨i+1,by go_num,by omega,_,_,_,_,HT8.out,HS'.out.mono (by omega) (by omega)⟩
          case measure=>simp[intOf];omega
      ·have hin:i=len:=by omega
       subst hin
       have hkn:=tknown_ok HO HS HT wr
       have HB:=Lib.hid hr.two.bel
       clear hr
       go_wp2_with fail
       refine hkn.mono ?_
       rintro e w9 ⟨rfl,q9⟩
       have q:=HB.out.trans (q9.mono HB.out.size)
       have HQ:=Lib.hid q
       clear hkn q q9
       go_wp2_with fail
       go_ret
       exact⟨rfl,HQ.out⟩
   ·go_enter Tryz.func5,Tryz.ntmps5
    go_wp2_with fail
    refine hlo.mono ?_
    rintro e w1 ⟨lb,rfl,hlb,q1⟩
    clear hlo
    cases lb with
    |true=>
     go_wp2_with fail
     go_ret
     exact⟨rfl,q1⟩
    |false=>
     have hp:Calls Tryz.prog 7 #[.int .i64 16,.int .u64 1,.bool true] w1 fun e w'=>∃bx,e=.returned (.tuple #[.pointer (some ⟨bx,0,none⟩),.int .i64 0])/\∃ρ' a cc m ag,BoxR ρ' w' bx a cc m ag (.slice none 0 0) (newC 16 1 true)/\Ste rtC (fun _=>0) w1 ρ' w':=pnew_box HO HS HT 16 1 true w1 (fun _=>0) (fun _ _=>rfl) (by unfold V;omega) (by omega)
     have hp2:∀W,Calls Tryz.prog 7 #[.int .i64 16,.int .u64 1,.bool false] W fun e w'=>∃bx,e=.returned (.tuple #[.pointer (some ⟨bx,0,none⟩),.int .i64 0])/\∃ρ' a cc m ag,BoxR ρ' w' bx a cc m ag (.slice none 0 0) (newC 16 1 false)/\Ste rtC (fun _=>0) W ρ' w':=fun W=>pnew_box HO HS HT 16 1 false W (fun _=>0) (fun _ _=>rfl) (by unfold V;omega) (by omega)
     obtain⟨hl200,hkn⟩:=hlb rfl
     have HKN:=Lib.hid hkn
     clear hlb hkn
     go_wp2_with fail
     refine hp.mono ?_
     rintro e w2 ⟨bx,rfl,ρ1,a,cc,m,ag,hB2,s2⟩
     clear hp
     have HB2:=Lib.hid (And.intro q1 (And.intro hB2 s2))
     clear q1 hB2 s2
     go_wp2_with fail
     refine(hp2 w2).mono ?_
     rintro e w3 ⟨bx2,rfl,ρ2,a2,cc2,m2,ag2,hB3,s3⟩
     clear hp2
     obtain⟨q1,hB2,s2⟩:=HB2.out
     have h0:Rnd2 w bx a bx2 a2 0 w3 ρ1 ρ2 ⟨newC 16 1 true,false,0⟩ ⟨newC 16 1 false,false,0⟩:=by
      refine⟨⟨?_,?_,fun b hb=>⟨?_,?_⟩,fun b=>?_,fun i hi=>s2.fresh i (Nat.le_trans s3.size hi),s3.fresh,?_⟩,new_rs 16 1 true false (by unfold V;omega)⟩
      ·have hb:=new_bst hB2
       exact hb.keep s3.size (fun b hb e=>⟨s3.ch.keep b hb rtC0,rfl⟩)
      ·exact new_bst hB3
      ·exact s2.old b (Nat.lt_of_lt_of_le hb q1.size)
      ·exact s3.old b (Nat.lt_of_lt_of_le hb (Nat.le_trans q1.size s2.size))
      ·rcases Nat.lt_or_ge b w2.heap.size with c|c
       ·exact .inr (.inl (s3.old b c))
       ·exact .inl (.inl (s2.fresh b c))
      ·exact(q1.trans ((s2.below (Nat.le_refl _) (fun _ _=>rtC0)).mono q1.size)).trans ((s3.below (Nat.le_refl _) (fun _ _=>rtC0)).mono (Nat.le_trans q1.size s2.size))
     have H3:=Lib.hid h0
     clear q1 hB2 s2 hB3 s3 h0 HB2
     go_wp2_with fail
     go_loopw [9] (fun t wr=>∃i:Nat,t=.int .i64 i/\i<=len/\∃ρr ρr2 S S2,Rnd2 w bx a bx2 a2 i wr ρr ρr2 S S2) (fun t _=>len-(intOf t).toNat)
     case atStart=>exact⟨0,rfl,by omega,_,_,_,_,H3.out⟩
     case round=>
      obtain⟨i,rfl,hi,ρr,ρr2,S,S2,hr⟩:=hrel
      by_cases hlt:i<len
      ·rcases H.out with hz|⟨b,off,rfl,hb,hx⟩
       ·omega
       ·obtain⟨x,ks,hx⟩:=hx i hlt
        have hk100:=HKN.out b off rfl i hlt x hx.at_
        have m0:(0:Int)<=(i:Int):=by omega
        have m1:(i:Int)<(len:Int):=by omega
        have hxr:=hx.below_ hb hr.two.bel
        have hx0:=hx
        obtain⟨k,kd,l,N,F,data,V,vn,vc,D,dn,dc,K,kn,kc⟩:=x
        obtain⟨c0,c1,c2,c3,c4,c5,c6,c7⟩:=s8 hxr.at_
        have lb:=Nat.lt_of_lt_of_le hb hr.two.bel.size
        have hfoe:=foe_ok k kd l N F V D K vn dn kn vc dc kc
        have HR:=Lib.hid (And.intro hr (And.intro hx hk100))
        by_cases kf:k=4\/k=6
        ·have hdf:decide (k=4\/k=6)=true:=by simpa using kf
         rw[hdf]at hfoe
         clear hr hx hxr hk100
         go_wp2_with fail
         refine(hfoe _).mono ?_
         rintro e w5 ⟨rfl,q5⟩
         have HQ:=Lib.hid q5
         clear c0 c1 c2 c3 c4 c5 c6 c7 hfoe q5
         go_wp2_with fail
         go_roundw
         case rel=>exact⟨i+1,by go_num,by omega,_,_,_,_,HR.out.1.next HQ.out⟩
         case measure=>simp[intOf];omega
        ·have hdf:decide (k=4\/k=6)=false:=by simpa using kf
         rw[hdf]at hfoe
         clear hr hx hxr hk100
         go_wp2_with fail
         refine(hfoe _).mono ?_
         rintro e w5 ⟨rfl,q5⟩
         clear c0 c1 c2 c3 c4 c5 c6 c7 hfoe
         obtain⟨hr,hx,hk100⟩:=HR.out
         have T5:=hr.two.below_ q5
         have bel:=T5.bel
         have hx5:=hx.below_ hb bel
         have hact:=hr.rs.act (by omega) (by omega) k kd l N data ks
         obtain⟨R,hRR⟩:∃R,R=bact S k kd l N data ks:=⟨_,rfl⟩
         obtain⟨R2,hRR2⟩:∃R2,R2=bact S2 k kd l N data ks:=⟨_,rfl⟩
         have hcall:=fun W (q:Below w5.heap.size w5 W)=>(T5.below_ q).call' HO HS HT hx (hr.rs.facts (by omega)).1.1 (hr.rs.facts (by omega)).1.2.1 (hr.rs.facts (by omega)).1.2.2.1 (hr.rs.facts (by omega)).1.2.2.2.1 (hr.rs.facts (by omega)).1.2.2.2.2 (by omega) (by omega) (fun e=>kf (.inl e)) (fun e=>kf (.inr e)) (Nat.le_trans hk100 (by omega))
         have hcall2:=fun W ρ' S' (T:Two2 w bx a bx2 a2 W ρ' ρr2 S' S2)=>T.swap.call' HO HS HT hx (hr.rs.facts (by omega)).2.1 (hr.rs.facts (by omega)).2.2.1 (hr.rs.facts (by omega)).2.2.2.1 (hr.rs.facts (by omega)).2.2.2.2.1 (hr.rs.facts (by omega)).2.2.2.2.2 (by omega) (by omega) (fun e=>kf (.inl e)) (fun e=>kf (.inr e)) (Nat.le_trans hk100 (by omega))
         simp only[<-hRR,<-hRR2]at hact hcall hcall2
         obtain⟨er,bb,S'⟩:=R
         obtain⟨er2,bb2,S2'⟩:=R2
         simp only at hact hcall hcall2
         obtain⟨rfl,rfl,hrs'⟩:=hact
         have HC1:=Lib.hid hcall
         have HC2:=Lib.hid hcall2
         have HS':=Lib.hid hrs'
         have HXX:=Lib.hid (And.intro hb hx.at_)
         obtain⟨nb,hnb⟩:∃nb,bb.length=nb:=⟨_,rfl⟩
         have HNB:=Lib.hid hnb
         clear hnb
         have l5:b<w5.heap.size:=Nat.lt_of_lt_of_le hb bel.size
         have q:Below w5.heap.size w5 w5.drew:=(Below.refl _ _).drew
         have hxa:=hx5.at_
         have l50:=l5
         have hw5:=bel.size
         have T5f:=T5.fresh
         have T5f2:=T5.fresh2
         clear hr hx hk100 q5 T5 hx5 hcall hcall2 hrs' hRR hRR2
         go_wp2_with fail
         go_region_held3 (fun w'=>w'.cell? ⟨b,off+i*8,none⟩=some (.int .i64 k)/\w'.cell? ⟨b,off+i*8+1,none⟩=some (.int .i64 kd)/\w'.cell? ⟨b,off+i*8+2,none⟩=some (.int .i64 l)/\w'.cell? ⟨b,off+i*8+3,none⟩=some (.slice V vn vc)/\w'.cell? ⟨b,off+i*8+4,none⟩=some (.int .i64 N)/\w'.cell? ⟨b,off+i*8+5,none⟩=some (.int .i64 F)/\w'.cell? ⟨b,off+i*8+6,none⟩=some (.slice D dn dc)/\w'.cell? ⟨b,off+i*8+7,none⟩=some (.slice K kn kc))
          (first|(with_reducible exact s8 hxa)|((with_reducible refine s8c (data:=data) ?_);(iterate 12 (first|(with_reducible exact ActC.of hxa)|(with_reducible refine ActC.drew ?_)|(with_reducible refine ActC.alloc ?_ _)|(with_reducible refine ActC.far ?_ (by simp only;omega) _)|skip));done))
          (first
            |(go_at_call 9;have hX0q:=hX0;have hX1q:=hX1;(with_reducible refine(HC2.out _ _ _ (T6.below_ (Below.refl _ _))).mono ?_);rintro e w7 ⟨v2,rfl,ρ7,hv2,T7,hs2⟩;obtain⟨A2,z2,rfl⟩:=hv2.slice;rw[HNB.out]at hv2 ⊢;replace hX0:=hs2.blkT (BT.swap hX0);have hX0c:=hX0.1.cell_ 0 rfl;have hX0d:=hX0.1.cell_ 1 rfl;have hX0f:=hX0.1.frozen 0;have hX0g:=hX0.1.frozen 1;have hX0l:=hX0.1.lt;replace hX1:=hs2.blkT (BT.swap hX1);have hX1c:=hX1.1.cell_ 0 rfl;have hX1d:=hX1.1.cell_ 1 rfl;have hX1f:=hX1.1.frozen 0;have hX1g:=hX1.1.frozen 1;have hX1l:=hX1.1.lt;have ne0:w5.heap.size≠w5.heap.size+1:=(by omega);have ne0b:w5.heap.size+1≠w5.heap.size:=(by omega);have hv1:=told_keep hs2 HV1.out;replace hxa:=(HXX.out.2).below_ HXX.out.1 T7.bel;replace l5:=Nat.lt_of_lt_of_le HXX.out.1 T7.bel.size;have s67:w6.heap.size<=w7.heap.size:=(by have:=hs2.size;(try simp at this);omega);clear hs2)
            |(go_at_call 9;have hX0q:=hX0;(with_reducible refine(HC2.out _ _ _ (T6.below_ ((Below.refl _ _).alloc (Nat.le_refl _) _))).mono ?_);rintro e w7 ⟨v2,rfl,ρ7,hv2,T7,hs2⟩;obtain⟨A2,z2,rfl⟩:=hv2.slice;rw[HNB.out]at hv2 ⊢;replace hX0:=hs2.blkT (BT.swap (BT.alloc hX0 _));have hX0c:=hX0.1.cell_ 0 rfl;have hX0d:=hX0.1.cell_ 1 rfl;have hX0f:=hX0.1.frozen 0;have hX0g:=hX0.1.frozen 1;have hX0l:=hX0.1.lt;have hY0:=hs2.blkT (BT.new T6.fresh2 T6.fresh 38 #[.int .i64 0,.slice none 0 0]);have hY0c:=hY0.1.cell_ 0 rfl;have hY0d:=hY0.1.cell_ 1 rfl;have hY0f:=hY0.1.frozen 0;have hY0g:=hY0.1.frozen 1;have hY0l:=hY0.1.lt;have ne0:w5.heap.size≠w6.heap.size:=(by omega);have ne0b:w6.heap.size≠w5.heap.size:=(by omega);have hv1:=told_keep hs2 (HV1.out.alloc _);replace hxa:=(HXX.out.2).below_ HXX.out.1 T7.bel;replace l5:=Nat.lt_of_lt_of_le HXX.out.1 T7.bel.size;have s67:w6.heap.size<=w7.heap.size:=(by have:=hs2.size;(try simp at this);omega);clear hs2)
            |(go_at_call 9;have hX0q:=hX0;(with_reducible refine(HC2.out _ _ _ (T6.below_ (Below.refl _ _))).mono ?_);rintro e w7 ⟨v2,rfl,ρ7,hv2,T7,hs2⟩;obtain⟨A2,z2,rfl⟩:=hv2.slice;rw[HNB.out]at hv2 ⊢;replace hX0:=hs2.blkT (BT.swap hX0);have hX0c:=hX0.1.cell_ 0 rfl;have hX0d:=hX0.1.cell_ 1 rfl;have hX0f:=hX0.1.frozen 0;have hX0g:=hX0.1.frozen 1;have hX0l:=hX0.1.lt;have ne0:w5.heap.size≠w7.heap.size:=(by omega);have ne0b:w7.heap.size≠w5.heap.size:=(by omega);have hv1:=told_keep hs2 HV1.out;replace hxa:=(HXX.out.2).below_ HXX.out.1 T7.bel;replace l5:=Nat.lt_of_lt_of_le HXX.out.1 T7.bel.size;have s67:w6.heap.size<=w7.heap.size:=(by have:=hs2.size;(try simp at this);omega);clear hs2)
            |(go_at_call 9;(with_reducible refine(HC2.out _ _ _ (T6.below_ (((Below.refl _ _).alloc (Nat.le_refl _) _).alloc (by simp) _))).mono ?_);rintro e w7 ⟨v2,rfl,ρ7,hv2,T7,hs2⟩;obtain⟨A2,z2,rfl⟩:=hv2.slice;rw[HNB.out]at hv2 ⊢;have hY0:=hs2.blkT (BT.alloc (BT.new T6.fresh2 T6.fresh 38 #[.int .i64 0,.slice none 0 0]) _);have hY0c:=hY0.1.cell_ 0 rfl;have hY0d:=hY0.1.cell_ 1 rfl;have hY0f:=hY0.1.frozen 0;have hY0g:=hY0.1.frozen 1;have hY0l:=hY0.1.lt;have hY1:=hs2.blkT (BT.new2 T6.fresh2 T6.fresh 38 #[.int .i64 0,.slice none 0 0] #[.int .i64 0,.slice none 0 0] 38);have hY1c:=hY1.1.cell_ 0 rfl;have hY1d:=hY1.1.cell_ 1 rfl;have hY1f:=hY1.1.frozen 0;have hY1g:=hY1.1.frozen 1;have hY1l:=hY1.1.lt;have ne0:w6.heap.size≠w6.heap.size+1:=(by omega);have ne0b:w6.heap.size+1≠w6.heap.size:=(by omega);have hv1:=told_keep hs2 ((HV1.out.alloc _).alloc _);replace hxa:=(HXX.out.2).below_ HXX.out.1 T7.bel;replace l5:=Nat.lt_of_lt_of_le HXX.out.1 T7.bel.size;have s67:w6.heap.size<=w7.heap.size:=(by have:=hs2.size;(try simp at this);omega);clear hs2)
            |(go_at_call 9;(with_reducible refine(HC2.out _ _ _ (T6.below_ ((Below.refl _ _).alloc (Nat.le_refl _) _))).mono ?_);rintro e w7 ⟨v2,rfl,ρ7,hv2,T7,hs2⟩;obtain⟨A2,z2,rfl⟩:=hv2.slice;rw[HNB.out]at hv2 ⊢;have hY0:=hs2.blkT (BT.new T6.fresh2 T6.fresh 38 #[.int .i64 0,.slice none 0 0]);have hY0c:=hY0.1.cell_ 0 rfl;have hY0d:=hY0.1.cell_ 1 rfl;have hY0f:=hY0.1.frozen 0;have hY0g:=hY0.1.frozen 1;have hY0l:=hY0.1.lt;have ne0:w6.heap.size≠w7.heap.size:=(by omega);have ne0b:w7.heap.size≠w6.heap.size:=(by omega);have hv1:=told_keep hs2 (HV1.out.alloc _);replace hxa:=(HXX.out.2).below_ HXX.out.1 T7.bel;replace l5:=Nat.lt_of_lt_of_le HXX.out.1 T7.bel.size;have s67:w6.heap.size<=w7.heap.size:=(by have:=hs2.size;(try simp at this);omega);clear hs2)
            |(go_at_call 9;(with_reducible refine(HC2.out _ _ _ (T6.below_ (Below.refl _ _))).mono ?_);rintro e w7 ⟨v2,rfl,ρ7,hv2,T7,hs2⟩;obtain⟨A2,z2,rfl⟩:=hv2.slice;rw[HNB.out]at hv2 ⊢;have hv1:=told_keep hs2 HV1.out;replace hxa:=(HXX.out.2).below_ HXX.out.1 T7.bel;replace l5:=Nat.lt_of_lt_of_le HXX.out.1 T7.bel.size;have s67:w6.heap.size<=w7.heap.size:=(by have:=hs2.size;(try simp at this);omega);clear hs2)
            |(go_at_call 9;(with_reducible refine(HC1.out _ (by first|exact(((Below.refl _ _).alloc (Nat.le_refl _) _).drew)|exact(q.alloc q.size _))).mono ?_);rintro e w6 ⟨v1,rfl,ρ6,hv1,T6,hs1⟩;obtain⟨A1,z1,rfl⟩:=hv1.slice;rw[HNB.out]at hv1 ⊢;have hX0:=hs1.blkT (by first|exact(BT.drew (BT.new T5f T5f2 38 #[.int .i64 0,.slice none 0 0]))|exact(BT.new (fun i hi=>T5f i hi) (fun i hi=>T5f2 i hi) 38 #[.int .i64 0,.slice none 0 0]));have nx:w5.heap.size<w6.heap.size:=hX0.1.lt;replace hxa:=(HXX.out.2).below_ HXX.out.1 T6.bel;replace l5:=Nat.lt_of_lt_of_le HXX.out.1 T6.bel.size;have s56:w5.heap.size<=w6.heap.size:=(by have:=hs1.size;(try simp at this);omega);have HV1:=Lib.hid hv1;clear hv1 hs1)
            |(go_at_call 9;(with_reducible refine(HC1.out _ (by first|exact((((Below.refl _ _).alloc (Nat.le_refl _) _).alloc (by simp) _).drew))).mono ?_);rintro e w6 ⟨v1,rfl,ρ6,hv1,T6,hs1⟩;obtain⟨A1,z1,rfl⟩:=hv1.slice;rw[HNB.out]at hv1 ⊢;have hX0:=hs1.blkT (BT.drew (BT.alloc (BT.new T5f T5f2 38 #[.int .i64 0,.slice none 0 0]) _));have hX1:=hs1.blkT (BT.drew (BT.new2 T5f T5f2 38 #[.int .i64 0,.slice none 0 0] #[.int .i64 0,.slice none 0 0] 38));have nx:w5.heap.size+1<w6.heap.size:=hX1.1.lt;replace hxa:=(HXX.out.2).below_ HXX.out.1 T6.bel;replace l5:=Nat.lt_of_lt_of_le HXX.out.1 T6.bel.size;have s56:w5.heap.size<=w6.heap.size:=(by have:=hs1.size;(try simp at this);omega);have HV1:=Lib.hid hv1;clear hv1 hs1)
            |(go_at_call 9;(with_reducible refine(HC1.out _ q).mono ?_);rintro e w6 ⟨v1,rfl,ρ6,hv1,T6,hs1⟩;obtain⟨A1,z1,rfl⟩:=hv1.slice;rw[HNB.out]at hv1 ⊢;skip;replace hxa:=(HXX.out.2).below_ HXX.out.1 T6.bel;replace l5:=Nat.lt_of_lt_of_le HXX.out.1 T6.bel.size;have s56:w5.heap.size<=w6.heap.size:=(by have:=hs1.size;(try simp at this);omega);have HV1:=Lib.hid hv1;clear hv1 hs1))
         all_goals
          have hb7:Bun w bx2 a2 bx a ρ7 ρ6 S2' S' (.slice A1 nb z1) (.slice A2 nb z2) bb w7:=⟨T7,hv1,hv2.weak (fun _ _=>trivial)⟩
          first
           |(refine gen_world (F:=Fin2 w bx2 a2 bx a ρ7 ρ6 S2' S' er A1 A2 nb z1 z2 bb (w7.heap.size) (w7.heap.size+1)) (by with_reducible exact fin_aa hb7) ?_)
           |(refine gen_world (F:=Fin2 w bx2 a2 bx a ρ7 ρ6 S2' S' er A1 A2 nb z1 z2 bb (w7.heap.size+1) (w7.heap.size)) (by with_reducible exact fin_ab hb7) ?_)
           |(refine gen_world (F:=Fin2 w bx2 a2 bx a ρ7 ρ6 S2' S' er A1 A2 nb z1 z2 bb (w5.heap.size) (w7.heap.size)) (by with_reducible exact fin_sa hb7 hX0.1 hX0.2.1 hX0.2.2 (by omega)) ?_)
           |(refine gen_world (F:=Fin2 w bx2 a2 bx a ρ7 ρ6 S2' S' er A1 A2 nb z1 z2 bb (w7.heap.size) (w5.heap.size)) (by with_reducible exact fin_sb hb7 hX0.1 hX0.2.1 hX0.2.2 (by omega)) ?_)
           |(refine gen_world (F:=Fin2 w bx2 a2 bx a ρ7 ρ6 S2' S' er A1 A2 nb z1 z2 bb (w5.heap.size+1) (w7.heap.size)) (by with_reducible exact fin_sa hb7 hX1.1 hX1.2.1 hX1.2.2 (by omega)) ?_)
           |(refine gen_world (F:=Fin2 w bx2 a2 bx a ρ7 ρ6 S2' S' er A1 A2 nb z1 z2 bb (w7.heap.size) (w5.heap.size+1)) (by with_reducible exact fin_sb hb7 hX1.1 hX1.2.1 hX1.2.2 (by omega)) ?_)
           |(refine gen_world (F:=Fin2 w bx2 a2 bx a ρ7 ρ6 S2' S' er A1 A2 nb z1 z2 bb (w6.heap.size) (w7.heap.size)) (by with_reducible exact fin_sa hb7 hY0.1 hY0.2.1 hY0.2.2 (by omega)) ?_)
           |(refine gen_world (F:=Fin2 w bx2 a2 bx a ρ7 ρ6 S2' S' er A1 A2 nb z1 z2 bb (w7.heap.size) (w6.heap.size)) (by with_reducible exact fin_sb hb7 hY0.1 hY0.2.1 hY0.2.2 (by omega)) ?_)
           |(refine gen_world (F:=Fin2 w bx2 a2 bx a ρ7 ρ6 S2' S' er A1 A2 nb z1 z2 bb (w6.heap.size+1) (w7.heap.size)) (by with_reducible exact fin_sa hb7 hY1.1 hY1.2.1 hY1.2.2 (by omega)) ?_)
           |(refine gen_world (F:=Fin2 w bx2 a2 bx a ρ7 ρ6 S2' S' er A1 A2 nb z1 z2 bb (w7.heap.size) (w6.heap.size+1)) (by with_reducible exact fin_sb hb7 hY1.1 hY1.2.1 hY1.2.2 (by omega)) ?_)
           |(refine gen_world (F:=Fin2 w bx2 a2 bx a ρ7 ρ6 S2' S' er A1 A2 nb z1 z2 bb (w5.heap.size) (w5.heap.size+1)) (by with_reducible exact fin_ss hb7 hX0.1 hX0.2.1 hX0.2.2 (by omega) hX1.1 hX1.2.1 hX1.2.2 (by omega) (by omega)) ?_)
           |(refine gen_world (F:=Fin2 w bx2 a2 bx a ρ7 ρ6 S2' S' er A1 A2 nb z1 z2 bb (w5.heap.size+1) (w5.heap.size)) (by with_reducible exact fin_ss hb7 hX1.1 hX1.2.1 hX1.2.2 (by omega) hX0.1 hX0.2.1 hX0.2.2 (by omega) (by omega)) ?_)
           |(refine gen_world (F:=Fin2 w bx2 a2 bx a ρ7 ρ6 S2' S' er A1 A2 nb z1 z2 bb (w5.heap.size) (w6.heap.size)) (by with_reducible exact fin_ss hb7 hX0.1 hX0.2.1 hX0.2.2 (by omega) hY0.1 hY0.2.1 hY0.2.2 (by omega) (by omega)) ?_)
           |(refine gen_world (F:=Fin2 w bx2 a2 bx a ρ7 ρ6 S2' S' er A1 A2 nb z1 z2 bb (w6.heap.size) (w5.heap.size)) (by with_reducible exact fin_ss hb7 hY0.1 hY0.2.1 hY0.2.2 (by omega) hX0.1 hX0.2.1 hX0.2.2 (by omega) (by omega)) ?_)
           |(refine gen_world (F:=Fin2 w bx2 a2 bx a ρ7 ρ6 S2' S' er A1 A2 nb z1 z2 bb (w6.heap.size) (w6.heap.size+1)) (by with_reducible exact fin_ss hb7 hY0.1 hY0.2.1 hY0.2.2 (by omega) hY1.1 hY1.2.1 hY1.2.2 (by omega) (by omega)) ?_)
           |(refine gen_world (F:=Fin2 w bx2 a2 bx a ρ7 ρ6 S2' S' er A1 A2 nb z1 z2 bb (w6.heap.size+1) (w6.heap.size)) (by with_reducible exact fin_ss hb7 hY1.1 hY1.2.1 hY1.2.2 (by omega) hY0.1 hY0.2.1 hY0.2.2 (by omega) (by omega)) ?_)
          intro w8 hF8
          obtain⟨hb8,k1,k2⟩:=hF8
          have e0:=k1.cell_ 0 rfl
          have e1:=k1.cell_ 1 rfl
          have e2:=k2.cell_ 0 rfl
          have e3:=k2.cell_ 1 rfl
          have el1:=k1.lt
          have el2:=k2.lt
          have cv1:=conv_hp hb8.h1
          have cv2:=conv_hp hb8.h2
          have HT8:=Lib.hid hb8.two.swap
          clear hb7 hb8 k1 k2 hv1 hv2 hxa T7 T6
          go_wp2_with fail
          go_roundw
          case rel=>exact⟨i+1,by go_num,by omega,_,_,_,_,HT8.out,HS'.out.mono (by omega) (by omega)⟩
          case measure=>simp[intOf];omega
      ·have hin:i=len:=by omega
       subst hin
       have hkn:=tknown_ok HO HS HT wr
       have HB:=Lib.hid hr.two.bel
       clear hr
       go_wp2_with fail
       refine hkn.mono ?_
       rintro e w9 ⟨rfl,q9⟩
       have q:=HB.out.trans (q9.mono HB.out.size)
       have HQ:=Lib.hid q
       clear hkn q q9
       go_wp2_with fail
       go_ret
       exact⟨rfl,HQ.out⟩
end Go.Proofs.YtggmdjdflaglpaaGreat
