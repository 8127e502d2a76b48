/- The acts that came in, opened to their cells. The acts that came in, opened: a row. (begun) The acts that came in, opened: with what a crash keeps. play.Box.Do: any act that is none of the foe's; lockboxtop.foe. -/
import Derived.Test.YtggmdjdflaglpaaGreatR40
import Derived.Deep.Slices
import Derived.Deep.Fields
import Derived.Deep.Grids
import Derived.ChangeSame
import Derived.ChangeArms
import Derived.Test.YtggmdjdflaglpaaGreatR05
import Derived.Test.YtggmdjdflaglpaaGreatR39
namespace Go.Proofs.YtggmdjdflaglpaaGreat
open Go.ChangeShapes Go.WideShapes Go.Deep Go.RowKit
set_option linter.unusedVariables false
section
variable {H:Type}{enc:TypeId×Value->H}{w:World}
theorem spot_none {w:World}{a:Addr}{j:Nat}{v:Value}(h:w.cell? (a.add j)=some v) (hj:j=0):∃b off,a=⟨b,off,none⟩/\b<w.heap.size:=by
 obtain⟨b,off,spot⟩:=a
 have hs:(Addr.add ⟨b,off,spot⟩ j).spot=none:=World.cell?_spot h
 have hs':spot=none:=by
  unfold Addr.add at hs
  simpa[hj]using hs
 subst hs'
 have hlt:=World.block_lt_of_cell? _ _ h
 rw[add_plain]at hlt
 exact⟨b,off,rfl,hlt⟩
theorem byte_back {z:Int}(h0:0<=z) (h1:z<=255):(((UInt8.ofNat z.toNat).toNat:Nat):Int)=z:=by
 rw[UInt8.toNat_ofNat']
 omega
theorem bytes_of {fuel:Nat}{v:Value}{y:DataW H×List MemPlace}(h:DataW.trod enc Tryz.prog w 0 (fun _=>true) true fuel 32 [v]=some y):
 ∃(B:Option Addr) (n c:Nat) (d:List UInt8),v=.slice B n c/\n<=9223372036854775807/\HasD (fun _=>True) w (.slice B n c) d:=by
 rcases open_ints Tryz.underlying32 Tryz.underlying5 (by kernel_rfl) h with⟨hcs,_⟩|⟨a,len,cap,zs,hcs,_,hl,hm,hz,_,hcell,hwz⟩
 ·injection hcs with hcs
  exact⟨none,0,0,[],hcs,by omega,HasD.of (.inl ⟨rfl,rfl⟩)⟩
 ·injection hcs with hcs
  have hz':zs.length=cap:=by simpa using hz
  have hdl:((zs.take len).map (fun z=>UInt8.ofNat z.toNat)).length=len:=by simp;omega
  refine⟨some a,len,cap,(zs.take len).map (fun z=>UInt8.ofNat z.toNat),hcs,by unfold maxLen at hm;omega,some a,cap,by rw[hdl],fun h32=>?_⟩
  rw[hdl]at h32
  obtain⟨b,off,rfl,hlt⟩:=spot_none (hcell 0 (by omega)) rfl
  refine .inr ⟨b,off,cap,by rw[hdl],trivial,hlt,by rw[hdl];exact hl,hm,fun j u hu=>?_⟩
  have hj:j<len:=by
   have:=(List.getElem?_eq_some_iff.1 hu).1
   omega
  rw[List.getElem?_map,List.getElem?_take,if_pos hj,Option.map_eq_some_iff]at hu
  obtain⟨z,hzj,rfl⟩:=hu
  have hc:=hcell j (by omega)
  rw[add_plain]at hc
  have hw:=bounds_u8 (hwz z (List.mem_of_getElem? hzj))
  rw[hc,byte_back hw.1 hw.2,List.getD_eq_getElem?_getD,hzj]
  rfl
end
end Go.Proofs.YtggmdjdflaglpaaGreat
namespace Go.Proofs.YtggmdjdflaglpaaGreat
open Go.ChangeShapes Go.WideShapes Go.Deep Go.RowKit
set_option linter.unusedVariables false
section
variable {H:Type}{enc:TypeId×Value->H}{w:World}
theorem len8:∀(l:List Value),l.length=8->∃a b c d e f g h,l=[a,b,c,d,e,f,g,h]
 |[a,b,c,d,e,f,g,h],_=>⟨a,b,c,d,e,f,g,h,rfl⟩
theorem act_of {n:Nat}{cs:List Value}{y:DataW H×List MemPlace}(ht:DataW.trod enc Tryz.prog w 0 (fun _=>true) true n 36 cs=some y):
 ∃x:ActV,cs=x.cells/\HasD (fun _=>True) w (.slice x.V x.vn x.vc) x.data/\x.vn<=9223372036854775807/\x.dn<=9223372036854775807/\x.kn<=9223372036854775807:=by
 have hc36:Tryz.prog.cellsOf 36=8:=by kernel_rfl
 have hc34:Tryz.prog.cellsOf 34=3:=by kernel_rfl
 have hc3:Tryz.prog.cellsOf 3=1:=by kernel_rfl
 have hc32:Tryz.prog.cellsOf 32=1:=by kernel_rfl
 have hc23:Tryz.prog.cellsOf 23=1:=by kernel_rfl
 obtain⟨ys,n',hn',hy,hlen,hyl,hfd⟩:=DataW.trod_struct Tryz.underlying36 ht
 rw[hc36]at hlen
 obtain⟨v0,v1,v2,v3,v4,v5,v6,v7,rfl⟩:=len8 cs hlen
 have get:∀i,i<6->∃z,ys[i]? =some z:=fun i hi=>⟨_,List.getElem?_eq_getElem (by rw[hyl];exact hi)⟩
 obtain⟨z0,h0⟩:=get 0 (by omega)
 obtain⟨z1,h1⟩:=get 1 (by omega)
 obtain⟨z2,h2⟩:=get 2 (by omega)
 obtain⟨z3,h3⟩:=get 3 (by omega)
 obtain⟨z4,h4⟩:=get 4 (by omega)
 obtain⟨z5,h5⟩:=get 5 (by omega)
 have f0:=hfd 0 _ rfl
 have f1:=hfd 1 _ rfl
 have f2:=hfd 2 _ rfl
 have f3:=hfd 3 _ rfl
 have f4:=hfd 4 _ rfl
 have f5:=hfd 5 _ rfl
 change DataW.trod enc Tryz.prog w 0 (fun _=>true) true n' 3 (List.take (Tryz.prog.cellsOf 3) [v0,v1,v2,v3,v4,v5,v6,v7])=ys[0]? at f0
 change DataW.trod enc Tryz.prog w 0 (fun _=>true) true n' 34 (List.take (Tryz.prog.cellsOf 34) [v1,v2,v3,v4,v5,v6,v7])=ys[1]? at f1
 change DataW.trod enc Tryz.prog w 0 (fun _=>true) true n' 3 (List.take (Tryz.prog.cellsOf 3) [v4,v5,v6,v7])=ys[2]? at f2
 change DataW.trod enc Tryz.prog w 0 (fun _=>true) true n' 3 (List.take (Tryz.prog.cellsOf 3) [v5,v6,v7])=ys[3]? at f3
 change DataW.trod enc Tryz.prog w 0 (fun _=>true) true n' 32 (List.take (Tryz.prog.cellsOf 32) [v6,v7])=ys[4]? at f4
 change DataW.trod enc Tryz.prog w 0 (fun _=>true) true n' 23 (List.take (Tryz.prog.cellsOf 23) [v7])=ys[5]? at f5
 rw[hc3,h0]at f0
 rw[hc34,h1]at f1
 rw[hc3,h2]at f2
 rw[hc3,h3]at f3
 rw[hc32,h4]at f4
 rw[hc23,h5]at f5
 change DataW.trod enc Tryz.prog w 0 (fun _=>true) true n' 34 [v1,v2,v3]=some z1 at f1
 change DataW.trod enc Tryz.prog w 0 (fun _=>true) true n' 32 [v6]=some z4 at f4
 change DataW.trod enc Tryz.prog w 0 (fun _=>true) true n' 23 [v7]=some z5 at f5
 obtain⟨k,e0,_,_⟩:=DataW.trod_int Tryz.underlying3 f0
 obtain⟨N,e2,_,_⟩:=DataW.trod_int Tryz.underlying3 f2
 obtain⟨F,e3,_,_⟩:=DataW.trod_int Tryz.underlying3 f3
 obtain⟨D,dn,dc,dd,e4,hdn,_⟩:=bytes_of f4
 obtain⟨K,kn,kc,e5,hkn⟩:∃K kn kc,v7=.slice K kn kc/\kn<=9223372036854775807:=by
  rcases open_bools Tryz.underlying23 Tryz.underlying4 (by kernel_rfl) f5 with⟨hcs,_⟩|⟨a,l,c,B,hcs,_,hl,hm,_,hcell⟩
  ·injection hcs with hcs
   exact⟨none,0,0,hcs,by omega⟩
  ·injection hcs with hcs
   exact⟨some a,l,c,hcs,by unfold maxLen at hm;omega⟩
 obtain⟨xs,n2,hn2,hx,hxl,hxs,gfd⟩:=DataW.trod_struct Tryz.underlying34 f1
 obtain⟨y0,i0⟩:∃z,xs[0]? =some z:=⟨_,List.getElem?_eq_getElem (by rw[hxs];decide)⟩
 obtain⟨y1,i1⟩:∃z,xs[1]? =some z:=⟨_,List.getElem?_eq_getElem (by rw[hxs];decide)⟩
 obtain⟨y2,i2⟩:∃z,xs[2]? =some z:=⟨_,List.getElem?_eq_getElem (by rw[hxs];decide)⟩
 have g0:=gfd 0 _ rfl
 have g1:=gfd 1 _ rfl
 have g2:=gfd 2 _ rfl
 change DataW.trod enc Tryz.prog w 0 (fun _=>true) true n2 3 (List.take (Tryz.prog.cellsOf 3) [v1,v2,v3])=xs[0]? at g0
 change DataW.trod enc Tryz.prog w 0 (fun _=>true) true n2 3 (List.take (Tryz.prog.cellsOf 3) [v2,v3])=xs[1]? at g1
 change DataW.trod enc Tryz.prog w 0 (fun _=>true) true n2 32 (List.take (Tryz.prog.cellsOf 32) [v3])=xs[2]? at g2
 rw[hc3,i0]at g0
 rw[hc3,i1]at g1
 rw[hc32,i2]at g2
 change DataW.trod enc Tryz.prog w 0 (fun _=>true) true n2 32 [v3]=some y2 at g2
 obtain⟨kd,e6,_,_⟩:=DataW.trod_int Tryz.underlying3 g0
 obtain⟨l,e7,_,_⟩:=DataW.trod_int Tryz.underlying3 g1
 obtain⟨V,vn,vc,data,e8,hvn,hd⟩:=bytes_of g2
 injection e0 with e0
 injection e2 with e2
 injection e3 with e3
 injection e6 with e6
 injection e7 with e7
 subst e0 e2 e3 e4 e5 e6 e7 e8
 exact⟨⟨k,kd,l,N,F,data,V,vn,vc,D,dn,dc,K,kn,kc⟩,rfl,hd,hvn,hdn,hkn⟩
def ActAtA (w:World) (a:Addr) (x:ActV):Prop:=(∀(j:Nat) (v:Value),x.cells[j]? =some v->w.cell? (a.add j)=some v)/\HasD (fun _=>True) w (.slice x.V x.vn x.vc) x.data/\x.vn<=9223372036854775807/\x.dn<=9223372036854775807/\x.kn<=9223372036854775807
theorem actRow_of {A:Option Addr}{len cap:Nat}{d:DataW H}{p:List MemPlace}(h:DataW.Trod enc Tryz.prog w 0 (fun _=>true) true 22 (.slice A len cap) d p):
 ActRow w A len/\len<=9223372036854775807:=by
 obtain⟨fuel,hf⟩:=h
 have hc36:Tryz.prog.cellsOf 36=8:=by kernel_rfl
 rcases open_slice Tryz.underlying22 hf with⟨hcs,_⟩|⟨a,l,c,m,n,D,Pl,hcs,_,hl,hm,hmm,_,hi⟩
 ·simp[Value.cells]at hcs
  obtain⟨rfl,rfl,rfl⟩:=hcs
  exact⟨.inl rfl,by omega⟩
 ·simp[Value.cells]at hcs
  obtain⟨rfl,rfl,rfl⟩:=hcs
  refine⟨?_,by unfold maxLen at hm;omega⟩
  by_cases h0:len=0
  ·exact .inl h0
  ·have hm':m=cap:=by simpa using hmm
   rw[hc36]at hi
   have hone:∀i,i<m->∃x,ActAtA w (a.add (i*8)) x:=fun i him=>by
    obtain⟨cs',hcl,ht⟩:=hi i him
    obtain⟨x,rfl,hd,h1,h2,h3⟩:=act_of ht
    obtain⟨_,hln,hat⟩:=World.cells?_some hcl
    refine⟨x,fun j v hv=>?_,hd,h1,h2,h3⟩
    have hj:j<8:=by have:=(List.getElem?_eq_some_iff.1 hv).1;simpa[ActV.cells]using this
    rw[hat j hj,hv]
   obtain⟨x0,hx0⟩:=hone 0 (by omega)
   obtain⟨b,off,rfl,hb⟩:=spot_none (by have:=hx0.1 0 _ rfl;rw[Go.Deep.add_add]at this;exact this) (by simp)
   refine .inr ⟨b,off,rfl,hb,fun i hi'=>?_⟩
   obtain⟨x,hx⟩:=hone i (by omega)
   refine⟨x,fun j v hv=>?_,hx.2.1,hx.2.2.1,hx.2.2.2.1,hx.2.2.2.2⟩
   have:=hx.1 j v hv
   rw[add_plain,add_plain]at this
   exact this
end
end Go.Proofs.YtggmdjdflaglpaaGreat
namespace Go.Proofs.YtggmdjdflaglpaaGreat
open Go.ChangeShapes Go.WideShapes Go.Deep Go.RowKit
set_option linter.unusedVariables false
structure ActX (w:World) (b o:Nat) (x:ActV) (ks:List Bool):Prop where
 at_:ActAt w b o x
 keep:HasK (fun _=>True) w (.slice x.K x.kn x.kc) ks
 klen:ks.length=x.kn
 nmax:x.N<=9223372036854775807
def ActXRow (w:World) (A:Option Addr) (len:Nat):Prop:=
 len=0\/∃b off,A=some ⟨b,off,none⟩/\b<w.heap.size/\∀i,i<len->∃x ks,ActX w b (off+i*8) x ks
theorem ActX.below_ {w w':World}{b o:Nat}{x:ActV}{ks:List Bool}(h:ActX w b o x ks) (hb:b<w.heap.size) (hw:Below w.heap.size w w'):ActX w' b o x ks:=⟨h.at_.below_ hb hw,h.keep.below_ hw,h.klen,h.nmax⟩
theorem ActXRow.row {w:World}{A:Option Addr}{len:Nat}(h:ActXRow w A len):ActRow w A len:=by
 rcases h with h|⟨b,off,h1,h2,h3⟩
 ·exact .inl h
 ·exact .inr ⟨b,off,h1,h2,fun i hi=>by obtain⟨x,ks,hx⟩:=h3 i hi;exact⟨x,hx.at_⟩⟩
section
variable {H:Type}{enc:TypeId×Value->H}{w:World}
theorem bools_of {fuel:Nat}{v:Value}{y:DataW H×List MemPlace}(h:DataW.trod enc Tryz.prog w 0 (fun _=>true) true fuel 23 [v]=some y):
 ∃(K:Option Addr) (kn kc:Nat) (ks:List Bool),v=.slice K kn kc/\kn<=9223372036854775807/\ks.length=kn/\HasK (fun _=>True) w (.slice K kn kc) ks:=by
 rcases open_bools Tryz.underlying23 Tryz.underlying4 (by kernel_rfl) h with⟨hcs,_⟩|⟨a,l,c,B,hcs,_,hl,hm,_,hcell⟩
 ·injection hcs with hcs
  exact⟨none,0,0,[],hcs,by omega,rfl,none,0,rfl,.inl rfl⟩
 ·injection hcs with hcs
  have hll:((List.range l).map B).length=l:=by simp
  refine⟨some a,l,c,(List.range l).map B,hcs,by unfold maxLen at hm;omega,hll,some a,c,by rw[hll],?_⟩
  by_cases h0:l=0
  ·exact .inl (by rw[h0];rfl)
  ·obtain⟨b,off,rfl,hlt⟩:=spot_none (hcell 0 (by omega)) rfl
   refine .inr ⟨b,off,rfl,trivial,hlt,by rw[hll];exact hl,hm,fun j x hx=>?_⟩
   have hj:j<l:=by
    have:=(List.getElem?_eq_some_iff.1 hx).1
    omega
   have hc:=hcell j (by omega)
   rw[add_plain]at hc
   rw[List.getElem?_map,List.getElem?_range hj]at hx
   injection hx with hx
   rw[hc,hx]
theorem actx_of {n:Nat}{cs:List Value}{y:DataW H×List MemPlace}(ht:DataW.trod enc Tryz.prog w 0 (fun _=>true) true n 36 cs=some y):
 ∃(x:ActV) (ks:List Bool),cs=x.cells/\HasD (fun _=>True) w (.slice x.V x.vn x.vc) x.data/\x.vn<=9223372036854775807/\x.dn<=9223372036854775807/\x.kn<=9223372036854775807/\HasK (fun _=>True) w (.slice x.K x.kn x.kc) ks/\ks.length=x.kn/\x.N<=9223372036854775807:=by
 have hc36:Tryz.prog.cellsOf 36=8:=by kernel_rfl
 have hc34:Tryz.prog.cellsOf 34=3:=by kernel_rfl
 have hc3:Tryz.prog.cellsOf 3=1:=by kernel_rfl
 have hc32:Tryz.prog.cellsOf 32=1:=by kernel_rfl
 have hc23:Tryz.prog.cellsOf 23=1:=by kernel_rfl
 obtain⟨ys,n',hn',hy,hlen,hyl,hfd⟩:=DataW.trod_struct Tryz.underlying36 ht
 rw[hc36]at hlen
 obtain⟨v0,v1,v2,v3,v4,v5,v6,v7,rfl⟩:=len8 cs hlen
 have get:∀i,i<6->∃z,ys[i]? =some z:=fun i hi=>⟨_,List.getElem?_eq_getElem (by rw[hyl];exact hi)⟩
 obtain⟨z0,h0⟩:=get 0 (by omega)
 obtain⟨z1,h1⟩:=get 1 (by omega)
 obtain⟨z2,h2⟩:=get 2 (by omega)
 obtain⟨z3,h3⟩:=get 3 (by omega)
 obtain⟨z4,h4⟩:=get 4 (by omega)
 obtain⟨z5,h5⟩:=get 5 (by omega)
 have f0:=hfd 0 _ rfl
 have f1:=hfd 1 _ rfl
 have f2:=hfd 2 _ rfl
 have f3:=hfd 3 _ rfl
 have f4:=hfd 4 _ rfl
 have f5:=hfd 5 _ rfl
 change DataW.trod enc Tryz.prog w 0 (fun _=>true) true n' 3 (List.take (Tryz.prog.cellsOf 3) [v0,v1,v2,v3,v4,v5,v6,v7])=ys[0]? at f0
 change DataW.trod enc Tryz.prog w 0 (fun _=>true) true n' 34 (List.take (Tryz.prog.cellsOf 34) [v1,v2,v3,v4,v5,v6,v7])=ys[1]? at f1
 change DataW.trod enc Tryz.prog w 0 (fun _=>true) true n' 3 (List.take (Tryz.prog.cellsOf 3) [v4,v5,v6,v7])=ys[2]? at f2
 change DataW.trod enc Tryz.prog w 0 (fun _=>true) true n' 3 (List.take (Tryz.prog.cellsOf 3) [v5,v6,v7])=ys[3]? at f3
 change DataW.trod enc Tryz.prog w 0 (fun _=>true) true n' 32 (List.take (Tryz.prog.cellsOf 32) [v6,v7])=ys[4]? at f4
 change DataW.trod enc Tryz.prog w 0 (fun _=>true) true n' 23 (List.take (Tryz.prog.cellsOf 23) [v7])=ys[5]? at f5
 rw[hc3,h0]at f0
 rw[hc34,h1]at f1
 rw[hc3,h2]at f2
 rw[hc3,h3]at f3
 rw[hc32,h4]at f4
 rw[hc23,h5]at f5
 change DataW.trod enc Tryz.prog w 0 (fun _=>true) true n' 34 [v1,v2,v3]=some z1 at f1
 change DataW.trod enc Tryz.prog w 0 (fun _=>true) true n' 32 [v6]=some z4 at f4
 change DataW.trod enc Tryz.prog w 0 (fun _=>true) true n' 23 [v7]=some z5 at f5
 obtain⟨k,e0,_,_⟩:=DataW.trod_int Tryz.underlying3 f0
 obtain⟨N,e2,_,hNw⟩:=DataW.trod_int Tryz.underlying3 f2
 obtain⟨F,e3,_,_⟩:=DataW.trod_int Tryz.underlying3 f3
 obtain⟨D,dn,dc,dd,e4,hdn,_⟩:=bytes_of f4
 obtain⟨K,kn,kc,ks,e5,hkn,hkl,hkk⟩:=bools_of f5
 obtain⟨xs,n2,hn2,hx,hxl,hxs,gfd⟩:=DataW.trod_struct Tryz.underlying34 f1
 obtain⟨y0,i0⟩:∃z,xs[0]? =some z:=⟨_,List.getElem?_eq_getElem (by rw[hxs];decide)⟩
 obtain⟨y1,i1⟩:∃z,xs[1]? =some z:=⟨_,List.getElem?_eq_getElem (by rw[hxs];decide)⟩
 obtain⟨y2,i2⟩:∃z,xs[2]? =some z:=⟨_,List.getElem?_eq_getElem (by rw[hxs];decide)⟩
 have g0:=gfd 0 _ rfl
 have g1:=gfd 1 _ rfl
 have g2:=gfd 2 _ rfl
 change DataW.trod enc Tryz.prog w 0 (fun _=>true) true n2 3 (List.take (Tryz.prog.cellsOf 3) [v1,v2,v3])=xs[0]? at g0
 change DataW.trod enc Tryz.prog w 0 (fun _=>true) true n2 3 (List.take (Tryz.prog.cellsOf 3) [v2,v3])=xs[1]? at g1
 change DataW.trod enc Tryz.prog w 0 (fun _=>true) true n2 32 (List.take (Tryz.prog.cellsOf 32) [v3])=xs[2]? at g2
 rw[hc3,i0]at g0
 rw[hc3,i1]at g1
 rw[hc32,i2]at g2
 change DataW.trod enc Tryz.prog w 0 (fun _=>true) true n2 32 [v3]=some y2 at g2
 obtain⟨kd,e6,_,_⟩:=DataW.trod_int Tryz.underlying3 g0
 obtain⟨l,e7,_,_⟩:=DataW.trod_int Tryz.underlying3 g1
 obtain⟨V,vn,vc,data,e8,hvn,hd⟩:=bytes_of g2
 injection e0 with e0
 injection e2 with e2
 injection e3 with e3
 injection e6 with e6
 injection e7 with e7
 subst e0 e2 e3 e4 e5 e6 e7 e8
 have hN:=bounds_i64 hNw
 exact⟨⟨k,kd,l,N,F,data,V,vn,vc,D,dn,dc,K,kn,kc⟩,ks,rfl,hd,hvn,hdn,hkn,hkk,hkl,hN.2⟩
theorem actxRow_of {A:Option Addr}{len cap:Nat}{d:DataW H}{p:List MemPlace}(h:DataW.Trod enc Tryz.prog w 0 (fun _=>true) true 22 (.slice A len cap) d p):
 ActXRow w A len/\len<=9223372036854775807:=by
 obtain⟨fuel,hf⟩:=h
 have hc36:Tryz.prog.cellsOf 36=8:=by kernel_rfl
 rcases open_slice Tryz.underlying22 hf with⟨hcs,_⟩|⟨a,l,c,m,n,D,Pl,hcs,_,hl,hm,hmm,_,hi⟩
 ·simp[Value.cells]at hcs
  obtain⟨rfl,rfl,rfl⟩:=hcs
  exact⟨.inl rfl,by omega⟩
 ·simp[Value.cells]at hcs
  obtain⟨rfl,rfl,rfl⟩:=hcs
  refine⟨?_,by unfold maxLen at hm;omega⟩
  by_cases h0:len=0
  ·exact .inl h0
  ·have hm':m=cap:=by simpa using hmm
   rw[hc36]at hi
   have hone:∀i,i<m->∃x ks,ActAtA w (a.add (i*8)) x/\HasK (fun _=>True) w (.slice x.K x.kn x.kc) ks/\ks.length=x.kn/\x.N<=9223372036854775807:=fun i him=>by
    obtain⟨cs',hcl,ht⟩:=hi i him
    obtain⟨x,ks,rfl,hd,h1,h2,h3,h4⟩:=actx_of ht
    obtain⟨_,hln,hat⟩:=World.cells?_some hcl
    refine⟨x,ks,⟨fun j v hv=>?_,hd,h1,h2,h3⟩,h4⟩
    have hj:j<8:=by have:=(List.getElem?_eq_some_iff.1 hv).1;simpa[ActV.cells]using this
    rw[hat j hj,hv]
   obtain⟨x0,_,hx0,_⟩:=hone 0 (by omega)
   obtain⟨b,off,rfl,hb⟩:=spot_none (by have:=hx0.1 0 _ rfl;rw[Go.Deep.add_add]at this;exact this) (by simp)
   refine .inr ⟨b,off,rfl,hb,fun i hi'=>?_⟩
   obtain⟨x,ks,hx,h4⟩:=hone i (by omega)
   refine⟨x,ks,⟨fun j v hv=>?_,hx.2.1,hx.2.2.1,hx.2.2.2.1,hx.2.2.2.2⟩,h4.1,h4.2.1,h4.2.2⟩
   have:=hx.1 j v hv
   rw[add_plain,add_plain]at this
   exact this
end
end Go.Proofs.YtggmdjdflaglpaaGreat
namespace Go.Proofs.YtggmdjdflaglpaaGreat
open Go.RowKit Go.Proofs.YtggmdjdflaglpaaGreat.geo
set_option linter.unusedVariables false
set_option maxHeartbeats 2000000 in
set_option maxRecDepth 100000 in
theorem foe_ok (k kd l N F:Int) (V D K:Option Addr) (vn dn kn:Nat) (vc dc kc:Nat) (w:World):
 Calls Tryz.prog 8 #[.agg #[.int .i64 k,.int .i64 kd,.int .i64 l,.slice V vn vc,.int .i64 N,.int .i64 F,.slice D dn dc,.slice K kn kc]] w fun e w'=>e=.returned (.bool (decide (k=4\/k=6)))/\Below w.heap.size w w':=by
 have q:Below w.heap.size w (w.alloc (.cells #[.int .i64 k,.int .i64 kd,.int .i64 l,.slice V vn vc,.int .i64 N,.int .i64 F,.slice D dn dc,.slice K kn kc] 36)):=(Below.refl _ _).alloc (Nat.le_refl _) _
 by_cases k4:k=4
 ·subst k4
  go_enter Tryz.func8,Tryz.ntmps8
  go_wp2_with fail
  go_ret
  exact⟨rfl,q⟩
 ·by_cases k6:k=6
  ·subst k6
   go_enter Tryz.func8,Tryz.ntmps8
   go_wp2_with fail
   go_ret
   exact⟨rfl,q⟩
  ·have hd:decide (k=4\/k=6)=false:=by simp;exact⟨k4,k6⟩
   rw[hd]
   go_enter Tryz.func8,Tryz.ntmps8
   go_wp2_with fail
   go_ret
   have e:(k == 4||k == 6)=false:=by simp[k4,k6]
   refine⟨?_,q⟩
   show Ending.returned (.bool (k == 4||k == 6))=_
   rw[e]
theorem bs_act (HO:OpenOk) (HS:SumOk) (HT:ShutOk) (ρ:Rl) (bx:Nat) (a:Ads) (S:Bst) (k t:Nat) (kind kd l N F:Int) (data:By) (V D K:Option Addr) (vn dn kn:Nat) (vc dc kc:Nat) (ks:List Bool) (w:World) (hf:Fresh ρ w) (h:BstR ρ w bx a S)
 (hP:∃E,Per S.C E) (hC:Cok S.C k t) (htw:S.dead=false->S.C.tw) (hdo:S.C.W.dsk.ok) (hn:S.n<=1000) (hk:k<=200000) (ht:t<=900) (h4:kind≠4) (h6:kind≠6) (hN:N<=9223372036854775807)
 (hv:HasD (fun b=>¬rtX (ρ b)) w (.slice V vn vc) data) (hkv:HasK (fun b=>¬rtX (ρ b)) w (.slice K kn kc) ks) (hkl:ks.length=kn) (hk1:kn<=1000):
 Calls Tryz.prog 9 #[.pointer (some ⟨bx,0,none⟩),.agg #[.int .i64 kind,.int .i64 kd,.int .i64 l,.slice V vn vc,.int .i64 N,.int .i64 F,.slice D dn dc,.slice K kn kc]] w
  (ToS ρ bx a (bact S kind kd l N data ks).1 (bact S kind kd l N data ks).2.1 (bact S kind kd l N data ks).2.2 w):=by
 obtain⟨E,hP⟩:=hP
 unfold bact
 by_cases k1:kind=1
 ·subst k1
  rw[if_pos rfl]
  cases hd:S.dead with
  |true=>
   rw[if_pos rfl]
   exact bs_dead ρ bx a S kd l N F V D K vn dn kn vc dc kc w hf h hd
  |false=>
   rw[if_neg (by simp)]
   exact bs_call HO HS HT ρ bx a S k t kd l N F data _ D K dn kn dc kc w hf h hd ⟨hC,htw hd,hdo⟩ (by omega) ht hv
 rw[if_neg k1]
 by_cases k2:kind=2
 ·subst k2
  rw[if_pos rfl]
  exact bs_fuse ρ bx a S kd l N F V D K vn dn kn vc dc kc w hf h hN
 rw[if_neg k2]
 by_cases k3:kind=3
 ·subst k3
  rw[if_pos rfl]
  subst hkl
  exact bs_crash HO HS HT ρ bx a S E k t kd l N F V D K vn dn vc dc kc ks w hf h hP hC hk hkv hk1
 rw[if_neg k3]
 by_cases k5:kind=5
 ·subst k5
  rw[if_pos rfl]
  exact bs_snap ρ bx a S kd l N F V D K vn dn kn vc dc kc w hf h (hC.fit.mono (by omega)) hn
 rw[if_neg k5]
 by_cases k7:kind=7
 ·subst k7
  rw[if_pos rfl]
  exact bs_refuse ρ bx a S kd l N F V D K vn dn kn vc dc kc w hf h
 rw[if_neg k7]
 exact bs_none ρ bx a S kind kd l N F V D K vn dn kn vc dc kc w hf h (by omega)
end Go.Proofs.YtggmdjdflaglpaaGreat
