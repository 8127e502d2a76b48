/- The lock: Open. Structs and arrays whole: loaded, stored, returned out of a block. Leaves: as cells, as bytes; leaf.Is. leaf.Put: a leaf as bytes; pieces of bytes, collected. field: Add, double, Mul, Eval. -/
import Derived.Test.YtggmdjdflaglpaaGreatR15
import Derived.Test.YtggmdjdflaglpaaGreatR14
import Derived.Test.YtggmdjdflaglpaaGreatR11
namespace Go.Proofs.YtggmdjdflaglpaaGreat
open Go.RowKit
set_option linter.unusedVariables false
set_option maxHeartbeats 4000000 in
set_option maxRecDepth 100000 in
theorem lopen_ok (ρ:Rl) (p q:Nat->Prop) (l o:Nat) (O:Orc) (key:Two) (n:Nce) (vh:Value) (head:By) (vb:Value) (b:By) (tag:Two) (w:World) (h:LckR ρ w l o O) (hh:HasP p w vh head) (hb:HasP q w vb b):
 Calls Tryz.prog 137 #[.pointer (some ⟨l,0,none⟩),pv key,nv n,vh,.agg #[vb,.int .u64 tag.1,.int .u64 tag.2]] w fun e w'=>
  ∃v,e=.returned (.tuple #[v,.bool (oopen O.iss key n head b tag).isSome])/\OwnB w.heap.size w' v ((oopen O.iss key n head b tag).getD [])/\Below w.heap.size w w':=by
 obtain⟨A,cap,rfl⟩:=hb.slice
 have hcall:=fun W h1 h2 h3=>oopen_ok ρ p q o O key n vh head (.slice A b.length cap) b tag W h1 h2 h3
 unfold pv nv at hcall ⊢
 obtain⟨ka,kb⟩:=key
 obtain⟨ne,ns,nr⟩:=n
 obtain⟨ta,tb⟩:=tag
 simp only at hcall ⊢
 obtain⟨m,hm⟩:∃m,m=b.length:=⟨_,rfl⟩
 rw[<-hm]at hcall hb ⊢
 obtain⟨W,hW⟩:∃W,W=((w.alloc (.cells #[.int .u64 ka,.int .u64 kb] 101)).alloc (.cells #[.int .u32 ne,.int .u32 ns,.int .u64 nr] 99)).alloc (.cells #[.slice A m cap,.int .u64 ta,.int .u64 tb] 157):=⟨_,rfl⟩
 have hbw:Below w.heap.size w W:=by rw[hW];exact(((Below.refl _ _).alloc (Nat.le_refl _) _).alloc (by simp) _).alloc (by simp;omega) _
 have hB0:Blk W w.heap.size 101 #[.int .u64 ka,.int .u64 kb]:=by rw[hW];exact((Blk.new w 101 _).alloc _).alloc _
 have hB1:Blk W (w.heap.size+1) 99 #[.int .u32 ne,.int .u32 ns,.int .u64 nr]:=by
  rw[hW]
  have:=Blk.new (w.alloc (.cells #[.int .u64 ka,.int .u64 kb] 101)) 99 #[.int .u32 ne,.int .u32 ns,.int .u64 nr]
  rw[World.size_alloc]at this
  exact this.alloc _
 have hB2:Blk W (w.heap.size+1+1) 157 #[.slice A m cap,.int .u64 ta,.int .u64 tb]:=by
  rw[hW]
  have:=Blk.new ((w.alloc (.cells #[.int .u64 ka,.int .u64 kb] 101)).alloc (.cells #[.int .u32 ne,.int .u32 ns,.int .u64 nr] 99)) 157 #[.slice A m cap,.int .u64 ta,.int .u64 tb]
  rw[World.size_alloc,World.size_alloc]at this
  exact this
 have hL:LckR ρ W l o O:=h.keep hbw.size (fun b hb _=>⟨hbw.block b hb,rfl⟩)
 have hc:=hcall W.drew (hL.2.2.keep (Nat.le_refl _) (fun _ _ _=>⟨rfl,rfl⟩)) (hh.below_ hbw.drew) (hb.below_ hbw.drew)
 have hLb:=hL.1.drew
 have hl:=hL.1.lt
 have hws:=hbw.size
 clear hcall h hh hb hL hm
 go_enter Tryz.func137,Tryz.ntmps137
 go_wp2_with fail
 rw[<-hW]
 clear hW
 replace hB0:=hB0.drew
 replace hB1:=hB1.drew
 replace hB2:=hB2.drew
 replace hbw:=hbw.drew
 go_region_held3 (fun w'=>w'.cell? ⟨l,1,none⟩=some (.func (.func 58) #[.pointer (some ⟨o,0,none⟩)] #[])/\w'.cell? ⟨w.heap.size,0,none⟩=some (.int .u64 ka)/\w'.cell? ⟨w.heap.size,1,none⟩=some (.int .u64 kb)/\
  w'.cell? ⟨w.heap.size+1,0,none⟩=some (.int .u32 ne)/\w'.cell? ⟨w.heap.size+1,1,none⟩=some (.int .u32 ns)/\w'.cell? ⟨w.heap.size+1,2,none⟩=some (.int .u64 nr)/\
  w'.cell? ⟨w.heap.size+1+1,0,none⟩=some (.slice A m cap)/\w'.cell? ⟨w.heap.size+1+1,1,none⟩=some (.int .u64 ta)/\w'.cell? ⟨w.heap.size+1+1,2,none⟩=some (.int .u64 tb))
  (exact⟨hLb.cell_ 1 rfl,hB0.cell_ 0 rfl,hB0.cell_ 1 rfl,hB1.cell_ 0 rfl,hB1.cell_ 1 rfl,hB1.cell_ 2 rfl,hB2.cell_ 0 rfl,hB2.cell_ 1 rfl,hB2.cell_ 2 rfl⟩)
  (first
   |(go_at_call 58;refine hc.mono ?_;rintro e w1 ⟨v1,rfl,o1,l1⟩;replace hLb:=hLb.below_ l1;replace hB0:=hB0.below_ l1;replace hB1:=hB1.below_ l1;replace hB2:=hB2.below_ l1))
 go_wp2_with fail
 go_ret2
 exact⟨_,rfl,o1.weak hws,hbw.trans (l1.mono hws)⟩
end Go.Proofs.YtggmdjdflaglpaaGreat
namespace Go.Proofs.YtggmdjdflaglpaaGreat
open Go.RowKit Go.Proofs.YtggmdjdflaglpaaGreat.r27
set_option linter.unusedVariables false
theorem Blk.range {w:World}{g t:Nat}{cs:List Value}(h:Blk w g t cs.toArray):w.rangeAt g 0 cs:=fun j v hv=>by
 rw[Nat.zero_add]
 exact h.cell_ j (by simpa using hv)
theorem Blk.there_ {w:World}{g t n:Nat}{cs:List Value}(h:Blk w g t cs.toArray) (hn:n=cs.length):w.there g 0 n:=there_of (cs:=cs) h (by omega)
theorem Blk.whole {w:World}{g t:Nat}{cs vs:List Value}(h:Blk w g t cs.toArray) (hn:vs.length=cs.length):Blk (w.setCells g 0 vs) g t vs.toArray:=by
 have:=Blk.setCells (w:=w) vs cs 0 w h (by omega)
 rw[List.take_zero,List.nil_append,Nat.zero_add,hn,List.drop_length,List.append_nil]at this
 exact this
theorem Blk.far_cells {w:World}{g g' t:Nat}{cs:Array Value}(h:Blk w g t cs) (hne:g≠g') (o:Nat) (vs:List Value):Blk (w.setCells g' o vs) g t cs:=
 h.grown (only_setCells vs o w (only_refl _ (some g'))) (fun e=>hne (by injection e))
section
variable {P:Program}{fn:Func}{R:Ending->World->Prop}{a:Act}{w:World}
theorem ret_cell (t:Tmp) (ty:TypeId) (hf:fn.results=#[.cell t ty]) (b o:Nat) (ht:a.tmps.getD t undef=.pointer (some ⟨b,o,none⟩)) (cs:List Value) (d:TypeDesc) (hc:w.rangeAt b o cs)
 (hu:P.underlying ty=some d) (hd:d.isRow=true) (hi:(P.info? ty).map (·.size)=some cs.length) (hde:a.defers=[]) (hR:R (.returned (.agg cs.toArray)) w):bodyPost P fn R .ret a w:=by
 refine bodyPost_ret (v:=.agg cs.toArray) ?_ hde hR
 have hl:=run_loadVar_mid w b o ty cs d hc hu hd hi
 unfold results
 rw[hf]
 simp only[List.mapM_toArray,List.mapM_cons,List.mapM_nil,Sem.run_bind,Sem.run_pure,Result.andThen_ok,asAddr,Sem.run_map,ht,hl]
 simp
theorem ret_cell_tmp (t:Tmp) (ty:TypeId) (s:Tmp) (hf:fn.results=#[.cell t ty,.tmp s]) (b o:Nat) (ht:a.tmps.getD t undef=.pointer (some ⟨b,o,none⟩)) (u:Value) (hs:a.tmps.getD s undef=u) (cs:List Value) (d:TypeDesc) (hc:w.rangeAt b o cs)
 (hu:P.underlying ty=some d) (hd:d.isRow=true) (hi:(P.info? ty).map (·.size)=some cs.length) (hde:a.defers=[]) (hR:R (.returned (.tuple #[.agg cs.toArray,u])) w):bodyPost P fn R .ret a w:=by
 refine bodyPost_ret (v:=.tuple #[.agg cs.toArray,u]) ?_ hde hR
 have hl:=run_loadVar_mid w b o ty cs d hc hu hd hi
 unfold results
 rw[hf]
 simp only[List.mapM_toArray,List.mapM_cons,List.mapM_nil,Sem.run_bind,Sem.run_pure,Result.andThen_ok,asAddr,Sem.run_map,ht,hs,hl]
 simp
theorem ret_tmp_cell (s:Tmp) (t:Tmp) (ty:TypeId) (hf:fn.results=#[.tmp s,.cell t ty]) (b o:Nat) (ht:a.tmps.getD t undef=.pointer (some ⟨b,o,none⟩)) (u:Value) (hs:a.tmps.getD s undef=u) (cs:List Value) (d:TypeDesc) (hc:w.rangeAt b o cs)
 (hu:P.underlying ty=some d) (hd:d.isRow=true) (hi:(P.info? ty).map (·.size)=some cs.length) (hde:a.defers=[]) (hR:R (.returned (.tuple #[u,.agg cs.toArray])) w):bodyPost P fn R .ret a w:=by
 refine bodyPost_ret (v:=.tuple #[u,.agg cs.toArray]) ?_ hde hR
 have hl:=run_loadVar_mid w b o ty cs d hc hu hd hi
 unfold results
 rw[hf]
 simp only[List.mapM_toArray,List.mapM_cons,List.mapM_nil,Sem.run_bind,Sem.run_pure,Result.andThen_ok,asAddr,Sem.run_map,ht,hs,hl]
 simp
theorem ret_tmp_cell_tmp (s:Tmp) (t:Tmp) (ty:TypeId) (s':Tmp) (hf:fn.results=#[.tmp s,.cell t ty,.tmp s']) (b o:Nat) (ht:a.tmps.getD t undef=.pointer (some ⟨b,o,none⟩)) (u:Value) (hs:a.tmps.getD s undef=u) (u':Value) (hs':a.tmps.getD s' undef=u') (cs:List Value) (d:TypeDesc) (hc:w.rangeAt b o cs)
 (hu:P.underlying ty=some d) (hd:d.isRow=true) (hi:(P.info? ty).map (·.size)=some cs.length) (hde:a.defers=[]) (hR:R (.returned (.tuple #[u,.agg cs.toArray,u'])) w):bodyPost P fn R .ret a w:=by
 refine bodyPost_ret (v:=.tuple #[u,.agg cs.toArray,u']) ?_ hde hR
 have hl:=run_loadVar_mid w b o ty cs d hc hu hd hi
 unfold results
 rw[hf]
 simp only[List.mapM_toArray,List.mapM_cons,List.mapM_nil,Sem.run_bind,Sem.run_pure,Result.andThen_ok,asAddr,Sem.run_map,ht,hs,hs',hl]
 simp
theorem ret_cell_cell_tmp (t:Tmp) (ty:TypeId) (t':Tmp) (ty':TypeId) (s:Tmp) (hf:fn.results=#[.cell t ty,.cell t' ty',.tmp s]) (b o:Nat) (ht:a.tmps.getD t undef=.pointer (some ⟨b,o,none⟩)) (b' o':Nat) (ht':a.tmps.getD t' undef=.pointer (some ⟨b',o',none⟩))
 (u:Value) (hs:a.tmps.getD s undef=u) (cs:List Value) (d:TypeDesc) (hc:w.rangeAt b o cs) (hu:P.underlying ty=some d) (hd:d.isRow=true) (hi:(P.info? ty).map (·.size)=some cs.length)
 (cs':List Value) (d':TypeDesc) (hc':w.rangeAt b' o' cs') (hu':P.underlying ty'=some d') (hd':d'.isRow=true) (hi':(P.info? ty').map (·.size)=some cs'.length) (hde:a.defers=[])
 (hR:R (.returned (.tuple #[.agg cs.toArray,.agg cs'.toArray,u])) w):bodyPost P fn R .ret a w:=by
 refine bodyPost_ret (v:=.tuple #[.agg cs.toArray,.agg cs'.toArray,u]) ?_ hde hR
 have hl:=run_loadVar_mid w b o ty cs d hc hu hd hi
 have hl':=run_loadVar_mid w b' o' ty' cs' d' hc' hu' hd' hi'
 unfold results
 rw[hf]
 simp only[List.mapM_toArray,List.mapM_cons,List.mapM_nil,Sem.run_bind,Sem.run_pure,Result.andThen_ok,asAddr,Sem.run_map,ht,ht',hs,hl,hl']
 simp
end
theorem sz99:(Tryz.prog.info? 99).map (·.size)=some 3:=by kernel_rfl
theorem sz101:(Tryz.prog.info? 101).map (·.size)=some 2:=by kernel_rfl
theorem sz103:(Tryz.prog.info? 103).map (·.size)=some 8:=by kernel_rfl
theorem sz139:(Tryz.prog.info? 139).map (·.size)=some 5:=by kernel_rfl
theorem sz157:(Tryz.prog.info? 157).map (·.size)=some 3:=by kernel_rfl
theorem sz176:(Tryz.prog.info? 176).map (·.size)=some 10:=by kernel_rfl
theorem sz38:(Tryz.prog.info? 38).map (·.size)=some 2:=by kernel_rfl
end Go.Proofs.YtggmdjdflaglpaaGreat
namespace Go.Proofs.YtggmdjdflaglpaaGreat
open Go.RowKit
set_option linter.unusedVariables false
structure Lf where
 kind:Nat
 dirty:Bool
 lba:Nat
 n:Nce
 tag:Two
def Lf.no:Lf:=⟨0,false,0,⟨0,0,0⟩,(0,0)⟩
def Lf.zero (lba:Nat):Lf:=⟨2,true,lba,⟨0,0,0⟩,(0,0)⟩
def lfc (l:Lf):List Value:=[.int .i64 l.kind,.bool l.dirty,.int .i64 l.lba,.int .u32 l.n.ep,.int .u32 l.n.slot,.int .u64 l.n.ver,.int .u64 l.tag.1,.int .u64 l.tag.2]
def lfv (l:Lf):Value:=.agg (lfc l).toArray
def Lf.ok (l:Lf) (i:Nat):Prop:=l=Lf.no\/(∃k,k<32/\l=Lf.zero k)\/(l.kind=1/\l.lba<32/\l.n.slot=i/\0<l.n.ep/\l.n.ok/\U2 l.tag)
theorem lsLba_ok (k:Nat) (w:World) (h:k<32):Calls Tryz.prog 180 #[.int .i64 k] w fun e w'=>e=.returned (.bool true)/\w=w':=by
 have k0:(0:Int)<=(k:Int):=by omega
 have k1:(k:Int)<32:=by omega
 go_enter Tryz.func180,Tryz.ntmps180
 go_wp2_with fail
 go_ret
 exact⟨rfl,rfl⟩
theorem eq_none (w:World):(binOp .eql 103 (.agg #[.int .i64 0,.bool false,.int .i64 0,.int .u32 0,.int .u32 0,.int .u64 0,.int .u64 0,.int .u64 0]) (.agg #[.int .i64 0,.bool false,.int .i64 0,.int .u32 0,.int .u32 0,.int .u64 0,.int .u64 0,.int .u64 0])).run Tryz.prog w=.ok (.bool true) w:=by kernel_rfl
theorem eq_zero (k:Int) (w:World):(binOp .eql 103 (.agg #[.int .i64 2,.bool true,.int .i64 k,.int .u32 0,.int .u32 0,.int .u64 0,.int .u64 0,.int .u64 0]) (.agg #[.int .i64 2,.bool true,.int .i64 k,.int .u32 0,.int .u32 0,.int .u64 0,.int .u64 0,.int .u64 0])).run Tryz.prog w=.ok (.bool true) w:=by
 have z:(Op.equalIn 9999 101 (.agg #[.int .u64 0,.int .u64 0]) (.agg #[.int .u64 0,.int .u64 0])).run Tryz.prog w=.ok true w:=by kernel_rfl
 simp[go_sem,z]
theorem lis_none (i:Nat) (hi:i<16) (w:World):Calls Tryz.prog 169 #[lfv Lf.no,.int .i64 i] w fun e w'=>e=.returned (.bool true)/\Below w.heap.size w w':=by
 have i0:(0:Int)<=(i:Int):=by omega
 have i1:(i:Int)<16:=by omega
 have hq:=fun W=>eq_none W
 unfold lfv lfc Lf.no
 go_enter Tryz.func169,Tryz.ntmps169
 go_wp2_with fail
 go_ret
 exact⟨rfl,(Below.refl _ _).alloc (Nat.le_refl _) _⟩
theorem lis_zero (k i:Nat) (hi:i<16) (hk:k<32) (w:World):Calls Tryz.prog 169 #[lfv (Lf.zero k),.int .i64 i] w fun e w'=>e=.returned (.bool true)/\Below w.heap.size w w':=by
 have i0:(0:Int)<=(i:Int):=by omega
 have i1:(i:Int)<16:=by omega
 have hq:=fun W=>eq_zero k W
 unfold lfv lfc Lf.zero
 go_enter Tryz.func169,Tryz.ntmps169
 go_wp2_with (go_at_call 180;refine(lsLba_ok k _ hk).mono ?_;rintro e w1 ⟨rfl,rfl⟩)
 go_ret
 exact⟨rfl,(Below.refl _ _).alloc (Nat.le_refl _) _⟩
theorem lis_full (l:Lf) (i:Nat) (hi:i<16) (h:l.kind=1/\l.lba<32/\l.n.slot=i/\0<l.n.ep/\l.n.ok/\U2 l.tag) (w:World):Calls Tryz.prog 169 #[lfv l,.int .i64 i] w fun e w'=>e=.returned (.bool true)/\Below w.heap.size w w':=by
 have i0:(0:Int)<=(i:Int):=by omega
 have i1:(i:Int)<16:=by omega
 obtain⟨kind,dirty,k,⟨ep,sl,ver⟩,ta,tb⟩:=l
 obtain⟨h1,hk,h2,h3,h4,h5⟩:=h
 simp only at h1 hk h2 h3
 subst h1 h2
 obtain⟨⟨e0,e1⟩,_⟩:=h4
 simp only at e0 e1
 clear h5
 unfold lfv lfc
 go_enter Tryz.func169,Tryz.ntmps169
 go_wp2_with (go_at_call 180;refine(lsLba_ok k _ hk).mono ?_;rintro e w1 ⟨rfl,rfl⟩)
 go_ret
 exact⟨by simp,(Below.refl _ _).alloc (Nat.le_refl _) _⟩
theorem lis_ok (l:Lf) (i:Nat) (hi:i<16) (h:l.ok i) (w:World):Calls Tryz.prog 169 #[lfv l,.int .i64 i] w fun e w'=>e=.returned (.bool true)/\Below w.heap.size w w':=by
 rcases h with rfl|⟨k,hk,rfl⟩|h
 ·exact lis_none i hi w
 ·exact lis_zero k i hi hk w
 ·exact lis_full l i hi h w
end Go.Proofs.YtggmdjdflaglpaaGreat
namespace Go.Proofs.YtggmdjdflaglpaaGreat
open Go.RowKit
set_option linter.unusedVariables false
def Acc (w:World) (L:List (Value×By)):Prop:=∀x∈L,Has w x.1 x.2
theorem Acc.nil (w:World):Acc w []:=fun x hx=>by simp at hx
theorem Acc.below_ {w w':World}{L:List (Value×By)}(h:Acc w L) (hb:Below w.heap.size w w'):Acc w' L:=fun x hx=>(h x hx).below_ hb
theorem Acc.add {w:World}{L:List (Value×By)}{v:Value}{l:By}(h:Acc w L) (hv:Has w v l):Acc w (L++[(v,l)]):=fun x hx=>by
 rcases List.mem_append.1 hx with hx|hx
 ·exact h x hx
 ·rw[List.mem_singleton.1 hx];exact hv
theorem Acc.alloc {w:World}{L:List (Value×By)}(h:Acc w L) (o:Obj):Acc (w.alloc o) L:=h.below_ ((Below.refl _ w).alloc (Nat.le_refl _) o)
theorem Acc.rows {w:World}{L:List (Value×By)}{g t:Nat}{cs:Array Value}(h:Acc w L) (hB:Blk w g t cs) (hcs:cs=(L.map (·.1)).toArray) (hne:∀x∈L,x.2≠[]) (hl:L.length<=1000):
 Rows w (.slice (some ⟨g,0,none⟩) L.length L.length) (L.map (·.2)):=by
 refine⟨g,0,L.length,by simp,hB.lt,by simpa using hl,fun j l hj=>?_⟩
 rw[List.getElem?_map]at hj
 obtain⟨x,hx,rfl⟩:=Option.map_eq_some_iff.1 hj
 have hm:=List.mem_of_getElem? hx
 refine⟨hne x hm,x.1,?_,h x hm⟩
 rw[Nat.zero_add]
 exact hB.cell_ j (by rw[hcs,List.getElem?_toArray,List.getElem?_map,hx];rfl)
theorem putB_ne (v:Int) (n:Nat) (h:0<n):putB v n≠[]:=fun e=>by have:=putB_len v n;rw[e]at this;simp at this;omega
theorem pairB_ne (a b:Int):pairB a b≠[]:=fun e=>by have:=pairB_len a b;rw[e]at this;simp at this
theorem put1_ok (v:Int) (w:World) (h0:0<=v) (h1:v<18446744073709551616):
 Calls Tryz.prog 87 #[.int .u64 v,.int .i64 1] w fun e w'=>∃v',e=.returned v'/\OwnB w.heap.size w' v' (putB v 1)/\Below w.heap.size w w':=put_lit v 1 1 rfl w (by omega) h0 h1
theorem put2_ok (v:Int) (w:World) (h0:0<=v) (h1:v<18446744073709551616):
 Calls Tryz.prog 87 #[.int .u64 v,.int .i64 2] w fun e w'=>∃v',e=.returned v'/\OwnB w.heap.size w' v' (putB v 2)/\Below w.heap.size w w':=put_lit v 2 2 rfl w (by omega) h0 h1
theorem put4_ok (v:Int) (w:World) (h0:0<=v) (h1:v<18446744073709551616):
 Calls Tryz.prog 87 #[.int .u64 v,.int .i64 4] w fun e w'=>∃v',e=.returned v'/\OwnB w.heap.size w' v' (putB v 4)/\Below w.heap.size w w':=put_lit v 4 4 rfl w (by omega) h0 h1
theorem put8_ok (v:Int) (w:World) (h0:0<=v) (h1:v<18446744073709551616):
 Calls Tryz.prog 87 #[.int .u64 v,.int .i64 8] w fun e w'=>∃v',e=.returned v'/\OwnB w.heap.size w' v' (putB v 8)/\Below w.heap.size w w':=put_lit v 8 8 rfl w (by omega) h0 h1
def bi (b:Bool):Int:=if b then 1 else 0
def leafB (l:Lf):By:=putB l.kind 1++(putB (bi l.dirty) 1++(putB l.lba 2++(putB l.n.ep 4++(putB l.n.ver 8++pairB l.tag.1 l.tag.2))))
theorem leafB_len (l:Lf):(leafB l).length=32:=by simp[leafB,putB_len,pairB_len]
theorem Lf.ok.bd {l:Lf}{i:Nat}(h:l.ok i):l.kind<=2/\l.lba<32/\l.n.ok/\U2 l.tag:=by
 rcases h with rfl|⟨k,hk,rfl⟩|h
 ·exact⟨by decide,by decide,⟨by decide,by decide,by unfold U64;decide⟩,by unfold U2 U64;decide⟩
 ·exact⟨by simp[Lf.zero],hk,⟨by simp[Lf.zero],by simp[Lf.zero],by simp[Lf.zero,U64]⟩,by simp[Lf.zero,U2,U64]⟩
 ·exact⟨by omega,h.2.1,h.2.2.2.2.1,h.2.2.2.2.2⟩
set_option maxHeartbeats 4000000 in
set_option maxRecDepth 100000 in
theorem lput_ok (l:Lf) (i:Nat) (hi:i<16) (h:l.ok i) (w:World):
 Calls Tryz.prog 142 #[lfv l,.int .i64 i] w fun e w'=>∃v,e=.returned (.tuple #[v,.bool true])/\OwnB w.heap.size w' v (leafB l)/\Below w.heap.size w w':=by
 have his:=fun W=>lis_ok l i hi h W
 obtain⟨hk,hl,⟨he,hs,hv⟩,ht1,ht2⟩:=h.bd
 clear h
 have hfin:leafB l=([putB l.kind 1,putB (bi l.dirty) 1,putB l.lba 2,putB l.n.ep 4,putB l.n.ver 8,pairB l.tag.1 l.tag.2]:List By).flatten:=by simp[leafB]
 obtain⟨R,hR⟩:∃R,R=leafB l:=⟨_,rfl⟩
 rw[<-hR]at hfin ⊢
 clear hR
 obtain⟨kind,dirty,lba,⟨ep,sl,ver⟩,ta,tb⟩:=l
 simp only at hk hl he hs hv ht1 ht2 hfin
 unfold lfv lfc at his ⊢
 simp only at his ⊢
 obtain⟨e0,e1⟩:=he
 obtain⟨v0,v1⟩:=hv
 obtain⟨a0,a1⟩:=ht1
 obtain⟨b0,b1⟩:=ht2
 have k0:(0:Int)<=(kind:Int):=by omega
 have k1:(kind:Int)<=2:=by omega
 have l0:(0:Int)<=(lba:Int):=by omega
 have l1:(lba:Int)<32:=by omega
 have HF:=Lib.hid hfin
 clear hfin
 have hB:Blk (w.alloc (.cells #[.int .i64 kind,.bool dirty,.int .i64 lba,.int .u32 ep,.int .u32 sl,.int .u64 ver,.int .u64 ta,.int .u64 tb] 103)) w.heap.size 103 _:=Blk.new w 103 _
 have hbw:Below w.heap.size w (w.alloc (.cells #[.int .i64 kind,.bool dirty,.int .i64 lba,.int .u32 ep,.int .u32 sl,.int .u64 ver,.int .u64 ta,.int .u64 tb] 103)):=(Below.refl _ _).alloc (Nat.le_refl _) _
 obtain⟨W,hW⟩:∃W,W=w.alloc (.cells #[.int .i64 kind,.bool dirty,.int .i64 lba,.int .u32 ep,.int .u32 sl,.int .u64 ver,.int .u64 ta,.int .u64 tb] 103):=⟨_,rfl⟩
 rw[<-hW]at hB hbw
 have hr:=hB.range (cs:=[.int .i64 kind,.bool dirty,.int .i64 lba,.int .u32 ep,.int .u32 sl,.int .u64 ver,.int .u64 ta,.int .u64 tb])
 go_enter Tryz.func142,Tryz.ntmps142
 go_wp2_with fail
 rw[<-hW]
 clear hW hr
 refine(his _).mono ?_
 rintro e w1 ⟨rfl,hb1⟩
 replace hB:=hB.below_ hb1
 replace hbw:=hbw.trans (hb1.mono hbw.size)
 clear his hb1
 have c1:=hB.cell_ 1 rfl
 have lB:=hB.lt
 have hA:=Acc.nil w1
 have wk:=IntWalk.u64_in (kind:Int) ⟨by omega,by omega⟩
 have wl:=IntWalk.u64_in (lba:Int) ⟨by omega,by omega⟩
 have we:=IntWalk.u64_in ep ⟨by omega,by omega⟩
 cases dirty
 all_goals
  go_wp2_with fail
  clear c1
  replace hB:=hB.drew
  replace hbw:=hbw.drew
  replace hA:Acc w1.drew []:=hA
  go_region_held3 (fun w'=>w'.cell? ⟨w.heap.size,0,none⟩=some (.int .i64 kind)/\w'.cell? ⟨w.heap.size,2,none⟩=some (.int .i64 lba)/\w'.cell? ⟨w.heap.size,3,none⟩=some (.int .u32 ep)/\w'.cell? ⟨w.heap.size,5,none⟩=some (.int .u64 ver)/\w'.cell? ⟨w.heap.size,6,none⟩=some (.int .u64 ta)/\w'.cell? ⟨w.heap.size,7,none⟩=some (.int .u64 tb))
   (first|exact⟨hB.cell_ 0 rfl,hB.cell_ 2 rfl,hB.cell_ 3 rfl,hB.cell_ 5 rfl,hB.cell_ 6 rfl,hB.cell_ 7 rfl⟩|exact⟨(hB.alloc _).cell_ 0 rfl,(hB.alloc _).cell_ 2 rfl,(hB.alloc _).cell_ 3 rfl,(hB.alloc _).cell_ 5 rfl,(hB.alloc _).cell_ 6 rfl,(hB.alloc _).cell_ 7 rfl⟩)
   (first
    |(go_at_call 87;first
     |((with_reducible refine(put1_ok _ _ (by omega) (by omega)).mono ?_);rintro e w2 ⟨v2,rfl,o2,q2⟩;obtain⟨A2,z2,rfl⟩:=o2.has.slice;replace hB:=hB.below_ q2;replace hA:=(hA.below_ q2).add o2.has.any;replace hbw:=hbw.trans (q2.mono hbw.size);clear o2 q2)
     |((with_reducible refine(put2_ok _ _ (by omega) (by omega)).mono ?_);rintro e w2 ⟨v2,rfl,o2,q2⟩;obtain⟨A2,z2,rfl⟩:=o2.has.slice;replace hB:=hB.below_ q2;replace hA:=(hA.below_ q2).add o2.has.any;replace hbw:=hbw.trans (q2.mono hbw.size);clear o2 q2)
     |((with_reducible refine(put4_ok _ _ (by omega) (by omega)).mono ?_);rintro e w2 ⟨v2,rfl,o2,q2⟩;obtain⟨A2,z2,rfl⟩:=o2.has.slice;replace hB:=hB.below_ q2;replace hA:=(hA.below_ q2).add o2.has.any;replace hbw:=hbw.trans (q2.mono hbw.size);clear o2 q2)
     |((with_reducible refine(put8_ok _ _ (by omega) (by omega)).mono ?_);rintro e w2 ⟨v2,rfl,o2,q2⟩;obtain⟨A2,z2,rfl⟩:=o2.has.slice;replace hB:=hB.below_ q2;replace hA:=(hA.below_ q2).add o2.has.any;replace hbw:=hbw.trans (q2.mono hbw.size);clear o2 q2))
    |(go_at_call 124;(refine(bytes_ok _ _ _ (by omega) (by omega) (by omega) (by omega)).mono ?_);rintro e w2 ⟨v2,rfl,o2,q2⟩;obtain⟨A2,z2,rfl⟩:=o2.has.slice;replace hB:=hB.below_ q2;replace hA:=(hA.below_ q2).add o2.has.any;replace hbw:=hbw.trans (q2.mono hbw.size);clear o2 q2)
    |(go_at_call 86;(refine(concat_ok _ _ _ (Acc.rows (hA.alloc _) (Blk.new w2 32 _) rfl (by simp[putB_ne,pairB_ne]) (by simp)) (by simp[total,putB_len,pairB_len])).mono ?_);rintro e w3 ⟨v3,rfl,o3,q3⟩;replace o3:=o3.weak (B':=w.heap.size) (by have:=hbw.size;simp;omega);replace hB:=(hB.alloc _).below_ q3;replace hbw:=(hbw.alloc hbw.size _).trans (q3.mono (by have:=hbw.size;simp;omega))))
  have hr:OwnB w.heap.size w3 v3 R:=by rw[HF.out];exact o3
  clear o3 q3 hA hB HF
  go_wp2_with fail
  go_ret2
  exact⟨_,rfl,hr,hbw⟩
end Go.Proofs.YtggmdjdflaglpaaGreat
namespace Go.Proofs.YtggmdjdflaglpaaGreat
open Go.RowKit
set_option linter.unusedVariables false
theorem fadd_ok (a b:Two) (w:World):Calls Tryz.prog 126 #[pv a,pv b] w fun e w'=>e=.returned (pv (fadd a b))/\Below w.heap.size w w':=by
 obtain⟨a0,a1⟩:=a
 obtain⟨b0,b1⟩:=b
 unfold pv fadd
 simp only
 obtain⟨x,hx⟩:∃x,x=bits .xor .u64 a0 b0:=⟨_,rfl⟩
 obtain⟨y,hy⟩:∃y,y=bits .xor .u64 a1 b1:=⟨_,rfl⟩
 have HX:=Lib.hid (And.intro hx hy)
 rw[<-hx,<-hy]
 clear hx hy
 go_enter Tryz.func126,Tryz.ntmps126
 go_wp2_with fail
 rw[<-HX.out.1,<-HX.out.2]
 refine bodyPost_ret (v:=.agg #[.int .u64 x,.int .u64 y]) (by simp[results,Tryz.results126,go_sem]) rfl ⟨rfl,?_⟩
 exact(((Below.refl _ _).alloc (Nat.le_refl _) _).alloc (by simp) _).alloc (by simp;omega) _
theorem fdouble_ok (a:Two) (w:World) (h:U2 a):Calls Tryz.prog 178 #[pv a] w fun e w'=>e=.returned (pv (fdouble a))/\Below w.heap.size w w':=by
 obtain⟨a0,a1⟩:=a
 obtain⟨⟨h0,h1⟩,h2,h3⟩:=h
 unfold pv fdouble
 simp only at h0 h1 h2 h3 ⊢
 by_cases e:a0 / 9223372036854775808=1
 ·have t:(a0 / 9223372036854775808 == 1)=true:=by simpa using e
  rw[if_pos e]
  clear e
  go_enter Tryz.func178,Tryz.ntmps178
  go_wp2_with fail
  refine bodyPost_ret (v:=.agg #[.int .u64 _,.int .u64 _]) (by simp[results,Tryz.results178,go_sem]) rfl ⟨rfl,?_⟩
  exact(((Below.refl _ _).alloc (Nat.le_refl _) _).alloc (by simp) _).alloc (by simp;omega) _
 ·have t:(a0 / 9223372036854775808 == 1)=false:=by simpa using e
  rw[if_neg e]
  clear e
  go_enter Tryz.func178,Tryz.ntmps178
  go_wp2_with fail
  refine bodyPost_ret (v:=.agg #[.int .u64 _,.int .u64 _]) (by simp[results,Tryz.results178,go_sem]) rfl ⟨rfl,?_⟩
  exact(((Below.refl _ _).alloc (Nat.le_refl _) _).alloc (by simp) _).alloc (by simp;omega) _
theorem fdouble_u (a:Two) (h:U2 a):U2 (fdouble a):=by
 have hw:∀x:Int,U64 (IntKind.u64.wrap x):=fun x=>by
  have:=bounds_u64 (wf_wrap .u64 x)
  unfold U64;omega
 unfold fdouble
 by_cases e:a.1 / 9223372036854775808=1
 ·rw[if_pos e]
  unfold U2
  simp only
  exact⟨u64_bits _ _ _,u64_bits _ _ _⟩
 ·rw[if_neg e]
  unfold U2
  simp only
  exact⟨u64_bits _ _ _,hw _⟩
theorem and_one (x:Int) (h:U64 x):bits .and .u64 x 1=x%2:=by
 obtain⟨h0,h1⟩:=h
 obtain⟨n,rfl⟩:∃n:Nat,x=n:=⟨x.toNat,by omega⟩
 have e:(BitVec.ofInt 64 (n:Int) &&& BitVec.ofInt 64 1).toNat=n%2:=by
  rw[BitVec.toNat_and,BitVec.toNat_ofInt,BitVec.toNat_ofInt]
  have e1:((n:Int)%((2^64:Nat):Int)).toNat=n:=by omega
  have e2:((1:Int)%((2^64:Nat):Int)).toNat=1:=by omega
  rw[e1,e2,Nat.and_one_is_mod]
 show IntKind.u64.wrap ((BitVec.ofInt 64 (n:Int) &&& BitVec.ofInt 64 1).toNat:Int)=_
 rw[e]
 exact IntWalk.u64_in _ ⟨by omega,by omega⟩
theorem u64_div {x:Int}(h0:0<=x) (h1:x<18446744073709551616) (n:Nat):U64 (x / 2^n):=by
 have hp:(0:Int)<2^n:=Int.pow_pos (by omega)
 exact⟨Int.ediv_nonneg h0 (by omega),Int.lt_of_le_of_lt (Int.ediv_le_self _ h0) h1⟩
theorem fstep_u (a b out:Two) (i:Nat) (h:U2 out):U2 (fstep a b out i):=by
 unfold fstep
 split
 ·exact fadd_u _ _
 ·exact fdouble_u _ h
theorem fmulTo_u (a b:Two):∀i,U2 (fmulTo a b i)
 |0=>by unfold fmulTo U2 U64;decide
 |i+1=>fstep_u _ _ _ _ (fmulTo_u a b i)
theorem fmul_no {w:World}{g i:Nat}{a b:Two}{F:Nat->Two}{o0 o1 d0 d1:Int}(hs:F (i+1)=fstep a b (F i) i) (hd:(d0,d1)=fdouble (F i)/\o0=(F i).1/\o1=(F i).2) (hb:fbit b i=false) (h:Blk w g 101 #[.int .u64 d0,.int .u64 d1]):
 Blk w g 101 #[.int .u64 (F (i+1)).1,.int .u64 (F (i+1)).2]:=by
 rw[hs]
 unfold fstep
 rw[hb,<-hd.1]
 exact h
theorem fmul_yes {w:World}{g i:Nat}{a b:Two}{F:Nat->Two}{o0 o1 d0 d1:Int}(hs:F (i+1)=fstep a b (F i) i) (hd:(d0,d1)=fdouble (F i)/\o0=(F i).1/\o1=(F i).2) (hb:fbit b i=true) (h:Blk w g 101 #[.int .u64 (fadd (d0,d1) a).1,.int .u64 (fadd (d0,d1) a).2]):
 Blk w g 101 #[.int .u64 (F (i+1)).1,.int .u64 (F (i+1)).2]:=by
 rw[hs]
 unfold fstep
 rw[hb,<-hd.1]
 exact h
set_option maxRecDepth 100000 in
theorem fmul_ok (a b:Two) (w:World) (ha:U2 a) (hb:U2 b):Calls Tryz.prog 162 #[pv a,pv b] w fun e w'=>e=.returned (pv (fmul a b))/\Below w.heap.size w w':=by
 obtain⟨a0,a1⟩:=a
 obtain⟨b0,b1⟩:=b
 have hu:=fmulTo_u (a0,a1) (b0,b1)
 obtain⟨F,hF⟩:∃F,F=fmulTo (a0,a1) (b0,b1):=⟨_,rfl⟩
 have hs:∀i,F (i+1)=fstep (a0,a1) (b0,b1) (F i) i:=fun i=>by rw[hF];rfl
 have h0:F 0=(0,0):=by rw[hF];rfl
 have hE:fmul (a0,a1) (b0,b1)=F 128:=by rw[hF];rfl
 rw[hE]
 rw[<-hF]at hu
 obtain⟨X,hX⟩:∃X,X=F 128:=⟨_,rfl⟩
 rw[<-hX]
 obtain⟨x,y⟩:=X
 unfold pv
 simp only
 obtain⟨W,hW⟩:∃W,W=(((w.alloc (.cells #[.int .u64 a0,.int .u64 a1] 101)).alloc (.cells #[.int .u64 b0,.int .u64 b1] 101)).alloc (.cells #[.int .u64 0,.int .u64 0] 101)).alloc (.cells #[.int .u64 0,.int .u64 0] 101):=⟨_,rfl⟩
 have hA:Blk W w.heap.size 101 #[.int .u64 a0,.int .u64 a1]:=by rw[hW];exact(((Blk.new w 101 _).alloc _).alloc _).alloc _
 have hB:Blk W (w.heap.size+1) 101 #[.int .u64 b0,.int .u64 b1]:=by
  rw[hW]
  have:=Blk.new (w.alloc (.cells #[.int .u64 a0,.int .u64 a1] 101)) 101 #[.int .u64 b0,.int .u64 b1]
  rw[World.size_alloc]at this
  exact(this.alloc _).alloc _
 have hR:Blk W (w.heap.size+2) 101 #[.int .u64 0,.int .u64 0]:=by
  rw[hW]
  have:=Blk.new ((w.alloc (.cells #[.int .u64 a0,.int .u64 a1] 101)).alloc (.cells #[.int .u64 b0,.int .u64 b1] 101)) 101 #[.int .u64 0,.int .u64 0]
  rw[World.size_alloc,World.size_alloc]at this
  exact this.alloc _
 have hO:Blk W (w.heap.size+3) 101 #[.int .u64 (F 0).1,.int .u64 (F 0).2]:=by
  rw[hW,h0]
  have:=Blk.new (((w.alloc (.cells #[.int .u64 a0,.int .u64 a1] 101)).alloc (.cells #[.int .u64 b0,.int .u64 b1] 101)).alloc (.cells #[.int .u64 0,.int .u64 0] 101)) 101 #[.int .u64 0,.int .u64 0]
  rw[World.size_alloc,World.size_alloc,World.size_alloc]at this
  exact this
 have hbw:Below w.heap.size w W:=by rw[hW];exact((((Below.refl _ _).alloc (Nat.le_refl _) _).alloc (by simp) _).alloc (by simp;omega) _).alloc (by simp;omega) _
 have HU:=Lib.hid (And.intro hu (And.intro hs (And.intro ha hb)))
 have HX:=Lib.hid hX
 clear hX hu hs h0 hE hF ha hb
 go_enter Tryz.func162,Tryz.ntmps162
 go_wp2_with fail
 rw[<-hW]
 clear hW
 go_loopw [6,7] (fun _ t wr=>∃i:Nat,t=.int .i64 i/\i<=128/\Blk wr w.heap.size 101 #[.int .u64 a0,.int .u64 a1]/\Blk wr (w.heap.size+1) 101 #[.int .u64 b0,.int .u64 b1]/\Blk wr (w.heap.size+2) 101 #[.int .u64 0,.int .u64 0]/\Blk wr (w.heap.size+3) 101 #[.int .u64 (F i).1,.int .u64 (F i).2]/\Below w.heap.size w wr)
  (fun _ t _=>128-(intOf t).toNat)
 case atStart=>exact⟨0,rfl,by omega,hA,hB,hR,hO,hbw⟩
 case round=>
  obtain⟨i,rfl,hi,hA',hB',hR',hO',hbw'⟩:=hrel
  clear hA hB hR hO hbw
  by_cases hlt:i<128
  ·have hd:=fun W=>fdouble_ok (F i) W (HU.out.1 i)
   unfold pv at hd
   obtain⟨D,hD⟩:∃D,D=fdouble (F i):=⟨_,rfl⟩
   rw[<-hD]at hd
   obtain⟨o0,ho0⟩:∃o,o=(F i).1:=⟨_,rfl⟩
   obtain⟨o1,ho1⟩:∃o,o=(F i).2:=⟨_,rfl⟩
   rw[<-ho0,<-ho1]at hd hO'
   obtain⟨d0,d1⟩:=D
   simp only at hd
   have HD:=Lib.hid (And.intro hD (And.intro ho0 ho1))
   clear hD ho0 ho1
   have c0:=hO'.cell_ 0 rfl
   have c1:=hO'.cell_ 1 rfl
   have lo:=hO'.lt
   go_wp2_with fail
   refine(hd _).mono ?_
   rintro e w1 ⟨rfl,q⟩
   have hA1:=hA'.below_ q
   have hB1:=hB'.below_ q
   have hR1:=hR'.below_ q
   have hO1:=hO'.below_ q
   have hbw1:=hbw'.trans (q.mono hbw'.size)
   clear hA' hB' hR' hO' hbw' q c0 c1 lo hd
   have f0:=hO1.frozen 0
   have f1:=hO1.frozen 1
   have g0:=hO1.cell_ 0 rfl
   have g1:=hO1.cell_ 1 rfl
   have lo:=hO1.lt
   have b0':=hB1.cell_ 0 rfl
   have b1':=hB1.cell_ 1 rfl
   have lb:=hB1.lt
   have a0':=hA1.cell_ 0 rfl
   have a1':=hA1.cell_ 1 rfl
   have la:=hA1.lt
   have hbit:∀x:Int,x=(if i<64 then b0 / 2^(63-i)else b1 / 2^(127-i))->(bits .and .u64 x 1 == 1)=fbit (b0,b1) i:=fun x e=>by
    have hx:U64 x:=by
     rw[e]
     obtain⟨⟨p0,p1⟩,p2,p3⟩:=HU.out.2.2.2
     split
     ·exact u64_div p0 p1 _
     ·exact u64_div p2 p3 _
    rw[and_one x hx]
    unfold fbit
    rw[e]
   have hbd:Blk ((w1.setCell ⟨w.heap.size+3,0,none⟩ (.int .u64 d0)).setCell ⟨w.heap.size+3,1,none⟩ (.int .u64 d1)) (w.heap.size+3) 101 #[.int .u64 d0,.int .u64 d1]:=(hO1.set_to 0 (.int .u64 d0) (cs':=#[.int .u64 d0,.int .u64 o1]) rfl).set_to 1 (.int .u64 d1) (cs':=#[.int .u64 d0,.int .u64 d1]) rfl
   have hg:=only_set2 w1 (w.heap.size+3) 0 1 (.int .u64 d0) (.int .u64 d1)
   have hne:∀k,k<3->some (w.heap.size+k)≠some (w.heap.size+3):=fun k hk e=>by injection e;omega
   have hA2:=hA1.grown hg (hne 0 (by omega))
   have hB2:=hB1.grown hg (hne 1 (by omega))
   have hR2:=hR1.grown hg (hne 2 (by omega))
   have hbw2:=below_only hbw1 hg hbw1.size (by omega)
   have HE:=Lib.hid (And.intro hA2 (And.intro hB2 (And.intro hR2 (And.intro hbd hbw2))))
   clear hA1 hB1 hR1 hO1 hbw1 hbd hg hne hA2 hB2 hR2 hbw2
   by_cases h64:i<64
   ·have e1:(i:Int) / 64=0:=by omega
    have e2:(i:Int)%64=i:=by omega
    have hb:=hbit (b0 / 2^(63-i)) (by rw[if_pos h64])
    clear hbit
    cases hc:fbit (b0,b1) i
    all_goals
     rw[hc]at hb
     have HC:=Lib.hid hc
     clear hc
     go_wp2_with fail
    ·go_roundw
     case rel=>exact⟨i+1,by go_num,by omega,HE.out.1,HE.out.2.1,HE.out.2.2.1,fmul_no (HU.out.2.1 i) HD.out HC.out HE.out.2.2.2.1,HE.out.2.2.2.2⟩
     case measure=>simp[intOf];omega
    ·have hw2:=HE.out
     obtain⟨x0,hx0⟩:∃x,x=(fadd (d0,d1) (a0,a1)).1:=⟨_,rfl⟩
     obtain⟨x1,hx1⟩:∃x,x=(fadd (d0,d1) (a0,a1)).2:=⟨_,rfl⟩
     have hadd:=fun W=>fadd_ok (d0,d1) (a0,a1) W
     unfold pv at hadd
     rw[<-hx0,<-hx1]at hadd
     have HXX:=Lib.hid (And.intro hx0 hx1)
     clear hx0 hx1 hw2
     refine(hadd _).mono ?_
     rintro e w3 ⟨rfl,q3⟩
     clear hadd f0 f1 g0 g1 lo b0' b1' lb a0' a1' la
     have hA3:=HE.out.1.below_ q3
     have hB3:=HE.out.2.1.below_ q3
     have hR3:=HE.out.2.2.1.below_ q3
     have hO3:=HE.out.2.2.2.1.below_ q3
     have hbw3:=HE.out.2.2.2.2.trans (q3.mono HE.out.2.2.2.2.size)
     have f0:=hO3.frozen 0
     have f1:=hO3.frozen 1
     have g0:=hO3.cell_ 0 rfl
     have g1:=hO3.cell_ 1 rfl
     have lo:=hO3.lt
     have hg:=only_set2 w3 (w.heap.size+3) 0 1 (.int .u64 x0) (.int .u64 x1)
     have hne:∀k,k<3->some (w.heap.size+k)≠some (w.heap.size+3):=fun k hk e=>by injection e;omega
     have hbd:Blk ((w3.setCell ⟨w.heap.size+3,0,none⟩ (.int .u64 x0)).setCell ⟨w.heap.size+3,1,none⟩ (.int .u64 x1)) (w.heap.size+3) 101 #[.int .u64 (fadd (d0,d1) (a0,a1)).1,.int .u64 (fadd (d0,d1) (a0,a1)).2]:=by
      rw[<-HXX.out.1,<-HXX.out.2]
      exact(hO3.set_to 0 (.int .u64 x0) (cs':=#[.int .u64 x0,.int .u64 d1]) rfl).set_to 1 (.int .u64 x1) (cs':=#[.int .u64 x0,.int .u64 x1]) rfl
     have HG:=Lib.hid (And.intro (hA3.grown hg (hne 0 (by omega))) (And.intro (hB3.grown hg (hne 1 (by omega))) (And.intro (hR3.grown hg (hne 2 (by omega))) (And.intro hbd (below_only hbw3 hg hbw3.size (by omega))))))
     clear hA3 hB3 hR3 hO3 hbw3 hg hne hbd q3
     go_wp2_with fail
     go_roundw
     case rel=>exact⟨i+1,by go_num,by omega,HG.out.1,HG.out.2.1,HG.out.2.2.1,fmul_yes (HU.out.2.1 i) HD.out HC.out HG.out.2.2.2.1,HG.out.2.2.2.2⟩
     case measure=>simp[intOf];omega
   ·have e1:(i:Int) / 64=1:=by omega
    have e2:(i:Int)%64=i-64:=by omega
    have hb:=hbit (b1 / 2^(63-(i-64))) (by rw[if_neg h64,show 127-i=63-(i-64)by omega])
    clear hbit
    cases hc:fbit (b0,b1) i
    all_goals
     rw[hc]at hb
     have HC:=Lib.hid hc
     clear hc
     go_wp2_with fail
    ·go_roundw
     case rel=>exact⟨i+1,by go_num,by omega,HE.out.1,HE.out.2.1,HE.out.2.2.1,fmul_no (HU.out.2.1 i) HD.out HC.out HE.out.2.2.2.1,HE.out.2.2.2.2⟩
     case measure=>simp[intOf];omega
    ·have hw2:=HE.out
     obtain⟨x0,hx0⟩:∃x,x=(fadd (d0,d1) (a0,a1)).1:=⟨_,rfl⟩
     obtain⟨x1,hx1⟩:∃x,x=(fadd (d0,d1) (a0,a1)).2:=⟨_,rfl⟩
     have hadd:=fun W=>fadd_ok (d0,d1) (a0,a1) W
     unfold pv at hadd
     rw[<-hx0,<-hx1]at hadd
     have HXX:=Lib.hid (And.intro hx0 hx1)
     clear hx0 hx1 hw2
     refine(hadd _).mono ?_
     rintro e w3 ⟨rfl,q3⟩
     clear hadd f0 f1 g0 g1 lo b0' b1' lb a0' a1' la
     have hA3:=HE.out.1.below_ q3
     have hB3:=HE.out.2.1.below_ q3
     have hR3:=HE.out.2.2.1.below_ q3
     have hO3:=HE.out.2.2.2.1.below_ q3
     have hbw3:=HE.out.2.2.2.2.trans (q3.mono HE.out.2.2.2.2.size)
     have f0:=hO3.frozen 0
     have f1:=hO3.frozen 1
     have g0:=hO3.cell_ 0 rfl
     have g1:=hO3.cell_ 1 rfl
     have lo:=hO3.lt
     have hg:=only_set2 w3 (w.heap.size+3) 0 1 (.int .u64 x0) (.int .u64 x1)
     have hne:∀k,k<3->some (w.heap.size+k)≠some (w.heap.size+3):=fun k hk e=>by injection e;omega
     have hbd:Blk ((w3.setCell ⟨w.heap.size+3,0,none⟩ (.int .u64 x0)).setCell ⟨w.heap.size+3,1,none⟩ (.int .u64 x1)) (w.heap.size+3) 101 #[.int .u64 (fadd (d0,d1) (a0,a1)).1,.int .u64 (fadd (d0,d1) (a0,a1)).2]:=by
      rw[<-HXX.out.1,<-HXX.out.2]
      exact(hO3.set_to 0 (.int .u64 x0) (cs':=#[.int .u64 x0,.int .u64 d1]) rfl).set_to 1 (.int .u64 x1) (cs':=#[.int .u64 x0,.int .u64 x1]) rfl
     have HG:=Lib.hid (And.intro (hA3.grown hg (hne 0 (by omega))) (And.intro (hB3.grown hg (hne 1 (by omega))) (And.intro (hR3.grown hg (hne 2 (by omega))) (And.intro hbd (below_only hbw3 hg hbw3.size (by omega))))))
     clear hA3 hB3 hR3 hO3 hbw3 hg hne hbd q3
     go_wp2_with fail
     go_roundw
     case rel=>exact⟨i+1,by go_num,by omega,HG.out.1,HG.out.2.1,HG.out.2.2.1,fmul_yes (HU.out.2.1 i) HD.out HC.out HG.out.2.2.2.1,HG.out.2.2.2.2⟩
     case measure=>simp[intOf];omega
  ·obtain rfl:i=128:=by omega
   rw[<-HX.out]at hO'
   have c0:=hO'.cell_ 0 rfl
   have c1:=hO'.cell_ 1 rfl
   have lo:=hO'.lt
   have r0:=hR'.cell_ 0 rfl
   have r1:=hR'.cell_ 1 rfl
   have f0:=hR'.frozen 0
   have f1:=hR'.frozen 1
   have lr:=hR'.lt
   clear hlt
   go_wp2_with fail
   have hf:=(hR'.set_to 0 (.int .u64 x) (cs':=#[.int .u64 x,.int .u64 0]) rfl).set_to 1 (.int .u64 y) (cs':=[.int .u64 x,.int .u64 y].toArray) rfl
   exact ret_cell 4 101 (by rfl) (w.heap.size+2) 0 (by rfl) [.int .u64 x,.int .u64 y] _ hf.range Tryz.underlying101 rfl sz101 rfl ⟨rfl,below_only hbw' (only_set2 _ _ _ _ _ _) hbw'.size (by omega)⟩
end Go.Proofs.YtggmdjdflaglpaaGreat
