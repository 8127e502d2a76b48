/- The contracts of the model's functions. The contract of the model's Do. The model's Do at a flush, Crash, Last; the law's small example. The contracts of the reference's model, and of Same. The reference's Is and Do, and Same. -/
import Derived.Test.YtggmdjdflaglpaaGreatR12
import Derived.BigRegion
import Derived.Deep.RegionHeld3
import Derived.Laws.MakeOwn
import Derived.Deep.WholeRow
import Derived.WalkSpells
import Derived.Lib.SliceRun
namespace Go.Proofs.YtggmdjdflaglpaaGreat.r27
open Go.RowKit
set_option linter.unusedVariables false
theorem info5:(Tryz.prog.info? 5).map (fun i=>(i.zero,i.size,i.bytes))=some (some (.int .u8 0),1,1):=by kernel_rfl
theorem made_bytes (n:Nat):madeCells (Value.int .u8 0).cells (n*1)=bcells (List.replicate n 0):=by
 apply Array.ext
 ·simp[madeCells,bcells]
 ·intro i h1 h2
  simp[madeCells,bcells,Value.cells,Nat.mod_one]
theorem info5s:(Tryz.prog.info? 5).map (·.size)=some 1:=by kernel_rfl
theorem make32 (w:World):(Instr.makeSlice 32 (.int .i64 32) (.int .i64 32)).run Tryz.prog w=.ok (.slice (some ⟨w.heap.size,0,none⟩) 32 32) (w.alloc (.cells (bcells zeros) 5)):=by
 obtain⟨i0,hi,hz0,hz1,hz2⟩:=info_parts info5
 have h:=run_make (P:=Tryz.prog) w 32 5 i0 (.int .u8 0) Tryz.underlying32 hi hz0 .i64 .i64 32 32 (by omega) (by omega) (by rw[hz2];omega) (by omega)
 rw[hz1,show(32:Int).toNat=32 from rfl,made_bytes]at h
 exact h
theorem copy_from (w:World) (b c:Nat) (l:List UInt8) (cs:Array Value) (fr:Nat×Nat) (hl:l.length=32) (hb:w.heap[b]? =some (Obj.cells cs 5 fr)) (hc:∀(j:Nat) (u:UInt8),l[j]? =some u->cs[j]? =some (Value.int .u8 (u.toNat:Int))):
 (Builtin.copy_ #[32,32] 3 #[.slice (some ⟨w.heap.size,0,none⟩) 32 32,.slice (some ⟨b,0,none⟩) 32 c]).run Tryz.prog (w.alloc (.cells (bcells zeros) 5))=.ok (.int .i64 32) (w.alloc (.cells (bcells l) 5)):=by
 have hb':(w.alloc (.cells (bcells zeros) 5)).heap[b]? =some (Obj.cells cs 5 fr):=(Below.heap_alloc w _ b (heap_lt hb)).trans hb
 have h:=run_copy_row (P:=Tryz.prog) (w.alloc (.cells (bcells zeros) 5)) 32 32 3 5 w.heap.size 0 32 32 ⟨b,0,none⟩ 32 c (bcells zeros) 5 (bcells l).toList Tryz.underlying32 info5s (heap_alloc_new w _) (by simp[bcells_size,hl]) (fun j v hj=>by
  have hadd:(⟨b,0,none⟩:Addr).add j=⟨b,j,none⟩:=by unfold Addr.add;split<;>simp_all
  rw[hadd,cell_of_row _ b j cs 5 fr hb']
  simp only[bcells,List.toList_toArray,List.getElem?_map,Option.map_eq_some_iff]at hj
  obtain⟨u,hu,rfl⟩:=hj
  exact hc j u hu) (by simp[bcells_size,hl,zeros]) (fun v hv=>by
  simp only[bcells,List.toList_toArray,List.mem_map]at hv
  obtain⟨u,_,rfl⟩:=hv
  rfl)
 have e:((bcells zeros).toList.take 0++(bcells l).toList++(bcells zeros).toList.drop (0+(bcells l).toList.length)).toArray=bcells l:=by
  have:(bcells zeros).toList.drop (0+(bcells l).toList.length)=[]:=by
   apply List.drop_eq_nil_of_le;simp[bcells_size,hl,zeros]
  rw[this];simp
 rw[e,World.setRow_alloc_new]at h
 simpa[bcells_size,hl,goInt]using h
theorem copy_nil (w:World):(Builtin.copy_ #[32,32] 3 #[.slice (some ⟨w.heap.size,0,none⟩) 32 32,.slice none 0 0]).run Tryz.prog (w.alloc (.cells (bcells zeros) 5))=.ok (.int .i64 0) (w.alloc (.cells (bcells zeros) 5)):=
 run_copy_nil Tryz.prog _ 32 32 3 5 _ 32 32 Tryz.underlying32 (by rw[info5s];rfl)
theorem isLba_yes (i:Int) (w:World) (h0:0<=i) (h1:i<32):Calls Tryz.prog 112 #[.int .i64 i] w fun e w'=>e=.returned (.bool true)/\w=w':=by
 go_enter Tryz.func112,Tryz.ntmps112
 go_wp2
 go_ret
 exact⟨rfl,rfl⟩
theorem isLba_no (i:Int) (w:World) (h:i<0\/32<=i):Calls Tryz.prog 112 #[.int .i64 i] w fun e w'=>e=.returned (.bool false)/\w=w':=by
 rcases h with h|h
 ·go_enter Tryz.func112,Tryz.ntmps112
  go_wp2
  go_ret
  exact⟨rfl,rfl⟩
 ·have h0:0<=i:=by omega
  have h1:decide (i<32)=false:=by simp;omega
  go_enter Tryz.func112,Tryz.ntmps112
  go_wp2
  go_ret
  exact⟨rfl,rfl⟩
def Data32 (w:World) (A:Option Addr) (l:List UInt8):Prop:=
 l.length=32/\∃b o,A=some ⟨b,o,none⟩/\b<w.heap.size/\∀(j:Nat) (u:UInt8),l[j]? =some u->w.cell? ⟨b,o+j,none⟩=some (.int .u8 (u.toNat:Int))
theorem clone_ok (A:Option Addr) (c:Nat) (l:List UInt8) (w:World) (h:Data32 w A l):
 Calls Tryz.prog 49 #[.slice A 32 c] w fun e w'=>∃(g' c':Nat),e=.returned (.slice (some ⟨g',0,none⟩) 32 c')/\Has w' (.slice (some ⟨g',0,none⟩) 32 c') l/\Below w.heap.size w w':=by
 obtain⟨hl,b,o,rfl,hlt,hc⟩:=h
 obtain⟨i0,hi,hz0,hz1,hz2⟩:=info_parts info5
 have hn:=fun W=>Lib.run_eql_slice_nil (P:=Tryz.prog) W 32 5 (some ⟨b,o,none⟩) 32 c 0 0 Tryz.underlying32
 have hown:(w.alloc (.cells #[] 5)).ownsRow w.heap.size 5 1 (.slice (some ⟨w.heap.size,0,none⟩) 0 0) 0 []:=World.ownsRow_lit w #[] 0 (Nat.le_refl _) (by unfold maxLen;omega) rfl
 go_enter Tryz.func49,Tryz.ntmps49
 go_wp2_with (at_builtin;refine wpList_append_own _ rfl _ _ 32 rfl w.heap.size 5 i0 (.int .u8 0) 1 1 Tryz.underlying32 hi hz0 hz1 hz2 rfl (by decide) _ _ _ rfl hown ⟨b,o,none⟩ 32 c (bcells l).toList rfl (by simp[bcells_size,hl]) ?c1 ?c2 (by unfold maxLen;omega) (by omega) (by simp) ?_)
 case c1=>
  intro j v hj
  have hadd:(⟨b,o,none⟩:Addr).add j=⟨b,o+j,none⟩:=by unfold Addr.add;split<;>simp_all
  simp only[bcells,List.toList_toArray,List.getElem?_map,Option.map_eq_some_iff]at hj
  obtain⟨u,hu,rfl⟩:=hj
  rw[hadd,World.cell?_alloc_lt _ _ _ (by simpa using hlt)]
  exact hc j u hu
 case c2=>
  intro v hv
  simp only[bcells,List.toList_toArray,List.mem_map]at hv
  obtain⟨u,_,rfl⟩:=hv
  rfl
 intro v' w1 hown1 hgrow _
 clear hn
 obtain⟨g,cap,cur,rfl,hg,ht⟩:∃(g cap:Nat) (cur:Array Value),v'=.slice (some ⟨g,0,none⟩) 32 cap/\w1.heap[g]? =some (.cells cur 5 (0,0))/\cur.toList.take (32*1)=(bcells l).toList:=by
  rcases hown1.2 with⟨_,h0⟩|⟨g,cap,cur,hv,_,hg,_,_,_,ht⟩
  ·omega
  ·exact⟨g,cap,cur,hv,hg,ht⟩
 have hh:Has w1 (.slice (some ⟨g,0,none⟩) 32 cap) l:=by
  refine⟨hl,.inr ⟨g,cap,cur,(0,0),rfl,hg,fun j u hu=>?_⟩⟩
  have hj:j<32:=by
   have:=(List.getElem?_eq_some_iff.1 hu).1
   omega
  have e:(cur.toList.take (32*1))[j]? =some (Value.int .u8 (u.toNat:Int)):=by
   rw[ht]
   simp only[bcells,List.toList_toArray,List.getElem?_map,hu,Option.map_some]
  rw[List.getElem?_take,if_pos (by omega)]at e
  simpa using e
 clear ht hg hown1
 go_wp2_with fail
 go_ret
 exact⟨_,_,rfl,hh,((Below.refl _ _).alloc (Nat.le_refl _) _).grown hgrow (by simp) (fun k hk=>by simp[Value.ownBlock]at hk;omega)⟩
theorem clone_nil (w:World):Calls Tryz.prog 49 #[.slice none 0 0] w fun e w'=>e=.returned (.slice none 0 0)/\w=w':=by
 have hn:=fun W=>Lib.run_eql_slice_nil (P:=Tryz.prog) W 32 5 none 0 0 0 0 Tryz.underlying32
 go_enter Tryz.func49,Tryz.ntmps49
 go_wp2
 go_ret
 exact⟨rfl,rfl⟩
def okc (k i:Int) (n:Nat):Prop:=((k=1\/k=4)/\0<=i/\i<32)\/(k=2/\(0<=i/\i<32)/\n=32)\/k=3\/k=5
theorem is_ok (k i:Int) (A:Option Addr) (n c:Nat) (w:World) (h:okc k i n):
 Calls Tryz.prog 71 #[.agg #[.int .i64 k,.int .i64 i,.slice A n c]] w fun e w'=>e=.returned (.bool true)/\Below w.heap.size w w':=by
 have bel:Below w.heap.size w (w.alloc (.cells #[.int .i64 k,.int .i64 i,.slice A n c] 34)):=(Below.refl _ _).alloc (Nat.le_refl _) _
 rcases h with⟨h,h0,h1⟩|⟨rfl,⟨h0,h1⟩,rfl⟩|h
 ·rcases h with rfl|rfl
  all_goals
   go_enter Tryz.func71,Tryz.ntmps71
   go_wp2_with fail
   refine(isLba_yes i _ h0 h1).mono ?_
   rintro e w1 ⟨rfl,rfl⟩
   go_wp2_with fail
   go_ret
   exact⟨rfl,bel⟩
 ·go_enter Tryz.func71,Tryz.ntmps71
  go_wp2_with fail
  refine(isLba_yes i _ h0 h1).mono ?_
  rintro e w1 ⟨rfl,rfl⟩
  go_wp2_with fail
  go_ret
  exact⟨rfl,bel⟩
 ·rcases h with rfl|rfl
  all_goals
   go_enter Tryz.func71,Tryz.ntmps71
   go_wp2_with fail
   go_ret
   exact⟨rfl,bel⟩
theorem nokc {k i:Int}{n:Nat}(h:¬okc k i n):((k=1\/k=4)/\(i<0\/32<=i))\/(k=2/\(i<0\/32<=i))\/(k=2/\(0<=i/\i<32)/\n≠32)\/(k≠1/\k≠2/\k≠3/\k≠4/\k≠5):=by
 unfold okc at h
 omega
theorem is_no (k i:Int) (A:Option Addr) (n c:Nat) (w:World) (h:¬okc k i n):
 Calls Tryz.prog 71 #[.agg #[.int .i64 k,.int .i64 i,.slice A n c]] w fun e w'=>e=.returned (.bool false)/\Below w.heap.size w w':=by
 have bel:Below w.heap.size w (w.alloc (.cells #[.int .i64 k,.int .i64 i,.slice A n c] 34)):=(Below.refl _ _).alloc (Nat.le_refl _) _
 rcases nokc h with⟨hk,hi⟩|⟨rfl,hi⟩|⟨rfl,⟨h0,h1⟩,hn⟩|⟨k1,k2,k3,k4,k5⟩
 ·have H:=Lib.hid hi
  clear h hi
  rcases hk with rfl|rfl
  all_goals
   go_enter Tryz.func71,Tryz.ntmps71
   go_wp2_with fail
   refine(isLba_no i _ H.out).mono ?_
   rintro e w1 ⟨rfl,rfl⟩
   go_wp2_with fail
   go_ret
   exact⟨rfl,bel⟩
 ·have H:=Lib.hid hi
  clear h hi
  go_enter Tryz.func71,Tryz.ntmps71
  go_wp2_with fail
  refine(isLba_no i _ H.out).mono ?_
  rintro e w1 ⟨rfl,rfl⟩
  go_wp2_with fail
  go_ret
  exact⟨rfl,bel⟩
 ·have hn':((n:Int) == 32)=false:=by simp;omega
  clear h hn
  go_enter Tryz.func71,Tryz.ntmps71
  go_wp2_with fail
  refine(isLba_yes i _ h0 h1).mono ?_
  rintro e w1 ⟨rfl,rfl⟩
  go_wp2_with fail
  go_ret
  exact⟨rfl,bel⟩
 ·have e1:(k == 1)=false:=by simpa using k1
  have e2:(k == 2)=false:=by simpa using k2
  have e3:(k == 3)=false:=by simpa using k3
  have e4:(k == 4)=false:=by simpa using k4
  have e5:(k == 5)=false:=by simpa using k5
  clear h k1 k2 k3 k4 k5
  go_enter Tryz.func71,Tryz.ntmps71
  go_wp2_with fail
  go_ret
  exact⟨rfl,bel⟩
end Go.Proofs.YtggmdjdflaglpaaGreat.r27
namespace Go.Proofs.YtggmdjdflaglpaaGreat.r27
open Go.RowKit
set_option linter.unusedVariables false
theorem cell_far {w:World}{g h i j:Nat}{v:Value}(hne:g≠h):(w.setCell ⟨g,i,none⟩ v).cell? ⟨h,j,none⟩=w.cell? ⟨h,j,none⟩:=
 World.cell?_setCell_other _ _ _ _ (fun e=>hne (by injection e))
theorem Data32.drew {w:World}{A:Option Addr}{l:List UInt8}(h:Data32 w A l):Data32 w.drew A l:=h
def upd (N:Nat->List UInt8) (k:Nat) (l:List UInt8):Nat->List UInt8:=fun i=>if i=k then l else N i
end Go.Proofs.YtggmdjdflaglpaaGreat.r27
namespace Go.Proofs.YtggmdjdflaglpaaGreat.r27
open Go.RowKit
set_option linter.unusedVariables false
theorem Has.one {w:World}{v:Value}{l:List UInt8}(h:Has w v l):v.oneCell'=true:=by
 obtain⟨_,h⟩:=h
 rcases h with⟨rfl,_⟩|⟨b,c,cs,fr,rfl,_⟩<;>rfl
theorem all_has {w:World}{vs:List Value}{N:Nat->List UInt8}(hl:vs.length=32) (h:∀i,i<32->∃v,vs[i]? =some v/\Has w v (N i)):∀v∈vs,v.oneCell'=true:=by
 intro v hv
 obtain⟨i,hi⟩:=List.mem_iff_getElem?.1 hv
 have hlt:i<32:=by have:=(List.getElem?_eq_some_iff.1 hi).1;omega
 obtain⟨u,hu,hh⟩:=h i hlt
 rw[hi]at hu
 injection hu with hu
 subst hu
 exact hh.one
theorem Has.setCells {w:World}{v:Value}{l:List UInt8}{g t:Nat}{cs:Array Value}(h:Has w v l) (hb:Blk w g t cs) (ht:t≠5) (o:Nat) (vs:List Value):Has (w.setCells g o vs) v l:=
 h.only (g:=g) (only_setCells vs o w (only_refl _ _)) hb ht
theorem range_of {w:World}{g t o:Nat}{cs:List Value}{vs:List Value}(h:Blk w g t cs.toArray) (hv:∀(j:Nat) (u:Value),vs[j]? =some u->cs[o+j]? =some u):w.rangeAt g o vs:=by
 intro j u hj
 rw[h.cell]
 simpa using hv j u hj
theorem there_of {w:World}{g t o n:Nat}{cs:List Value}(h:Blk w g t cs.toArray) (hn:o+n<=cs.length):w.there g o n:=by
 intro j hj
 refine⟨?_,h.frozen _⟩
 rw[h.cell]
 simp
 omega
end Go.Proofs.YtggmdjdflaglpaaGreat.r27
namespace Go.Proofs.YtggmdjdflaglpaaGreat.r27
open Go.RowKit
set_option linter.unusedVariables false
def str (l:List UInt8):ByteArray:=⟨l.toArray⟩
def Str (l:List UInt8):Value:=.string (str l)
def emp:Value:=.string ByteArray.empty
def RI (w:World) (g:Nat) (N L:Nat->List UInt8):Prop:=
 Blk w g 79 (((List.range 32).map (fun i=>Str (N i))++(List.range 32).map (fun i=>Str (L i))).toArray)
theorem conv_made (l:List UInt8) (hl:l.length=32) (W:World):(convert 32 9 (.slice (some ⟨W.heap.size,0,none⟩) 32 32)).run Tryz.prog (W.alloc (.cells (bcells l) 5)).drew=.ok (Str l) (W.alloc (.cells (bcells l) 5)).drew:=by
 have h:=run_convert_bytes_back (P:=Tryz.prog) (W.alloc (.cells (bcells l) 5)).drew 32 9 5 ⟨W.heap.size,0,none⟩ 32 l Tryz.underlying32 Tryz.underlying5 Tryz.underlying9 (fun j hj=>by
  have hadd:(⟨W.heap.size,0,none⟩:Addr).add j=⟨W.heap.size,j,none⟩:=by unfold Addr.add;split<;>simp_all
  rw[hadd,World.cell?_drew,World.cell?_alloc_new]
  exact bcells_at l j _ (List.getElem?_eq_getElem hj))
 rw[hl]at h
 exact h
def fill (k:Nat):List Value:=(List.range 32).map (fun i=>if i<k then Str zeros else emp)
theorem fill_succ (k:Nat) (hk:k<32):(fill k++List.replicate 32 emp).toArray.setIfInBounds k (Str zeros)=(fill (k+1)++List.replicate 32 emp).toArray:=by
 rw[List.setIfInBounds_toArray,List.set_append_left _ _ (by simp[fill];omega)]
 congr 2
 apply List.ext_getElem?
 intro i
 rw[List.getElem?_set]
 by_cases e:k=i
 ·subst e
  rw[if_pos rfl,if_pos (by simp[fill];omega)]
  simp[fill,hk]
 ·rw[if_neg e]
  simp only[fill,List.getElem?_map]
  by_cases hi:i<32
  ·simp[hi]
   by_cases c:i<k
   ·rw[if_pos c,if_pos (by omega)]
   ·rw[if_neg c,if_neg (by omega)]
  ·simp[hi]
theorem fill_zero:(fill 0++List.replicate 32 emp)=List.replicate 64 emp:=by rfl
theorem info42:(Tryz.prog.info? 40).map (·.size)=some 32:=by kernel_rfl
theorem rnew_ok (w:World):Calls Tryz.prog 13 #[] w fun e w'=>e=.returned (.pointer (some ⟨w.heap.size,0,none⟩))/\RI w' w.heap.size (fun _=>zeros) (fun _=>zeros)/\Below w.heap.size w w':=by
 have hb:Blk (w.alloc (.cells (fill 0++List.replicate 32 emp).toArray 79)) w.heap.size 79 (fill 0++List.replicate 32 emp).toArray:=Blk.new _ _ _
 have bel:Below w.heap.size w (w.alloc (.cells (fill 0++List.replicate 32 emp).toArray 79)):=(Below.refl _ _).alloc (Nat.le_refl _) _
 have H:=Lib.hid hb;have B:=Lib.hid bel
 clear hb bel
 go_enter Tryz.func13,Tryz.ntmps13
 go_wp2_with fail
 go_loopw [2] (fun i wr=>∃k:Nat,k<=32/\i=.int .i64 k/\Blk wr w.heap.size 79 (fill k++List.replicate 32 emp).toArray/\Below w.heap.size w wr) (fun i _=>32-(intOf i).toNat)
 case atStart=>exact⟨0,by omega,rfl,H.out,B.out⟩
 case round=>
  obtain⟨k,hk,rfl,hbk,bel⟩:=hrel
  have hlt:=hbk.lt
  by_cases hltk:k<32
  ·have hm:=make32
   have hc:=conv_made zeros (by simp[zeros])
   have i0:(0:Int)<=(k:Int):=by omega
   have i1:(k:Int)<32:=by omega
   have hck:wr.cell? ⟨w.heap.size,k,none⟩=some (.string ByteArray.empty):=hbk.cell_ k (by rw[List.getElem?_toArray,List.getElem?_append_left (by simp[fill];omega)];simp[fill,hltk,emp])
   have hfk:=hbk.frozen k
   have hst:Str zeros=.string (str zeros):=rfl
   have hs:=fill_succ k hltk
   have S:=Lib.hid hs;clear hs
   go_wp2_with fail
   go_region
   have hb':Blk (wr.setCell ⟨w.heap.size,k,none⟩ (.string (str zeros))) w.heap.size 79 (fill (k+1)++List.replicate 32 emp).toArray:=hbk.set_to k _ S.out
   go_wp2_with fail
   go_roundw
   case rel=>exact⟨k+1,by omega,by go_num,(hb'.alloc _).drew,((bel.setCell (by simp) _).alloc (by simp;omega) _).drew⟩
   case measure=>simp[intOf];omega
  ·have e:k=32:=by omega
   subst e
   have hr:wr.rangeAt w.heap.size 0 (fill 32):=range_of hbk (fun j u hj=>by rw[Nat.zero_add,List.getElem?_append_left (List.getElem?_eq_some_iff.1 hj).1];exact hj)
   have ht:wr.there w.heap.size 32 (fill 32).toArray.size:=there_of hbk (by simp[fill])
   have hsz:(Tryz.prog.info? 40).map (·.size)=some (fill 32).length:=by rw[info42];rfl
   have hsz':(Tryz.prog.info? 40).map (·.size)=some (fill 32).toArray.size:=by rw[List.size_toArray];exact hsz
   have h1:(fill 32).toArray.all (·.oneCell')=true:=all_oneCell_toArray (by intro v hv;simp[fill,List.mem_map]at hv;obtain⟨i,_,rfl⟩:=hv;split<;>rfl)
   have hb3:=Blk.setCells (w:=wr) (fill 32) (fill 32++List.replicate 32 emp) 32 wr hbk (by simp[fill])
   have e3:(fill 32++List.replicate 32 emp).take 32++(fill 32++(fill 32++List.replicate 32 emp).drop (32+(fill 32).length))=fill 32++fill 32:=by rfl
   rw[e3]at hb3
   have o3:Below w.heap.size w (wr.setCells w.heap.size 32 (fill 32)):=bel.grown (only_setCells (fill 32) 32 wr (only_refl _ (some w.heap.size))) bel.size (fun k hk=>by injection hk;omega)
   have B3:=Lib.hid hb3;have O3:=Lib.hid o3
   clear hb3 o3 hbk e3
   generalize hF:fill 32=F at hr ht hsz hsz' h1 B3 O3
   have HF:=Lib.hid hF;clear hF
   go_wp2_with (first|(with_reducible refine wpList_load_mid rfl 40 _ rfl w.heap.size 0 rfl F _ hr Tryz.underlying40 rfl hsz ?_)|(with_reducible refine wpList_store_mid rfl 40 _ _ rfl w.heap.size 32 F.toArray rfl rfl ht hsz' h1 ?_;rw[List.toList_toArray];clear hr ht hsz hsz' h1;generalize wr.setCells w.heap.size 32 F=w3 at B3 O3 ⊢))
   go_ret
   refine⟨rfl,?_,O3.out⟩
   have hB:=B3.out
   rw[<-HF.out]at hB
   exact hB
end Go.Proofs.YtggmdjdflaglpaaGreat.r27
namespace Go.Proofs.YtggmdjdflaglpaaGreat.r27
open Go.RowKit
set_option linter.unusedVariables false
theorem ris_ok (k i:Int) (A:Option Addr) (n c:Nat) (w:World) (h:okc k i n):
 Calls Tryz.prog 25 #[.agg #[.int .i64 k,.int .i64 i,.slice A n c]] w fun e w'=>e=.returned (.bool true)/\Below w.heap.size w w':=by
 have bel:Below w.heap.size w (w.alloc (.cells #[.int .i64 k,.int .i64 i,.slice A n c] 34)):=(Below.refl _ _).alloc (Nat.le_refl _) _
 rcases h with⟨h,h0,h1⟩|⟨rfl,⟨h0,h1⟩,rfl⟩|h
 ·have h2:decide (i<32)=true:=by simpa using h1
  rcases h with rfl|rfl
  all_goals
   go_enter Tryz.func25,Tryz.ntmps25
   go_wp2_with fail
   go_ret
   exact⟨rfl,bel⟩
 ·have h2:decide (i<32)=true:=by simpa using h1
  go_enter Tryz.func25,Tryz.ntmps25
  go_wp2_with fail
  go_ret
  exact⟨rfl,bel⟩
 ·by_cases h0:0<=i
  ·by_cases h1:i<32
   ·have h2:decide (i<32)=true:=by simpa using h1
    rcases h with rfl|rfl
    all_goals
     go_enter Tryz.func25,Tryz.ntmps25
     go_wp2_with fail
     go_ret
     exact⟨rfl,bel⟩
   ·have h2:decide (i<32)=false:=by simpa using h1
    rcases h with rfl|rfl
    all_goals
     go_enter Tryz.func25,Tryz.ntmps25
     go_wp2_with fail
     go_ret
     exact⟨rfl,bel⟩
  ·rcases h with rfl|rfl
   all_goals
    go_enter Tryz.func25,Tryz.ntmps25
    go_wp2_with fail
    go_ret
    exact⟨rfl,bel⟩
theorem ris_no (k i:Int) (A:Option Addr) (n c:Nat) (w:World) (h:¬okc k i n):
 Calls Tryz.prog 25 #[.agg #[.int .i64 k,.int .i64 i,.slice A n c]] w fun e w'=>e=.returned (.bool false)/\Below w.heap.size w w':=by
 have bel:Below w.heap.size w (w.alloc (.cells #[.int .i64 k,.int .i64 i,.slice A n c] 34)):=(Below.refl _ _).alloc (Nat.le_refl _) _
 rcases nokc h with⟨hk,hi⟩|⟨rfl,hi⟩|⟨rfl,⟨h0,h1⟩,hn⟩|⟨k1,k2,k3,k4,k5⟩
 ·clear h
  rcases hi with hi|hi
  ·rcases hk with rfl|rfl
   all_goals
    go_enter Tryz.func25,Tryz.ntmps25
    go_wp2_with fail
    go_ret
    exact⟨rfl,bel⟩
  ·have h0:0<=i:=by omega
   have h2:decide (i<32)=false:=by simp;omega
   rcases hk with rfl|rfl
   all_goals
    go_enter Tryz.func25,Tryz.ntmps25
    go_wp2_with fail
    go_ret
    exact⟨rfl,bel⟩
 ·clear h
  rcases hi with hi|hi
  ·go_enter Tryz.func25,Tryz.ntmps25
   go_wp2_with fail
   go_ret
   exact⟨rfl,bel⟩
  ·have h0:0<=i:=by omega
   have h2:decide (i<32)=false:=by simp;omega
   go_enter Tryz.func25,Tryz.ntmps25
   go_wp2_with fail
   go_ret
   exact⟨rfl,bel⟩
 ·have hn':((n:Int) == 32)=false:=by simp;omega
  have h2:decide (i<32)=true:=by simpa using h1
  clear h hn
  go_enter Tryz.func25,Tryz.ntmps25
  go_wp2_with fail
  go_ret
  exact⟨rfl,bel⟩
 ·have e1:(k == 1)=false:=by simpa using k1
  have e2:(k == 2)=false:=by simpa using k2
  have e3:(k == 3)=false:=by simpa using k3
  have e4:(k == 4)=false:=by simpa using k4
  have e5:(k == 5)=false:=by simpa using k5
  clear h k1 k2 k3 k4 k5
  by_cases h0:0<=i
  ·by_cases h1:i<32
   ·have h2:decide (i<32)=true:=by simpa using h1
    go_enter Tryz.func25,Tryz.ntmps25
    go_wp2_with fail
    go_ret
    exact⟨rfl,bel⟩
   ·have h2:decide (i<32)=false:=by simpa using h1
    go_enter Tryz.func25,Tryz.ntmps25
    go_wp2_with fail
    go_ret
    exact⟨rfl,bel⟩
  ·go_enter Tryz.func25,Tryz.ntmps25
   go_wp2_with fail
   go_ret
   exact⟨rfl,bel⟩
end Go.Proofs.YtggmdjdflaglpaaGreat.r27
