/- slices.Chunk over bytes, by 16, where their number is a multiple of 16: its rows, one by one. -/
import Derived.Test.YtggmdjdflaglpaaGreatR07
import Derived.RangeFuncNested
import Derived.RangeFuncBound
import Derived.RangeFuncCalls
import Derived.RangeFuncLeaves
import Derived.RangeFuncFrom
import Derived.Shelf.Abstract
import Derived.Shelf.RegionOpen
import Derived.WalkKit
import Derived.OwnWalkIn
import Derived.TacticsInMore
import Derived.LoopNIn
import Derived.LoopIn
namespace Go.Proofs.YtggmdjdflaglpaaGreat
open Go.RowKit Go.Shelf
set_option linter.unusedVariables false
attribute [local go_sem] Oper.semAt_some
abbrev Row16 (J:Nat):={j:Nat // j<J}
def chunkEnc (b o:Nat) {J:Nat}(x:Row16 J):Array Value:=#[.slice (some ⟨b,o+16*x.1,none⟩) 16 16]
def rowsTo (J k:Nat):List (Row16 J):=(List.range k).filterMap (fun j=>if h:j<J then some ⟨j,h⟩else none)
theorem rowsTo_succ (J k:Nat) (h:k<J):rowsTo J (k+1)=rowsTo J k++[⟨k,h⟩]:=by
 unfold rowsTo
 rw[List.range_succ,List.filterMap_append]
 simp[h]
theorem rowsTo_len (J k:Nat) (h:k<=J):(rowsTo J k).length=k:=by
 induction k with
 |zero=>rfl
 |succ k ih=>rw[rowsTo_succ J k (by omega),List.length_append,ih (by omega)];rfl
def KeepBut (n₀ st:Nat) (W W':World):Prop:=W.heap.size<=W'.heap.size/\∀k,k<n₀->k≠st->W'.heap[k]? =W.heap[k]?
theorem KeepBut.refl (n₀ st:Nat) (W:World):KeepBut n₀ st W W:=⟨Nat.le_refl _,fun _ _ _=>rfl⟩
theorem KeepBut.trans {n₀ st:Nat}{A B C:World}(h:KeepBut n₀ st A B) (k:KeepBut n₀ st B C):KeepBut n₀ st A C:=⟨Nat.le_trans h.1 k.1,fun i h1 h2=>(k.2 i h1 h2).trans (h.2 i h1 h2)⟩
theorem KeepBut.cell {n₀ st:Nat}{A B:World}(h:KeepBut n₀ st A B) {p:Addr}(h1:p.block<n₀) (h2:p.block≠st):B.cell? p=A.cell? p:=by
 simp only[World.cell?,h.2 _ h1 h2]
theorem KeepBut.of_below {n₀ st:Nat}{A B:World}(h:Below n₀ A B):KeepBut n₀ st A B:=⟨h.size,fun k h1 _=>h.block k h1⟩
set_option maxRecDepth 100000 in
theorem chunk_ok (A:Option Addr) (len cap:Nat) (w:World):
 Calls Tryz.prog 88 #[.slice A len cap,.int .i64 16] w fun e w'=>e=.returned (.func (.func 129) #[] #[.pointer (some ⟨w.heap.size,0,none⟩),.pointer (some ⟨w.heap.size+1,0,none⟩)])/\
  w'=(w.alloc (.cells #[.slice A len cap] 32)).alloc (.cells #[.int .i64 16] 3):=by
 go_enter Tryz.func88,Tryz.ntmps88
 go_wp2_with fail
 go_ret
 exact⟨rfl,rfl⟩
set_option maxRecDepth 100000 in
set_option maxHeartbeats 2000000 in
theorem chunk1_in (F:Fence) (n:Nat) (hF:F.fn 129) (hro:F.round=none) (hn:1<=n) (l Bs Bn n₀ st b o J cap:Nat) (hJ:16*J<=100000) (hcap:16*J<=cap) (hcap2:cap<=9223372036854775807)
 (hs:Bs<n₀/\Bs≠st) (hm:Bn<n₀/\Bn≠st) (K Kx:List (Row16 J)->World->Prop) (hKd:∀s W,K s W->K s W.drew)
 (hY:∀pre x W,K pre W->pre.length<J->YieldAt F (n-1) Tryz.prog l (chunkEnc b o x) W fun e W'=>
  (e=.returned (.bool true)/\K (pre++[x]) W'/\KeepBut n₀ st W W')\/(e=.returned (.bool false)/\Kx (pre++[x]) W'))
 (W:World) (hBs:W.cell? ⟨Bs,0,none⟩=some (.slice (some ⟨b,o,none⟩) (16*J) cap)) (hBn:W.cell? ⟨Bn,0,none⟩=some (.int .i64 16)) (h0:K [] W):
 CallsIn F n Tryz.prog 129 #[.func (.yield l) #[] #[],.pointer (some ⟨Bs,0,none⟩),.pointer (some ⟨Bn,0,none⟩)] W fun e W'=>(∃v,e=.returned v)/\
  ((∃ys,ys=rowsTo J J/\K ys W')\/(∃pre,(∃k,k<=J/\pre=rowsTo J k)/\Kx pre W')):=by
 obtain⟨L,hL⟩:∃L,L=16*J:=⟨_,rfl⟩
 rw[<-hL]at hBs hJ hcap
 refine callsIn_of_wp Tryz.func129 rfl hF ?_ hro
 simp only[Tryz.ntmps129,List.size_toArray,List.length_cons,List.length_nil,Nat.reduceAdd,Nat.reduceSub,Array.replicate_succ,Array.replicate_zero,List.push_toArray,List.append_toArray,List.nil_append,List.cons_append]
 gi_wp2
 gi_loopw [4] (fun i wr=>∃k:Nat,k<=J/\i=.int .i64 ((16*k:Nat):Int)/\K (rowsTo J k) wr/\KeepBut n₀ st W wr)
  (fun i _=>L-(intOf i).toNat)
 case atStart=>exact⟨0,Nat.zero_le _,rfl,h0,KeepBut.refl _ _ _⟩
 case round=>
  obtain⟨k,hk,rfl,hJs,hnx⟩:=hrel
  have c1:wr.cell? ⟨Bs,0,none⟩=some (.slice (some ⟨b,o,none⟩) L cap):=(hnx.cell (p:=⟨Bs,0,none⟩) hs.1 hs.2).trans hBs
  have c2:wr.cell? ⟨Bn,0,none⟩=some (.int .i64 16):=(hnx.cell (p:=⟨Bn,0,none⟩) hm.1 hm.2).trans hBn
  by_cases hlt:k<J
  ·obtain⟨fn,tmps,assign,body,hy,hR⟩:=hY _ ⟨k,hlt⟩ wr.drew (hKd _ _ hJs) (by rw[rowsTo_len J k hk];exact hlt)
   unfold chunkEnc at hy
   dsimp only at hy
   obtain⟨i,hi⟩:∃i,i=16*k:=⟨_,rfl⟩
   rw[<-hi]at hy ⊢
   have hiL:i+16<=L:=by omega
   have i0:(0:Int)<=(i:Int):=by omega
   have i1:(i:Int)<(L:Int):=by omega
   have i2:(16:Int)<=(L:Int)-(i:Int):=by omega
   have i3:(i:Int)+16<=(L:Int):=by omega
   have i4:(i:Int)+16<=(cap:Int):=by omega
   have e16:16=((i:Int)+min 16 ((L-i:Nat):Int)).toNat-i:=by omega
   have hy2:Sem.run Tryz.prog (Instr.yield l #[Value.slice (some {block:=b,off:=o+i}) (((i:Int)+min 16 ((L-i:Nat):Int)).toNat-i) (((i:Int)+min 16 ((L-i:Nat):Int)).toNat-i)]) wr.drew=Result.ok (Next.round l fn tmps assign body) wr.drew:=by
    rw[<-e16];exact hy
   have HI:=Lib.hid (And.intro hi (And.intro hL hk))
   clear hi hL hk hBs hBn hy e16
   have hmx:Tryz.prog.follows .mixedOrders=true:=by kernel_rfl
   gi_wp2
   gi_region_with_o fail
   all_goals gi_wp2
   all_goals (refine hR.mono ?_;rintro e W3 (⟨rfl,hJ3,hk3⟩|⟨rfl,hJx3⟩))
   all_goals
    first
    |(have c3:W3.cell? ⟨Bn,0,none⟩=some (.int .i64 16):=(hk3.cell (p:=⟨Bn,0,none⟩) hm.1 hm.2).trans c2
      clear c1 c2
      gi_wp2
      obtain⟨hi,hL,hk⟩:=HI.out
      go_roundw
      case rel=>exact⟨k+1,by omega,by rw[hi];go_num,by rw[rowsTo_succ J k hlt];exact hJ3,hnx.trans (KeepBut.trans ⟨Nat.le_refl _,fun _ _ _=>rfl⟩ hk3)⟩
      case measure=>simp[intOf];omega)
    |(clear c1 c2
      gi_wp2
      obtain⟨hi,hL,hk⟩:=HI.out
      refine bodyPost_ret (results_none rfl _ _ _) rfl ?_
      exact⟨⟨_,rfl⟩,.inr ⟨_,⟨k+1,by omega,(rowsTo_succ J k hlt).symm⟩,hJx3⟩⟩)
  ·obtain rfl:k=J:=by omega
   rw[<-hL]
   gi_wp2
   go_end0
   exact⟨⟨_,rfl⟩,.inl ⟨_,rfl,hJs⟩⟩
theorem chunk_stops (F:Fence) (n:Nat) (hF:F.fn 129) (hro:F.round=none) (hn:1<=n) (Bs Bn n₀ st b o J cap:Nat) (hJ:16*J<=100000) (hcap:16*J<=cap) (hcap2:cap<=9223372036854775807)
 (w:World) (hs:Bs<n₀/\Bs≠st) (hm:Bn<n₀/\Bn≠st) (hw:n₀<=w.heap.size)
 (hBs:w.cell? ⟨Bs,0,none⟩=some (.slice (some ⟨b,o,none⟩) (16*J) cap)) (hBn:w.cell? ⟨Bn,0,none⟩=some (.int .i64 16)):
 SeqStopsK F n Tryz.prog 129 #[.pointer (some ⟨Bs,0,none⟩),.pointer (some ⟨Bn,0,none⟩)] (chunkEnc b o (J:=J)) (KeepBut n₀ st) (fun ys=>ys=rowsTo J J) (fun pre=>∃k,k<=J/\pre=rowsTo J k) J w:=fun l K Kx W hW hK hKx hY h0=>by
 have e1:=(hW.cell (p:=⟨Bs,0,none⟩) (by simp only;omega)).trans hBs
 have e2:=(hW.cell (p:=⟨Bn,0,none⟩) (by simp only;omega)).trans hBn
 exact chunk1_in F n hF hro hn l Bs Bn n₀ st b o J cap hJ hcap hcap2 hs hm K Kx (fun s W' h=>hK s W' _ none h (only_drew (only_refl _ _)) (fun r e=>by cases e)) hY W e1 e2 h0
end Go.Proofs.YtggmdjdflaglpaaGreat
