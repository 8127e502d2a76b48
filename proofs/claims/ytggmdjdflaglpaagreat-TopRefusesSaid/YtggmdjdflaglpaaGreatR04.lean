/- Speck by contract: what it answers is a function of what it is told. The untrusted device by contract. Roles of blocks; rows of writes. The untrusted device: its piece of the world, Write. What a write does to the device's rows (no walk). -/
import Derived.Test.YtggmdjdflaglpaaGreatR03
import Derived.Deep.QuietTactic
import Derived.BigQuiet
import Derived.Maps.RangeWalk
import Derived.Test.YtggmdjdflaglpaaGreatR02
import Derived.Deep.RegionHeld3
namespace Go.Proofs.YtggmdjdflaglpaaGreat
open Go.RowKit
set_option linter.unusedVariables false
theorem only_set1 (w:World) (g i:Nat) (u:Value):w.grownBy (w.setCell ⟨g,i,none⟩ u) (some g):=only_setCell (only_refl w (some g)) (p:=⟨g,i,none⟩) (.inl rfl) u
theorem only_set2 (w:World) (g i j:Nat) (u v:Value):w.grownBy ((w.setCell ⟨g,i,none⟩ u).setCell ⟨g,j,none⟩ v) (some g):=only_setCell (only_set1 w g i u) (p:=⟨g,j,none⟩) (.inl rfl) v
theorem and56:bits BinOp.and IntKind.u64 (IntKind.u64.wrap (-8)) 63=56:=by kernel_rfl
theorem and3:bits BinOp.and IntKind.u64 3 63=3:=by kernel_rfl
def rA (x:Int):Int:=bits .or .u64 (IntKind.u64.wrap (x*72057594037927936)) (x / 256)
def rB (x:Int):Int:=bits .or .u64 (IntKind.u64.wrap (x*8)) (x / 2305843009213693952)
def U64 (x:Int):Prop:=0<=x/\x<18446744073709551616
theorem u64_bits (op:BinOp) (x y:Int):U64 (bits op .u64 x y):=by
 have:=bounds_u64 (wf_bits op .u64 x y)
 unfold U64;omega
theorem rotA_ok (x:Int) (w:World) (h:U64 x):Calls Tryz.prog 177 #[.int .u64 x,.int .i64 (-8)] w fun e w'=>e=.returned (.int .u64 (rA x))/\w=w':=by
 have e1:=and56
 obtain⟨h0,h1⟩:=h
 go_enter Tryz.func177,Tryz.ntmps177
 go_wp2_with fail
 go_ret
 exact⟨rfl,rfl⟩
theorem rotB_ok (x:Int) (w:World) (h:U64 x):Calls Tryz.prog 177 #[.int .u64 x,.int .i64 3] w fun e w'=>e=.returned (.int .u64 (rB x))/\w=w':=by
 have e2:=and3
 obtain⟨h0,h1⟩:=h
 go_enter Tryz.func177,Tryz.ntmps177
 go_wp2_with fail
 go_ret
 exact⟨rfl,rfl⟩
def mixX (x y k:Int):Int:=bits .xor .u64 (IntKind.u64.wrap (rA x+y)) k
def mixY (x y k:Int):Int:=bits .xor .u64 (rB y) (mixX x y k)
theorem mixX_u (x y k:Int):U64 (mixX x y k):=u64_bits _ _ _
theorem mixY_u (x y k:Int):U64 (mixY x y k):=u64_bits _ _ _
theorem rA_u (x:Int):U64 (rA x):=u64_bits _ _ _
theorem rB_u (x:Int):U64 (rB x):=u64_bits _ _ _
theorem mix_ok (x y k:Int) (w:World) (hx:U64 x) (hy:U64 y) (hk:U64 k):
 Calls Tryz.prog 161 #[.int .u64 x,.int .u64 y,.int .u64 k] w fun e w'=>e=.returned (.tuple #[.int .u64 (mixX x y k),.int .u64 (mixY x y k)])/\w=w':=by
 have r1:=rotA_ok x w hx
 have r2:=rotB_ok y w hy
 have HX:=Lib.hid (And.intro (And.intro hx hy) hk)
 clear hx hy hk
 go_enter Tryz.func161,Tryz.ntmps161
 go_wp2_with fail
 refine r1.mono ?_
 rintro e w1 ⟨rfl,rfl⟩
 go_wp2_with fail
 refine r2.mono ?_
 rintro e w1 ⟨rfl,rfl⟩
 go_wp2_with fail
 go_ret2
 exact⟨rfl,rfl⟩
abbrev Two:=Int×Int
def U2 (p:Two):Prop:=U64 p.1/\U64 p.2
def pv (p:Two):Value:=.agg #[.int .u64 p.1,.int .u64 p.2]
def kst (key:Two):Nat->Two
 |0=>key
 |i+1=>(mixX (kst key i).1 (kst key i).2 i,mixY (kst key i).1 (kst key i).2 i)
theorem kst_u (key:Two) (h:U2 key):∀i,U2 (kst key i)
 |0=>h
 |i+1=>⟨mixX_u _ _ _,mixY_u _ _ _⟩
def kvals (key:Two) (i:Nat):List Value:=(List.range i).map (fun j=>Value.int .u64 (kst key j).2)
theorem kvals_succ (key:Two) (i:Nat):kvals key (i+1)=kvals key i++[.int .u64 (kst key i).2]:=by
 unfold kvals
 rw[List.range_succ,List.map_append]
 rfl
theorem info30:(Tryz.prog.info? 30).map (fun i=>(i.zero,i.size,i.bytes))=some (some (.int .u64 0),1,8):=by kernel_rfl
set_option maxHeartbeats 1000000 in
theorem keys_ok (key:Two) (w:World) (h:U2 key):
 Calls Tryz.prog 160 #[.agg #[.int .u64 key.1,.int .u64 key.2]] w fun e w'=>∃v,e=.returned v/\w'.ownsRow w.heap.size 30 1 v 32 (kvals key 32)/\Below w.heap.size w w':=by
 obtain⟨i0,hi,hz0,hz1,hz2⟩:=info_parts info30
 obtain⟨a,b⟩:=key
 obtain⟨W,hW⟩:∃W,W=w.alloc (.cells #[.int .u64 a,.int .u64 b] 101):=⟨_,rfl⟩
 have hB:Blk W w.heap.size 101 #[.int .u64 a,.int .u64 b]:=by rw[hW];exact Blk.new w 101 _
 have hbw:Below w.heap.size w W:=by rw[hW];exact(Below.refl _ _).alloc (Nat.le_refl _) _
 have c0:W.cell? ⟨w.heap.size,0,none⟩=some (.int .u64 a):=hB.cell_ 0 rfl
 have c1:W.cell? ⟨w.heap.size,1,none⟩=some (.int .u64 b):=hB.cell_ 1 rfl
 have HH:=Lib.hid h
 clear h
 simp only
 go_enter Tryz.func160,Tryz.ntmps160
 go_wp2_with fail
 rw[<-hW]
 clear hW
 go_quiet (fail)
 go_wp2_with fail
 go_loopw [3,4,5,6,11] (fun l k o _ t wr=>∃(i:Nat) (V:Value),V=o/\t=.int .u64 i/\i<=32/\l=.int .u64 (kst (a,b) i).1/\k=.int .u64 (kst (a,b) i).2/\wr.ownsRow w.heap.size 30 1 V i (kvals (a,b) i)/\Below w.heap.size w wr)
  (fun _ _ _ _ t _=>32-(intOf t).toNat)
 case atStart=>exact⟨0,_,rfl,rfl,by omega,rfl,rfl,World.ownsRow_nil _ _ _ _,below_drewN hbw _⟩
 case round=>
  obtain⟨i,V,rfl,rfl,hi32,rfl,rfl,hO,hb⟩:=hrel
  by_cases hlt:i<32
  ·have hks:=kst_u (a,b) HH.out i
   have hm:=fun W=>mix_ok (kst (a,b) i).1 (kst (a,b) i).2 (i:Int) W hks.1 hks.2 ⟨by omega,by omega⟩
   have hks1:=kvals_succ (a,b) i
   have hst1:(kst (a,b) (i+1)).1=mixX (kst (a,b) i).1 (kst (a,b) i).2 i:=rfl
   have hst2:(kst (a,b) (i+1)).2=mixY (kst (a,b) i).1 (kst (a,b) i).2 i:=rfl
   obtain⟨x,hx⟩:∃x,x=(kst (a,b) i).1:=⟨_,rfl⟩
   obtain⟨y,hy⟩:∃y,y=(kst (a,b) i).2:=⟨_,rfl⟩
   rw[<-hx,<-hy]at hm hst1 hst2 ⊢
   rw[<-hy]at hks1
   have HK:=Lib.hid (And.intro hks1 (And.intro hst1 hst2))
   clear hks hx hy hks1 hst1 hst2
   have hsz:=hb.size
   have i0':(0:Int)<=(i:Int):=by omega
   have i1:(i:Int)<32:=by omega
   have hown:(wr.alloc (.cells #[.int .u64 y] 30)).ownsRow w.heap.size 30 1 V i (kvals (a,b) i):=World.ownsRow.alloc hO _
   go_wp2_with (at_builtin;refine wpList_append_own _ rfl _ _ 240 rfl w.heap.size 30 i0 (.int .u64 0) 1 8 Tryz.underlying240 hi hz0 hz1 hz2 rfl (by decide) _ _ _ rfl hown ⟨wr.heap.size,0,none⟩ 1 1 [.int .u64 y] rfl (by simp) (cell_one_new _ _ _) (fun v hv=>by rw[List.mem_singleton.1 hv];rfl) (by unfold maxLen;omega) (by omega) (by simp;omega) ?_;intro v' w1 hown1 hgrow hnil;go_frame)
   have hb1:=((hb.alloc hsz (.cells #[.int .u64 y] 30))).grown hgrow (by simp;omega) (fun k hk=>(by have:=(hO.lt k hk).1;omega))
   clear hO hown hgrow hnil
   go_wp2_with fail
   refine(hm _).mono ?_
   rintro e w2 ⟨rfl,rfl⟩
   clear hm
   go_wp2_with fail
   go_roundw
   case rel=>exact⟨i+1,_,rfl,by go_num,by omega,by rw[HK.out.2.1],by rw[HK.out.2.2],by rw[HK.out.1];exact hown1,hb1⟩
   case measure=>simp[intOf];omega
  ·obtain rfl:i=32:=by omega
   clear hlt hi32
   have HO:=Lib.hid hO
   clear hO
   generalize hkk:kst (a,b) 32=kk
   go_wp2_with fail
   go_ret
   exact⟨_,rfl,HO.out,hb⟩
def est (key blk:Two):Nat->Two
 |0=>blk
 |i+1=>(mixX (est key blk i).1 (est key blk i).2 (kst key i).2,mixY (est key blk i).1 (est key blk i).2 (kst key i).2)
def enc (key blk:Two):Two:=est key blk 32
theorem est_u (key blk:Two) (h:U2 blk):∀i,U2 (est key blk i)
 |0=>h
 |i+1=>⟨mixX_u _ _ _,mixY_u _ _ _⟩
theorem enc_u (key blk:Two) (h:U2 blk):U2 (enc key blk):=est_u key blk h 32
set_option maxHeartbeats 1000000 in
theorem enc_ok (key blk:Two) (w:World) (hk:U2 key) (hb:U2 blk):
 Calls Tryz.prog 123 #[.agg #[.int .u64 key.1,.int .u64 key.2],.agg #[.int .u64 blk.1,.int .u64 blk.2]] w fun e w'=>e=.returned (.agg #[.int .u64 (enc key blk).1,.int .u64 (enc key blk).2])/\Below w.heap.size w w':=by
 obtain⟨a,b⟩:=key
 obtain⟨c,d⟩:=blk
 obtain⟨W,hW⟩:∃W,W=((w.alloc (.cells #[.int .u64 a,.int .u64 b] 101)).alloc (.cells #[.int .u64 c,.int .u64 d] 101)).alloc (.cells #[.int .u64 0,.int .u64 0] 101):=⟨_,rfl⟩
 have hB:Blk W w.heap.size 101 #[.int .u64 a,.int .u64 b]:=by rw[hW];exact((Blk.new w 101 _).alloc _).alloc _
 have hB1:Blk W (w.heap.size+1) 101 #[.int .u64 c,.int .u64 d]:=by
  rw[hW]
  have:=(Blk.new (w.alloc (.cells #[.int .u64 a,.int .u64 b] 101)) 101 #[.int .u64 c,.int .u64 d]).alloc (.cells #[.int .u64 0,.int .u64 0] 101)
  simpa using this
 have hB2:Blk W (w.heap.size+2) 101 #[.int .u64 0,.int .u64 0]:=by
  rw[hW]
  have:=Blk.new ((w.alloc (.cells #[.int .u64 a,.int .u64 b] 101)).alloc (.cells #[.int .u64 c,.int .u64 d] 101)) 101 #[.int .u64 0,.int .u64 0]
  simpa using this
 have hbw:Below w.heap.size w W:=by rw[hW];exact(((Below.refl _ _).alloc (Nat.le_refl _) _).alloc (by simp) _).alloc (by simp;omega) _
 have c0:W.cell? ⟨w.heap.size+1,0,none⟩=some (.int .u64 c):=hB1.cell_ 0 rfl
 have c1:W.cell? ⟨w.heap.size+1,1,none⟩=some (.int .u64 d):=hB1.cell_ 1 rfl
 have d0:W.cell? ⟨w.heap.size,0,none⟩=some (.int .u64 a):=hB.cell_ 0 rfl
 have d1:W.cell? ⟨w.heap.size,1,none⟩=some (.int .u64 b):=hB.cell_ 1 rfl
 have hks:=fun W=>keys_ok (a,b) W hk
 have HH:=Lib.hid (And.intro hk hb)
 clear hk hb
 simp only at hks ⊢
 go_enter Tryz.func123,Tryz.ntmps123
 go_wp2_with fail
 rw[<-hW]
 clear hW
 go_quiet (fail)
 go_wp2_with fail
 refine(hks _).mono ?_
 rintro e w1 ⟨v,rfl,hO,hb1⟩
 obtain⟨r,cap,cur,rfl,r0,r1,r2,r3,r4,r5⟩:∃(r cap:Nat) (cur:Array Value),v=.slice (some ⟨r,0,none⟩) 32 cap/\(W.drewN nq).heap.size<=r/\w1.heap[r]? =some (.cells cur 30 (0,0))/\32<=cap/\cap<=maxLen/\cur.size=cap*1/\cur.toList.take (32*1)=kvals (a,b) 32:=by
  rcases hO.2 with⟨_,h0⟩|h
  ·omega
  ·exact h
 have hcell:∀i,i<32->w1.cell? ⟨r,i,none⟩=some (.int .u64 (kst (a,b) i).2):=fun i hi=>by
  rw[cell_of_row w1 r i cur 30 (0,0) r1]
  have e:(cur.toList.take (32*1))[i]? =some (.int .u64 (kst (a,b) i).2):=by
   rw[r5]
   unfold kvals
   rw[List.getElem?_map,List.getElem?_range hi]
   rfl
  rw[List.getElem?_take,if_pos (by omega)]at e
  simpa using e
 have hB2':Blk w1 (w.heap.size+2) 101 #[.int .u64 0,.int .u64 0]:=(hB2.drewN nq).below_ hb1
 have hbw1:=(below_drewN hbw nq).trans (hb1.mono (below_drewN hbw nq).size)
 have hl2:=hB2'.lt
 have f0:=hB2'.frozen 0
 have f1:=hB2'.frozen 1
 have g0:w1.cell? ⟨w.heap.size+2,0,none⟩=some (.int .u64 0):=hB2'.cell_ 0 rfl
 have g1:w1.cell? ⟨w.heap.size+2,1,none⟩=some (.int .u64 0):=hB2'.cell_ 1 rfl
 clear hks r1 r5 r4 r3 hO hB hB1 hB2 c0 c1 d0 d1 hb1 hbw r0
 go_wp2_with fail
 go_loopw [5,6,8,16] (fun x y _ t wr=>∃i:Nat,t=.int .i64 i/\i<=32/\x=.int .u64 (est (a,b) (c,d) i).1/\y=.int .u64 (est (a,b) (c,d) i).2/\w1=wr)
  (fun _ _ _ t _=>32-(intOf t).toNat)
 case atStart=>exact⟨0,rfl,by omega,rfl,rfl,rfl⟩
 case round=>
  obtain⟨i,rfl,hi32,rfl,rfl,rfl⟩:=hrel
  by_cases hlt:i<32
  ·have hxy:=est_u (a,b) (c,d) HH.out.2 i
   have hku:=(kst_u (a,b) HH.out.1 i).2
   have hm:=mix_ok (est (a,b) (c,d) i).1 (est (a,b) (c,d) i).2 (kst (a,b) i).2 w1 hxy.1 hxy.2 hku
   have hst1:(est (a,b) (c,d) (i+1)).1=mixX (est (a,b) (c,d) i).1 (est (a,b) (c,d) i).2 (kst (a,b) i).2:=rfl
   have hst2:(est (a,b) (c,d) (i+1)).2=mixY (est (a,b) (c,d) i).1 (est (a,b) (c,d) i).2 (kst (a,b) i).2:=rfl
   have hci:=hcell i hlt
   obtain⟨x,hx⟩:∃x,x=(est (a,b) (c,d) i).1:=⟨_,rfl⟩
   obtain⟨y,hy⟩:∃y,y=(est (a,b) (c,d) i).2:=⟨_,rfl⟩
   obtain⟨k,hk⟩:∃k,k=(kst (a,b) i).2:=⟨_,rfl⟩
   rw[<-hx,<-hy,<-hk]at hm hst1 hst2
   rw[<-hx,<-hy]
   rw[<-hk]at hci
   have HK:=Lib.hid (And.intro hst1 hst2)
   have i0':(0:Int)<=(i:Int):=by omega
   have i1:(i:Int)<32:=by omega
   clear hxy hku hx hy hk hst1 hst2 hcell
   go_wp2_with fail
   refine hm.mono ?_
   rintro e w2 ⟨rfl,rfl⟩
   clear hm
   go_wp2_with fail
   go_roundw
   case rel=>exact⟨i+1,by go_num,by omega,by rw[HK.out.1],by rw[HK.out.2],by first|trivial|rfl⟩
   case measure=>simp[intOf];omega
  ·obtain rfl:i=32:=by omega
   have he1:(est (a,b) (c,d) 32).1=(enc (a,b) (c,d)).1:=rfl
   have he2:(est (a,b) (c,d) 32).2=(enc (a,b) (c,d)).2:=rfl
   rw[he1,he2]
   obtain⟨x,hx⟩:∃x,x=(enc (a,b) (c,d)).1:=⟨_,rfl⟩
   obtain⟨y,hy⟩:∃y,y=(enc (a,b) (c,d)).2:=⟨_,rfl⟩
   rw[<-hx,<-hy]
   have HXY:=Lib.hid (And.intro hx hy)
   clear hx hy
   clear hlt hi32 he1 he2 hcell
   go_wp2_with fail
   have hf:=(hB2'.set_ 0 (.int .u64 x)).set_ 1 (.int .u64 y)
   have ra:((w1.setCell ⟨w.heap.size+1+1,0,none⟩ (.int .u64 x)).setCell ⟨w.heap.size+1+1,1,none⟩ (.int .u64 y)).cell? ⟨w.heap.size+1+1,0,none⟩=some (.int .u64 x):=hf.cell_ 0 rfl
   have rb:((w1.setCell ⟨w.heap.size+1+1,0,none⟩ (.int .u64 x)).setCell ⟨w.heap.size+1+1,1,none⟩ (.int .u64 y)).cell? ⟨w.heap.size+1+1,1,none⟩=some (.int .u64 y):=hf.cell_ 1 rfl
   have hbf:Below w.heap.size w ((w1.setCell ⟨w.heap.size+1+1,0,none⟩ (.int .u64 x)).setCell ⟨w.heap.size+1+1,1,none⟩ (.int .u64 y)):=
    below_only (g:=w.heap.size+1+1) hbw1 (only_set2 _ _ _ _ _ _) hbw1.size (by omega)
   refine bodyPost_ret (v:=.agg #[.int .u64 x,.int .u64 y]) (by simp[results,Tryz.results123,go_sem,ra,rb]) rfl ⟨by rw[HXY.out.1,HXY.out.2],hbf⟩
def keyOf (seed epoch:Int):Two:=enc (seed,seed) (0,epoch)
theorem keyOf_u (seed epoch:Int) (he:U64 epoch):U2 (keyOf seed epoch):=enc_u _ _ ⟨⟨by omega,by omega⟩,he⟩
theorem of_ok (seed epoch:Int) (w:World) (hs:U64 seed) (e0:0<=epoch) (e1:epoch<4294967296):
 Calls Tryz.prog 166 #[.int .u64 seed,.int .u32 epoch] w fun e w'=>e=.returned (.agg #[.int .u64 (keyOf seed epoch).1,.int .u64 (keyOf seed epoch).2])/\Below w.heap.size w w':=by
 have he:=fun W=>enc_ok (seed,seed) (0,epoch) W ⟨hs,hs⟩ ⟨⟨by omega,by omega⟩,⟨e0,by simp only;omega⟩⟩
 have hB:Blk (w.alloc (.cells #[.int .u64 0,.int .u64 0] 101)) w.heap.size 101 #[.int .u64 0,.int .u64 0]:=Blk.new w 101 _
 have hbw:Below w.heap.size w (w.alloc (.cells #[.int .u64 0,.int .u64 0] 101)):=(Below.refl _ _).alloc (Nat.le_refl _) _
 simp only at he
 obtain⟨W,hW⟩:∃W,W=w.alloc (.cells #[.int .u64 0,.int .u64 0] 101):=⟨_,rfl⟩
 rw[<-hW]at hB hbw
 clear hs
 go_enter Tryz.func166,Tryz.ntmps166
 go_wp2_with fail
 rw[<-hW]
 clear hW
 refine(he _).mono ?_
 rintro e w1 ⟨rfl,hb1⟩
 have hB1:=hB.below_ hb1
 have hb:=hbw.trans (hb1.mono hbw.size)
 obtain⟨x,hx⟩:∃x,x=(enc (seed,seed) (0,epoch)).1:=⟨_,rfl⟩
 obtain⟨y,hy⟩:∃y,y=(enc (seed,seed) (0,epoch)).2:=⟨_,rfl⟩
 rw[<-hx,<-hy]
 have HXY:=Lib.hid (And.intro hx hy)
 have f0:=hB1.frozen 0
 have f1:=hB1.frozen 1
 have g0:w1.cell? ⟨w.heap.size,0,none⟩=some (.int .u64 0):=hB1.cell_ 0 rfl
 have g1:w1.cell? ⟨w.heap.size,1,none⟩=some (.int .u64 0):=hB1.cell_ 1 rfl
 have hl:=hB1.lt
 clear he hx hy hB hbw hb1
 go_wp2_with fail
 have hf:=(hB1.set_ 0 (.int .u64 x)).set_ 1 (.int .u64 y)
 have ra:((w1.setCell ⟨w.heap.size,0,none⟩ (.int .u64 x)).setCell ⟨w.heap.size,1,none⟩ (.int .u64 y)).cell? ⟨w.heap.size,0,none⟩=some (.int .u64 x):=hf.cell_ 0 rfl
 have rb:((w1.setCell ⟨w.heap.size,0,none⟩ (.int .u64 x)).setCell ⟨w.heap.size,1,none⟩ (.int .u64 y)).cell? ⟨w.heap.size,1,none⟩=some (.int .u64 y):=hf.cell_ 1 rfl
 refine bodyPost_ret (v:=.agg #[.int .u64 x,.int .u64 y]) (by simp[results,Tryz.results166,go_sem,ra,rb]) rfl ⟨by rw[HXY.out.1,HXY.out.2];rfl,below_only hb (only_set2 _ _ _ _ _ _) hb.size (Nat.le_refl _)⟩
end Go.Proofs.YtggmdjdflaglpaaGreat
namespace Go.Proofs.YtggmdjdflaglpaaGreat
open Go.RowKit
set_option linter.unusedVariables false
theorem OwnB.set_far {B:Nat}{w:World}{v:Value}{l:By}(h:OwnB B w v l) {g:Nat}(hg:g<B) (i:Nat) (u:Value):OwnB B (w.setCell ⟨g,i,none⟩ u) v l:=
 h.keep (fun b _ hb=>Below.heap_setCell w ⟨g,i,none⟩ u b (fun e=>by have:=(h.ge hb).1;simp only at e;omega))
theorem copied_ok (p:Nat->Prop) (off:Int) (v:Value) (l:By) (w:World) (h:HasP p w v l) (hl:l.length<=100000):
 Calls Tryz.prog 175 #[.agg #[.int .i64 off,v]] w fun e w'=>∃v',e=.returned (.agg #[.int .i64 off,v'])/\OwnB w.heap.size w' v' l/\Below w.heap.size w w':=by
 obtain⟨A,cap,rfl⟩:=h.slice
 obtain⟨n,hn⟩:∃n,n=l.length:=⟨_,rfl⟩
 rw[<-hn]at h ⊢
 have HN:=Lib.hid hn
 clear hn
 obtain⟨W,hW⟩:∃W,W=(w.alloc (.cells #[.int .i64 off,.slice A n cap] 119)).alloc (.cells #[.int .i64 0,.slice none 0 0] 119):=⟨_,rfl⟩
 have hB:Blk W w.heap.size 119 #[.int .i64 off,.slice A n cap]:=by rw[hW];exact(Blk.new w 119 _).alloc _
 have hB1:Blk W (w.heap.size+1) 119 #[.int .i64 0,.slice none 0 0]:=by
  rw[hW]
  have:=Blk.new (w.alloc (.cells #[.int .i64 off,.slice A n cap] 119)) 119 #[.int .i64 0,.slice none 0 0]
  simpa using this
 have hbw:Below w.heap.size w W:=by rw[hW];exact((Below.refl _ _).alloc (Nat.le_refl _) _).alloc (by simp) _
 have hs:W.heap.size=w.heap.size+2:=by rw[hW];simp
 have hv:HasP p W (.slice A n cap) l:=by rw[hW];exact(h.alloc _).alloc _
 have hc:=fun(W':World) (hh:HasP p W' (.slice A n cap) l)=>clone_ok p _ l W' hh (by omega)
 go_enter Tryz.func175,Tryz.ntmps175
 go_wp2_with fail
 rw[<-hW]
 clear hW h
 have hb:=hbw.drew
 replace hB:=hB.drew
 replace hB1:=hB1.drew
 replace hv:=hv.drew
 have hs':W.drew.heap.size=w.heap.size+2:=hs
 have f0:=hB1.frozen 0
 have f1:=hB1.frozen 1
 go_region_held3 (fun w'=>w'.cell? ⟨w.heap.size,0,none⟩=some (.int .i64 off)/\w'.cell? ⟨w.heap.size,1,none⟩=some (.slice A n cap))
  (first|exact⟨hB.cell_ 0 rfl,hB.cell_ 1 rfl⟩|go_keep)
  (first
   |(go_at_call 49;refine(hc _ hv).mono ?_;rintro e w1 ⟨v1,rfl,o1,l1⟩;obtain⟨A1,c1,rfl⟩:=o1.has.slice;replace hB:=hB.below_ l1;replace hB1:=hB1.below_ l1;replace hb:=hb.trans (l1.mono hb.size);have g0:=hB1.cell_ 0 rfl;have g1:=hB1.cell_ 1 rfl;have k0:=hB1.frozen 0;have k1:=hB1.frozen 1;have kl:=hB1.lt))
 go_wp2_with fail
 have hf:=(hB1.set_ 0 (.int .i64 off)).set_ 1 (.slice A1 l.length c1)
 have ra:((w1.setCell ⟨w.heap.size+1,0,none⟩ (.int .i64 off)).setCell ⟨w.heap.size+1,1,none⟩ (.slice A1 l.length c1)).cell? ⟨w.heap.size+1,0,none⟩=some (.int .i64 off):=hf.cell_ 0 rfl
 have rb:((w1.setCell ⟨w.heap.size+1,0,none⟩ (.int .i64 off)).setCell ⟨w.heap.size+1,1,none⟩ (.slice A1 l.length c1)).cell? ⟨w.heap.size+1,1,none⟩=some (.slice A1 l.length c1):=hf.cell_ 1 rfl
 have ho:=(o1.set_far (g:=w.heap.size+1) (by omega) 0 (.int .i64 off)).set_far (g:=w.heap.size+1) (by omega) 1 (.slice A1 l.length c1)
 refine bodyPost_ret (v:=.agg #[.int .i64 off,.slice A1 l.length c1]) (by simp[results,Tryz.results175,go_sem,ra,rb]) rfl ⟨_,rfl,ho.weak (by omega),below_only (g:=w.heap.size+1) hb (only_set2 _ _ _ _ _ _) hb.size (by omega)⟩
end Go.Proofs.YtggmdjdflaglpaaGreat
namespace Go.Proofs.YtggmdjdflaglpaaGreat
open Go.RowKit
set_option linter.unusedVariables false
abbrev Rl:=Nat->Nat
abbrev rImm:Nat:=1
abbrev rPow:Nat:=2
abbrev rSsd:Nat:=3
abbrev rLas:Nat:=4
abbrev rSwt:Nat:=5
abbrev rStr:Nat:=6
abbrev rDsk:Nat:=7
abbrev rDwt:Nat:=8
abbrev rDtr:Nat:=9
abbrev rCnt:Nat:=10
abbrev rKys:Nat:=11
abbrev rEpo:Nat:=12
abbrev rLck:Nat:=13
abbrev rOrc:Nat:=14
abbrev rIss:Nat:=15
abbrev rSum:Nat:=16
abbrev rWld:Nat:=17
abbrev rCch:Nat:=18
abbrev rNow:Nat:=19
abbrev rWas:Nat:=20
abbrev rMkr:Nat:=21
abbrev rAge:Nat:=22
abbrev rBox:Nat:=23
structure Ste (T:Nat->Prop) (ρ:Rl) (w:World) (ρ':Rl) (w':World):Prop where
 ch:Ch (fun i=>T (ρ i)) w w'
 old:∀i,i<w.heap.size->ρ' i=ρ i
 fresh:∀i,w'.heap.size<=i->ρ' i=0
def Fresh (ρ:Rl) (w:World):Prop:=∀i,w.heap.size<=i->ρ i=0
section
variable {T T':Nat->Prop}{ρ ρ' ρ'':Rl}{w w' w'':World}
theorem Ste.refl (T:Nat->Prop) (h:Fresh ρ w):Ste T ρ w ρ w:=⟨Ch.refl _ _,fun _ _=>rfl,h⟩
theorem Ste.size (h:Ste T ρ w ρ' w'):w.heap.size<=w'.heap.size:=h.ch.size
theorem Ste.trans (h:Ste T ρ w ρ' w') (k:Ste T ρ' w' ρ'' w''):Ste T ρ w ρ'' w'' where
 ch:=⟨k.ch.os.trans h.ch.os,k.ch.tape.trans h.ch.tape,k.ch.output.trans h.ch.output,Nat.le_trans h.ch.size k.ch.size,fun i hi hn=>
  (k.ch.keep i (Nat.lt_of_lt_of_le hi h.ch.size) (fun c=>hn (by rw[<-h.old i hi];exact c))).trans (h.ch.keep i hi hn)⟩
 old:=fun i hi=>(k.old i (Nat.lt_of_lt_of_le hi h.ch.size)).trans (h.old i hi)
 fresh:=k.fresh
theorem Ste.mono (h:Ste T ρ w ρ' w') (ht:∀r,T r->T' r):Ste T' ρ w ρ' w':=⟨h.ch.mono (fun i=>ht (ρ i)),h.old,h.fresh⟩
theorem Ste.of_below (h:Below w.heap.size w w') (hf:Fresh ρ w):Ste T ρ w ρ w':=⟨Ch.of_below h,fun _ _=>rfl,fun i hi=>hf i (Nat.le_trans h.size hi)⟩
theorem Ste.of_ch (h:Ch (fun i=>T (ρ i)) w w') (hf:Fresh ρ w):Ste T ρ w ρ w':=⟨h,fun _ _=>rfl,fun i hi=>hf i (Nat.le_trans h.size hi)⟩
theorem Ste.of_grown {g:Nat}(h:w.grownBy w' (some g)) (hg:T (ρ g)) (hf:Fresh ρ w):Ste T ρ w ρ w':=Ste.of_ch (Ch.of_grown h hg) hf
theorem Ste.below {B:Nat}(h:Ste T ρ w ρ' w') (hB:B<=w.heap.size) (hT:∀i,i<B->¬T (ρ i)):Below B w w':=⟨h.ch.os,h.ch.tape,h.ch.output,h.ch.size,fun i hi=>h.ch.keep i (by omega) (hT i hi)⟩
def Rl.set (ρ:Rl) (g r:Nat):Rl:=fun i=>if i=g then r else ρ i
theorem Rl.set_same (ρ:Rl) (g r:Nat):ρ.set g r g=r:=by simp[Rl.set]
theorem Rl.set_other (ρ:Rl) {g r i:Nat}(h:i≠g):ρ.set g r i=ρ i:=by simp[Rl.set,h]
theorem Ste.label (h:Ste T ρ w ρ' w') {g r:Nat}(hg:w.heap.size<=g) (hl:g<w'.heap.size):Ste T ρ w (ρ'.set g r) w' where
 ch:=h.ch
 old:=fun i hi=>by rw[Rl.set_other _ (by omega)];exact h.old i hi
 fresh:=fun i hi=>by rw[Rl.set_other _ (by omega)];exact h.fresh i hi
end
structure Opn where
 off:Int
 bytes:By
def OpsV (p:Nat->Prop) (w:World):List Value->List Opn->Prop
 |[],[]=>True
 |x::v::cs,o::L=>x=.int .i64 o.off/\HasP p w v o.bytes/\OpsV p w cs L
 |_,_=>False
section
variable {p:Nat->Prop}{w w':World}
theorem OpsV.len:∀{cs:List Value}{L:List Opn},OpsV p w cs L->cs.length=L.length*2
 |[],[],_=>rfl
 |x::v::cs,o::L,h=>by have:=OpsV.len h.2.2;simp;omega
 |[],_::_,h=>h.elim
 |[_],[],h=>h.elim
 |[_],_::_,h=>h.elim
 |_::_::_,[],h=>h.elim
theorem OpsV.keep:∀{cs:List Value}{L:List Opn},OpsV p w cs L->w.heap.size<=w'.heap.size->(∀b,b<w.heap.size->p b->w'.heap[b]? =w.heap[b]?)->OpsV p w' cs L
 |[],[],_,_,_=>trivial
 |x::v::cs,o::L,h,hs,hk=>⟨h.1,h.2.1.keep hs hk,OpsV.keep h.2.2 hs hk⟩
 |[],_::_,h,_,_=>h.elim
 |[_],[],h,_,_=>h.elim
 |[_],_::_,h,_,_=>h.elim
 |_::_::_,[],h,_,_=>h.elim
theorem OpsV.weak {q:Nat->Prop}(hpq:∀b,b<w.heap.size->p b->q b):∀{cs:List Value}{L:List Opn},OpsV p w cs L->OpsV q w cs L
 |[],[],_=>trivial
 |x ::v::cs,o::L,h=>⟨h.1,by
    rcases h.2.1 with h1|⟨b,o',cap,h1,h2,h3,h4⟩
    ·exact .inl h1
    ·exact .inr ⟨b,o',cap,h1,hpq b h3 h2,h3,h4⟩,OpsV.weak hpq h.2.2⟩
 |[],_::_,h=>h.elim
 |[_],[],h=>h.elim
 |[_],_::_,h=>h.elim
 |_::_::_,[],h=>h.elim
theorem OpsV.app {v:Value}{o:Opn}(hv:HasP p w v o.bytes):∀{cs:List Value}{L:List Opn},OpsV p w cs L->OpsV p w (cs++[.int .i64 o.off,v]) (L++[o])
 |[],[],_=>⟨rfl,hv,trivial⟩
 |x::u::cs,o'::L,h=>⟨h.1,h.2.1,OpsV.app hv h.2.2⟩
 |[],_::_,h=>h.elim
 |[_],[],h=>h.elim
 |[_],_::_,h=>h.elim
 |_::_::_,[],h=>h.elim
theorem OpsV.at_:∀{cs:List Value}{L:List Opn}{j:Nat}{o:Opn},OpsV p w cs L->L[j]? =some o->∃v,cs[j*2]? =some (.int .i64 o.off)/\cs[j*2+1]? =some v/\HasP p w v o.bytes
 |[],[],j,o,_,hj=>by simp at hj
 |x::v::cs,o'::L,0,o,h,hj=>by
  simp at hj
  subst hj
  exact⟨v,by rw[h.1];rfl,rfl,h.2.1⟩
 |x::v::cs,o'::L,j+1,o,h,hj=>by
  obtain⟨u,h1,h2,h3⟩:=OpsV.at_ (j:=j) h.2.2 (by simpa using hj)
  refine⟨u,?_,?_,h3⟩
  ·have e:(j+1)*2=j*2+1+1:=by omega
   rw[e];simpa using h1
  ·have e:(j+1)*2+1=j*2+1+1+1:=by omega
   rw[e];simpa using h2
 |[],_::_,_,_,h,_=>h.elim
 |[_],[],_,_,h,_=>h.elim
 |[_],_::_,_,_,h,_=>h.elim
 |_::_::_,[],_,_,h,_=>h.elim
end
def OpRow (p r:Nat->Prop) (w:World) (v:Value) (L:List Opn):Prop:=
 ∃cs,w.ownsRow 0 119 2 v L.length cs/\(∀b,v.ownBlock=some b->r b)/\OpsV p w cs L
section
variable {p r:Nat->Prop}{w w':World}{v:Value}{L:List Opn}
theorem OpRow.nil (p r:Nat->Prop) (w:World):OpRow p r w (.slice none 0 0) []:=⟨[],⟨rfl,.inl ⟨rfl,rfl⟩⟩,fun b h=>by simp[Value.ownBlock]at h,trivial⟩
theorem OpRow.keep (h:OpRow p r w v L) (hs:w.heap.size<=w'.heap.size) (hk:∀b,b<w.heap.size->(p b\/r b)->w'.heap[b]? =w.heap[b]?):OpRow p r w' v L:=by
 obtain⟨cs,⟨h1,h2⟩,h3,h4⟩:=h
 refine⟨cs,⟨h1,?_⟩,h3,h4.keep hs (fun b hb hp=>hk b hb (.inl hp))⟩
 rcases h2 with h2|⟨g,c,cur,rfl,a2,a3,a4⟩
 ·exact .inl h2
 ·exact .inr ⟨g,c,cur,rfl,a2,(hk g (Array.getElem?_eq_some_iff.1 a3).1 (.inr (h3 g rfl))).trans a3,a4⟩
theorem OpRow.weak {p' r':Nat->Prop}(h:OpRow p r w v L) (hp:∀b,b<w.heap.size->p b->p' b) (hr:∀b,b<w.heap.size->r b->r' b):OpRow p' r' w v L:=by
 obtain⟨cs,h1,h3,h4⟩:=h
 refine⟨cs,h1,fun b hb=>hr b ?_ (h3 b hb),h4.weak hp⟩
 rcases h1.2 with⟨rfl,_⟩|⟨g,c,cur,rfl,a2,a3,a4⟩
 ·simp[Value.ownBlock]at hb
 ·simp[Value.ownBlock]at hb
  subst hb
  exact(Array.getElem?_eq_some_iff.1 a3).1
theorem OpRow.form (h:OpRow p r w v L):∃A cap,v=.slice A L.length cap:=by
 obtain⟨cs,h1,_⟩:=h
 rcases h1.2 with⟨rfl,h0⟩|⟨g,c,cur,rfl,_⟩
 ·rw[h0];exact⟨_,_,rfl⟩
 ·exact⟨_,_,rfl⟩
theorem OpRow.at_ (h:OpRow p r w v L) {j:Nat}{o:Opn}(hj:L[j]? =some o):
 ∃b cap u,v=.slice (some ⟨b,0,none⟩) L.length cap/\r b/\b<w.heap.size/\w.cell? ⟨b,j*2,none⟩=some (.int .i64 o.off)/\w.cell? ⟨b,j*2+1,none⟩=some u/\HasP p w u o.bytes:=by
 obtain⟨cs,h1,h3,h4⟩:=h
 have hjl:j<L.length:=(List.getElem?_eq_some_iff.1 hj).1
 rcases h1.2 with⟨_,h0⟩|⟨g,c,cur,rfl,a2,a3,a4,a5,a6,a7⟩
 ·omega
 ·obtain⟨u,e1,e2,hu⟩:=h4.at_ hj
  refine⟨g,c,u,rfl,h3 g rfl,(Array.getElem?_eq_some_iff.1 a3).1,?_,?_,hu⟩
  ·rw[cell_of_row w g _ cur 119 (0,0) a3]
   rw[<-a7,List.getElem?_take,if_pos (by omega)]at e1
   simpa using e1
  ·rw[cell_of_row w g _ cur 119 (0,0) a3]
   rw[<-a7,List.getElem?_take,if_pos (by omega)]at e2
   simpa using e2
end
end Go.Proofs.YtggmdjdflaglpaaGreat
namespace Go.Proofs.YtggmdjdflaglpaaGreat
open Go.RowKit
set_option linter.unusedVariables false
structure Ssd where
 lasts:By
 waits:List Opn
 cnt:Nat
def Opn.in_ (o:Opn) (n:Nat):Prop:=0<=o.off/\o.off+o.bytes.length<=n/\o.bytes≠[]
def SsdR (ρ:Rl) (w:World) (p s:Nat) (S:Ssd):Prop:=
 ∃(bl:Nat) (vW vT:Value) (T:List Opn),Blk w s 116 #[.pointer (some ⟨p,0,none⟩),.slice (some ⟨bl,0,none⟩) S.lasts.length S.lasts.length,vW,vT]/\ρ s=rSsd/\
  Blk w bl 5 (bvals S.lasts).toArray/\ρ bl=rLas/\OpRow (ρ · =rImm) (ρ · =rSwt) w vW S.waits/\OpRow (ρ · =rImm) (ρ · =rStr) w vT T/\
  T.length<=S.cnt/\S.waits.length<=S.cnt/\S.lasts.length<=65536/\∀o∈S.waits,o.in_ S.lasts.length
def rsSsd (r:Nat):Prop:=r=rImm\/r=rSsd\/r=rLas\/r=rSwt\/r=rStr
theorem SsdR.keep {ρ ρ':Rl}{w w':World}{p s:Nat}{S:Ssd}(h:SsdR ρ w p s S) (hs:w.heap.size<=w'.heap.size) (hk:∀b,b<w.heap.size->rsSsd (ρ b)->w'.heap[b]? =w.heap[b]? /\ρ' b=ρ b):SsdR ρ' w' p s S:=by
 obtain⟨bl,vW,vT,T,h1,h2,h3,h4,h5,h6,h7⟩:=h
 have k1:=hk s h1.lt (by rw[h2];simp[rsSsd])
 have k2:=hk bl h3.lt (by rw[h4];simp[rsSsd])
 refine⟨bl,vW,vT,T,k1.1.trans h1,k1.2.trans h2,k2.1.trans h3,k2.2.trans h4,?_,?_,h7⟩
 ·refine(h5.weak (p':=fun b=>ρ b=rImm/\ρ' b=rImm) (r':=fun b=>ρ b=rSwt/\ρ' b=rSwt) (fun b hb e=>⟨e,(hk b hb (by rw[e];simp[rsSsd])).2.trans e⟩) (fun b hb e=>⟨e,(hk b hb (by rw[e];simp[rsSsd])).2.trans e⟩)).keep hs (fun b hb e=>(hk b hb ?_).1) |>.weak (fun b _ e=>e.2) (fun b _ e=>e.2)
  rcases e with e|e<;>rw[e.1]<;>simp[rsSsd]
 ·refine(h6.weak (p':=fun b=>ρ b=rImm/\ρ' b=rImm) (r':=fun b=>ρ b=rStr/\ρ' b=rStr) (fun b hb e=>⟨e,(hk b hb (by rw[e];simp[rsSsd])).2.trans e⟩) (fun b hb e=>⟨e,(hk b hb (by rw[e];simp[rsSsd])).2.trans e⟩)).keep hs (fun b hb e=>(hk b hb ?_).1) |>.weak (fun b _ e=>e.2) (fun b _ e=>e.2)
  rcases e with e|e<;>rw[e.1]<;>simp[rsSsd]
theorem SsdR.lt {ρ:Rl}{w:World}{p s:Nat}{S:Ssd}(h:SsdR ρ w p s S):s<w.heap.size:=by obtain⟨_,_,_,_,h1,_⟩:=h;exact h1.lt
theorem SsdR.role {ρ:Rl}{w:World}{p s:Nat}{S:Ssd}(h:SsdR ρ w p s S):ρ s=rSsd:=by obtain⟨_,_,_,_,_,h1,_⟩:=h;exact h1
theorem size_ok (ρ:Rl) (p s:Nat) (S:Ssd) (w:World) (h:SsdR ρ w p s S):Calls Tryz.prog 80 #[.pointer (some ⟨s,0,none⟩)] w fun e w'=>e=.returned (.int .i64 S.lasts.length)/\w=w':=by
 obtain⟨bl,vW,vT,T,h1,_⟩:=h
 have c1:=h1.cell_ 1 rfl
 have hl:=h1.lt
 clear h1
 go_enter Tryz.func80,Tryz.ntmps80
 go_wp2_with fail
 go_ret
 exact⟨rfl,rfl⟩
theorem sis_ok (ρ:Rl) (p s:Nat) (S:Ssd) (off n:Int) (w:World) (h:SsdR ρ w p s S) (h0:0<=off) (h1:0<=n) (h2:off+n<=S.lasts.length) (hb:S.lasts.length<=65536):
 Calls Tryz.prog 46 #[.pointer (some ⟨s,0,none⟩),.int .i64 off,.int .i64 n] w fun e w'=>e=.returned (.bool true)/\w=w':=by
 have hs:=size_ok ρ p s S w h
 obtain⟨m,hm⟩:∃m,m=S.lasts.length:=⟨_,rfl⟩
 rw[<-hm]at hs h2 hb
 have h3:off<=(m:Int):=by omega
 have h4:n<=(m:Int)-off:=by omega
 clear h hm
 go_enter Tryz.func46,Tryz.ntmps46
 go_wp2_with fail
 refine hs.mono ?_
 rintro e w1 ⟨rfl,rfl⟩
 go_wp2_with fail
 refine hs.mono ?_
 rintro e w1 ⟨rfl,rfl⟩
 go_wp2_with fail
 go_ret
 exact⟨rfl,rfl⟩
end Go.Proofs.YtggmdjdflaglpaaGreat
namespace Go.Proofs.YtggmdjdflaglpaaGreat
open Go.RowKit
set_option linter.unusedVariables false
theorem info119:(Tryz.prog.info? 119).map (fun i=>(i.zero,i.size,i.bytes))=some (some (.agg #[.int .i64 0,.slice none 0 0]),2,32):=by kernel_rfl
theorem cell_two_new (w:World) (a b:Value) (t:TypeId):∀(j:Nat) (u:Value),[a,b][j]? =some u->(w.alloc (.cells #[a,b] t)).cell? ((⟨w.heap.size,0,none⟩:Addr).add j)=some u:=fun j u h=>by
 rw[add_plain,World.cell?_alloc_new,Nat.zero_add]
 simpa using h
theorem row_keep {B:Nat}{e:TypeId}{z n:Nat}{w w':World}{v:Value}{xs:List Value}(h:w.ownsRow B e z v n xs) (hk:∀b,b<w.heap.size->v.ownBlock=some b->w'.heap[b]? =w.heap[b]?):w'.ownsRow B e z v n xs:=by
 obtain⟨h1,h2⟩:=h
 refine⟨h1,?_⟩
 rcases h2 with h2|⟨r,c,cur,rfl,a2,a3,a4⟩
 ·exact .inl h2
 ·exact .inr ⟨r,c,cur,rfl,a2,(hk r (Array.getElem?_eq_some_iff.1 a3).1 rfl).trans a3,a4⟩
theorem row_lt {B:Nat}{e:TypeId}{z n:Nat}{w:World}{v:Value}{xs:List Value}(h:w.ownsRow B e z v n xs) {b:Nat}(hb:v.ownBlock=some b):b<w.heap.size:=by
 rcases h.2 with⟨rfl,_⟩|⟨r,c,cur,rfl,a2,a3,a4⟩
 ·simp[Value.ownBlock]at hb
 ·simp[Value.ownBlock]at hb
  subst hb
  exact(Array.getElem?_eq_some_iff.1 a3).1
theorem OpRow.push {ρ:Rl}{r:Nat}{W W':World}{v v' u:Value}{L:List Opn}{cs:List Value}{o:Opn}(hr:r≠rImm) (h0:r≠0) (hrow:W.ownsRow 0 119 2 v L.length cs) (hrole:∀b,v.ownBlock=some b->ρ b=r) (hops:OpsV (ρ · =rImm) W cs L)
 (hu:HasP (fun b=>ρ b=0) W u o.bytes) (hnew:W'.ownsRow 0 119 2 v' (L.length+1) (cs++[.int .i64 o.off,u])) (hg:W.grownBy W' v.ownBlock) (hor:v'.ownBlock=v.ownBlock\/v'.ownBlock=some W.heap.size) (hf:Fresh ρ W):
 ∃ρ',(∀b,ρ b≠0->ρ' b=ρ b)/\(∀b,ρ' b≠ρ b->(ρ' b=rImm/\u.ownBlock=some b)\/(ρ' b=r/\b=W.heap.size))/\Fresh ρ' W'/\OpRow (ρ' · =rImm) (ρ' · =r) W' v' (L++[o]):=by
 obtain⟨ρ1,k1,k2,k3,k4⟩:∃ρ1:Rl,(∀b,ρ b≠0->ρ1 b=ρ b)/\(∀b,ρ1 b≠ρ b->ρ1 b=rImm/\u.ownBlock=some b)/\Fresh ρ1 W/\HasP (ρ1 · =rImm) W u o.bytes:=by
  rcases hu with⟨rfl,he⟩|⟨b,q,c,hv,h1,h2,h3,h4,h5⟩
  ·exact⟨ρ,fun _ _=>rfl,fun b hb=>absurd rfl hb,hf,.inl ⟨rfl,he⟩⟩
  ·refine⟨ρ.set b rImm,fun x hx=>Rl.set_other _ (fun e=>hx (by rw[e];exact h1)),fun x hx=>?_,fun i hi=>?_,.inr ⟨b,q,c,hv,Rl.set_same _ _ _,h2,h3,h4,h5⟩⟩
   ·by_cases e:x=b
    ·subst e
     exact⟨Rl.set_same _ _ _,by rw[hv];rfl⟩
    ·exact absurd (Rl.set_other _ e) hx
   ·rw[Rl.set_other _ (by omega)];exact hf i hi
 have hsz:=hg.size
 have hops1:OpsV (ρ1 · =rImm) W cs L:=hops.weak (fun b hb e=>(k1 b (by rw[e];decide)).trans e)
 have hold:∀b,b<W.heap.size->ρ1 b=rImm->W'.heap[b]? =W.heap[b]? :=fun b hb e=>hg.block b hb (fun c=>by
  have:=hrole b c.symm
  have h2:=k1 b (by rw[this];exact h0)
  rw[e,this]at h2
  exact hr h2.symm)
 have hops2:OpsV (ρ1 · =rImm) W' (cs++[.int .i64 o.off,u]) (L++[o]):=OpsV.app (k4.keep hsz hold) (hops1.keep hsz hold)
 rcases hor with hor|hor
 ·refine⟨ρ1,k1,fun b hb=>.inl (k2 b hb),fun i hi=>k3 i (by omega),cs++[.int .i64 o.off,u],by simpa using hnew,fun b hb=>?_,hops2⟩
  rw[hor]at hb
  rw[k1 b (by rw[hrole b hb];exact h0)]
  exact hrole b hb
 ·have hlt:W.heap.size<W'.heap.size:=row_lt hnew hor
  refine⟨ρ1.set W.heap.size r,fun x hx=>?_,fun x hx=>?_,fun i hi=>?_,cs++[.int .i64 o.off,u],by simpa using hnew,fun b hb=>?_,?_⟩
  ·by_cases e:x=W.heap.size
   ·exact absurd (hf x (by omega)) hx
   ·rw[Rl.set_other _ e];exact k1 x hx
  ·by_cases e:x=W.heap.size
   ·subst e;exact .inr ⟨Rl.set_same _ _ _,rfl⟩
   ·rw[Rl.set_other _ e]at hx ⊢
    exact .inl (k2 x hx)
  ·rw[Rl.set_other _ (by omega)];exact k3 i (by omega)
  ·rw[hor]at hb
   injection hb with hb
   rw[<-hb]
   exact Rl.set_same _ _ _
  ·refine hops2.weak (fun b hb e=>?_)
   by_cases c:b=W.heap.size
   ·subst c
    have:=k3 W.heap.size (Nat.le_refl _)
    rw[this]at e
    exact absurd e (by decide)
   ·show ρ1.set W.heap.size r b=rImm
    rw[Rl.set_other _ c]
    exact e
theorem Ste.of_push {X:Nat->Prop}{ρ ρ':Rl}{w W Wb W4:World}(hst:Ste X ρ w ρ W) (hb:Below W.heap.size W Wb) (k2:∀b,ρ' b≠ρ b->W.heap.size<=b) (k3:Fresh ρ' W4) (hch:Ch (fun i=>X (ρ i)) Wb W4):Ste X ρ w ρ' W4 where
 ch:=(hst.ch.trans (Ch.of_below hb |>.mono (fun _ h=>h))).trans hch
 old:=fun i hi=>by
  by_cases e:ρ' i=ρ i
  ·exact e
  ·have:=k2 i e
   have:=hst.size
   omega
 fresh:=k3
def rtDev (r:Nat):Prop:=r=rPow\/r=rSsd\/r=rSwt\/r=rStr
theorem SsdR.pushW {ρ:Rl}{W W':World}{p s bl:Nat}{S:Ssd}{v vT v' u:Value}{T:List Opn}{cs:List Value}{o:Opn}
 (h1:Blk W s 116 #[.pointer (some ⟨p,0,none⟩),.slice (some ⟨bl,0,none⟩) S.lasts.length S.lasts.length,v,vT]) (h2:ρ s=rSsd) (h3:Blk W bl 5 (bvals S.lasts).toArray) (h4:ρ bl=rLas)
 (hrow:W.ownsRow 0 119 2 v S.waits.length cs) (hrole:∀b,v.ownBlock=some b->ρ b=rSwt) (hops:OpsV (ρ · =rImm) W cs S.waits) (h6:OpRow (ρ · =rImm) (ρ · =rStr) W vT T)
 (h7:T.length<=S.cnt/\S.waits.length<=S.cnt/\S.lasts.length<=65536/\∀o∈S.waits,o.in_ S.lasts.length)
 (hin:o.in_ S.lasts.length) (hu:HasP (fun b=>ρ b=0) W u o.bytes) (hnew:W'.ownsRow 0 119 2 v' (S.waits.length+1) (cs++[.int .i64 o.off,u])) (hg:W.grownBy W' v.ownBlock)
 (hor:v'.ownBlock=v.ownBlock\/v'.ownBlock=some W.heap.size) (hf:Fresh ρ W):
 ∃ρ',(∀b,ρ b≠0->ρ' b=ρ b)/\(∀b,ρ' b≠ρ b->u.ownBlock=some b\/b=W.heap.size)/\Fresh ρ' (W'.setCell ⟨s,2,none⟩ v')/\SsdR ρ' (W'.setCell ⟨s,2,none⟩ v') p s ⟨S.lasts,S.waits++[o],S.cnt+1⟩/\
  Ch (fun i=>rtDev (ρ i)) W (W'.setCell ⟨s,2,none⟩ v'):=by
 obtain⟨ρ',k1,k2,k3,k4⟩:=OpRow.push (r:=rSwt) (by decide) (by decide) hrow hrole hops hu hnew hg hor hf
 have hch:Ch (fun i=>rtDev (ρ i)) W (W'.setCell ⟨s,2,none⟩ v'):=by
  refine Ch.trans (w':=W') ⟨hg.os,hg.tape,hg.output,hg.size,fun i hi hn=>hg.block i hi (fun e=>hn ?_)⟩ ⟨rfl,rfl,rfl,by simp[World.setCell],fun i hi hn=>Below.heap_setCell W' _ v' i (fun e=>hn ?_)⟩
  ·rw[hrole i e.symm];simp[rtDev]
  ·simp only at e;rw[e,h2];simp[rtDev]
 have hsz:=hch.size
 have hsne:some s≠v.ownBlock:=fun e=>by
  have:=hrole s e.symm
  rw[h2]at this
  exact absurd this (by decide)
 have hlne:some bl≠v.ownBlock:=fun e=>by
  have:=hrole bl e.symm
  rw[h4]at this
  exact absurd this (by decide)
 have hls:bl≠s:=fun e=>by
  rw[e,h2]at h4
  exact absurd h4 (by decide)
 have hset:∀i,ρ' i≠rSsd->(W'.setCell ⟨s,2,none⟩ v').heap[i]? =W'.heap[i]? :=fun i hi=>Below.heap_setCell W' _ v' i (fun e=>hi (by simp only at e;rw[e,k1 s (by rw[h2];decide)];exact h2))
 refine⟨ρ',k1,fun b hb=>?_,fun i hi=>k3 i (by simpa[World.setCell]using hi),⟨bl,v',vT,T,?_,(k1 s (by rw[h2];decide)).trans h2,?_,(k1 bl (by rw[h4];decide)).trans h4,?_,?_,?_,?_,h7.2.2.1,?_⟩,hch⟩
 ·rcases k2 b hb with⟨_,h⟩|⟨_,h⟩
  ·exact .inl h
  ·exact .inr h
 ·exact(h1.grown hg hsne).set_to 2 v' rfl
 ·exact(h3.grown hg hlne).far (p:=⟨s,2,none⟩) hls v'
 ·refine k4.keep (by simp[World.setCell]) (fun b hb e=>hset b ?_)
  rcases e with e|e<;>rw[e]<;>decide
 ·have h6':OpRow (fun b=>ρ b=rImm/\b<W.heap.size) (fun b=>ρ b=rStr/\b<W.heap.size) W vT T:=h6.weak (fun b hb e=>⟨e,hb⟩) (fun b hb e=>⟨e,hb⟩)
  refine(h6'.keep hsz (fun b hb e=>?_)).weak (fun b _ e=>(k1 b (by rw[e.1];decide)).trans e.1) (fun b _ e=>(k1 b (by rw[e.1];decide)).trans e.1)
  have hr:ρ b≠0/\ρ b≠rSsd/\ρ b≠rSwt:=by rcases e with e|e<;>rw[e.1]<;>decide
  exact(hset b (by rw[k1 b hr.1];exact hr.2.1)).trans (hg.block b hb (fun c=>hr.2.2 (hrole b c.symm)))
 ·have:=h7.1;simp only;omega
 ·have:=h7.2.1;simp only[List.length_append,List.length_singleton];omega
 ·intro o' ho'
  rcases List.mem_append.1 ho' with h|h
  ·exact h7.2.2.2 o' h
  ·rw[List.mem_singleton.1 h];exact hin
theorem SsdR.pushT {ρ:Rl}{W W':World}{p s bl:Nat}{S:Ssd}{v vT v' u:Value}{T:List Opn}{cs:List Value}{o:Opn}
 (h1:Blk W s 116 #[.pointer (some ⟨p,0,none⟩),.slice (some ⟨bl,0,none⟩) S.lasts.length S.lasts.length,vT,v]) (h2:ρ s=rSsd) (h3:Blk W bl 5 (bvals S.lasts).toArray) (h4:ρ bl=rLas)
 (hrow:W.ownsRow 0 119 2 v T.length cs) (hrole:∀b,v.ownBlock=some b->ρ b=rStr) (hops:OpsV (ρ · =rImm) W cs T) (h6:OpRow (ρ · =rImm) (ρ · =rSwt) W vT S.waits)
 (h7:T.length<=S.cnt/\S.waits.length<=S.cnt/\S.lasts.length<=65536/\∀o∈S.waits,o.in_ S.lasts.length)
 (hu:HasP (fun b=>ρ b=0) W u o.bytes) (hnew:W'.ownsRow 0 119 2 v' (T.length+1) (cs++[.int .i64 o.off,u])) (hg:W.grownBy W' v.ownBlock)
 (hor:v'.ownBlock=v.ownBlock\/v'.ownBlock=some W.heap.size) (hf:Fresh ρ W):
 ∃ρ',(∀b,ρ b≠0->ρ' b=ρ b)/\(∀b,ρ' b≠ρ b->u.ownBlock=some b\/b=W.heap.size)/\Fresh ρ' (W'.setCell ⟨s,3,none⟩ v')/\SsdR ρ' (W'.setCell ⟨s,3,none⟩ v') p s ⟨S.lasts,S.waits,S.cnt+1⟩/\
  Ch (fun i=>rtDev (ρ i)) W (W'.setCell ⟨s,3,none⟩ v'):=by
 obtain⟨ρ',k1,k2,k3,k4⟩:=OpRow.push (r:=rStr) (by decide) (by decide) hrow hrole hops hu hnew hg hor hf
 have hch:Ch (fun i=>rtDev (ρ i)) W (W'.setCell ⟨s,3,none⟩ v'):=by
  refine Ch.trans (w':=W') ⟨hg.os,hg.tape,hg.output,hg.size,fun i hi hn=>hg.block i hi (fun e=>hn ?_)⟩ ⟨rfl,rfl,rfl,by simp[World.setCell],fun i hi hn=>Below.heap_setCell W' _ v' i (fun e=>hn ?_)⟩
  ·rw[hrole i e.symm];simp[rtDev]
  ·simp only at e;rw[e,h2];simp[rtDev]
 have hsz:=hch.size
 have hsne:some s≠v.ownBlock:=fun e=>by
  have:=hrole s e.symm
  rw[h2]at this
  exact absurd this (by decide)
 have hlne:some bl≠v.ownBlock:=fun e=>by
  have:=hrole bl e.symm
  rw[h4]at this
  exact absurd this (by decide)
 have hls:bl≠s:=fun e=>by
  rw[e,h2]at h4
  exact absurd h4 (by decide)
 have hset:∀i,ρ' i≠rSsd->(W'.setCell ⟨s,3,none⟩ v').heap[i]? =W'.heap[i]? :=fun i hi=>Below.heap_setCell W' _ v' i (fun e=>hi (by simp only at e;rw[e,k1 s (by rw[h2];decide)];exact h2))
 refine⟨ρ',k1,fun b hb=>?_,fun i hi=>k3 i (by simpa[World.setCell]using hi),⟨bl,vT,v',T++[o],?_,(k1 s (by rw[h2];decide)).trans h2,?_,(k1 bl (by rw[h4];decide)).trans h4,?_,?_,?_,?_,h7.2.2.1,h7.2.2.2⟩,hch⟩
 ·rcases k2 b hb with⟨_,h⟩|⟨_,h⟩
  ·exact .inl h
  ·exact .inr h
 ·exact(h1.grown hg hsne).set_to 3 v' rfl
 ·exact(h3.grown hg hlne).far (p:=⟨s,3,none⟩) hls v'
 ·have h6':OpRow (fun b=>ρ b=rImm/\b<W.heap.size) (fun b=>ρ b=rSwt/\b<W.heap.size) W vT S.waits:=h6.weak (fun b hb e=>⟨e,hb⟩) (fun b hb e=>⟨e,hb⟩)
  refine(h6'.keep hsz (fun b hb e=>?_)).weak (fun b _ e=>(k1 b (by rw[e.1];decide)).trans e.1) (fun b _ e=>(k1 b (by rw[e.1];decide)).trans e.1)
  have hr:ρ b≠0/\ρ b≠rSsd/\ρ b≠rStr:=by rcases e with e|e<;>rw[e.1]<;>decide
  exact(hset b (by rw[k1 b hr.1];exact hr.2.1)).trans (hg.block b hb (fun c=>hr.2.2 (hrole b c.symm)))
 ·refine k4.keep (by simp[World.setCell]) (fun b hb e=>hset b ?_)
  rcases e with e|e<;>rw[e]<;>decide
 ·have:=h7.1;simp only[List.length_append,List.length_singleton];omega
 ·have:=h7.2.1;simp only;omega
end Go.Proofs.YtggmdjdflaglpaaGreat
