/- Numbers as bytes. -/
import Derived.Test.YtggmdjdflaglpaaGreatR02
import Derived.Laws.MakeOwn
import Derived.Deep.RegionHeld3
import Derived.Deep.WholeRow
import Derived.BigRegion
namespace Go.Proofs.YtggmdjdflaglpaaGreat
open Go.RowKit
set_option linter.unusedVariables false
def byteOf (v:Int) (n i:Nat):UInt8:=UInt8.ofNat (v.toNat / 2^(8*(n-1-i))%256)
def putB (v:Int) (n:Nat):By:=(List.range n).map (byteOf v n)
theorem putB_len (v:Int) (n:Nat):(putB v n).length=n:=by simp[putB]
def part (v:Int) (n i:Nat):By:=(List.range n).map (fun j=>if j<i then byteOf v n j else 0)
theorem part_len (v:Int) (n i:Nat):(part v n i).length=n:=by simp[part]
theorem part_zero (v:Int) (n:Nat):part v n 0=List.replicate n 0:=by
 unfold part
 apply List.ext_getElem?
 intro j
 simp only[List.getElem?_map,List.getElem?_replicate]
 by_cases h:j<n
 ·simp[h]
 ·simp[h]
theorem part_end (v:Int) (n:Nat):part v n n=putB v n:=by
 unfold part putB
 refine List.map_congr_left fun j hj=>?_
 rw[if_pos (List.mem_range.1 hj)]
theorem part_set (v:Int) (n i:Nat) (hi:i<n):(bvals (part v n i)).toArray.setIfInBounds i (.int .u8 ((byteOf v n i).toNat:Int))=(bvals (part v n (i+1))).toArray:=by
 rw[List.setIfInBounds_toArray]
 congr 1
 apply List.ext_getElem?
 intro j
 rw[List.getElem?_set]
 by_cases e:i=j
 ·subst e
  rw[if_pos rfl,if_pos (by rw[bvals_len,part_len];exact hi),bvals_at]
  simp[part,hi]
 ·rw[if_neg e,bvals_at,bvals_at]
  simp only[part,List.getElem?_map]
  by_cases hj:j<n
  ·simp[hj]
   by_cases c:j<i
   ·simp[c,show j<i+1 by omega]
   ·simp[c,show ¬j<i+1 by omega]
  ·simp[hj]
theorem byteOf_int (v:Int) (n i:Nat) (h0:0<=v):((byteOf v n i).toNat:Int)=v / 2^(8*(n-1-i))%256:=by
 obtain⟨m,rfl⟩:=Int.eq_ofNat_of_zero_le h0
 unfold byteOf
 rw[UInt8.toNat_ofNat',Int.toNat_natCast]
 have e:(m / 2^(8*(n-1-i))%256)%2^8=m / 2^(8*(n-1-i))%256:=Nat.mod_eq_of_lt (Nat.mod_lt _ (by decide))
 rw[e,Int.natCast_emod,Int.natCast_ediv,Int.natCast_pow]
 rfl
theorem made_bytes (n:Nat):madeCells (Value.int .u8 0).cells (n*1)=(bvals (List.replicate n 0)).toArray:=by
 apply Array.ext
 ·simp[madeCells,bvals]
 ·intro i h1 h2
  simp[madeCells,bvals,Value.cells,Nat.mod_one]
theorem make_bytes (n:Nat) (hn:n<=140737488355328) (w:World):(Instr.makeSlice 32 (.int .i64 (n:Int)) (.int .i64 (n:Int))).run Tryz.prog w=.ok (.slice (some ⟨w.heap.size,0,none⟩) n n) (w.alloc (.cells (bvals (List.replicate n 0)).toArray 5)):=by
 obtain⟨i0,hi,hz0,hz1,hz2⟩:=info_parts info5
 have h:=run_make (P:=Tryz.prog) w 32 5 i0 (.int .u8 0) Tryz.underlying32 hi hz0 .i64 .i64 n n (by omega) (by omega) (by rw[hz2];omega) (by omega)
 rw[hz1]at h
 simp only[Int.toNat_natCast]at h
 rw[made_bytes]at h
 exact h
set_option maxHeartbeats 1000000 in
theorem put_ok (v:Int) (n:Nat) (w:World) (hn:1<=n/\n<=8) (h0:0<=v) (h1:v<18446744073709551616):
 Calls Tryz.prog 87 #[.int .u64 v,.int .i64 n] w fun e w'=>∃v',e=.returned v'/\OwnB w.heap.size w' v' (putB v n)/\Below w.heap.size w w':=by
 have t1:decide ((n:Int)<1)=false:=by simp;omega
 have t2:decide ((8:Int)<(n:Int))=false:=by simp;omega
 have hm:=fun W=>make_bytes n (by omega) W
 obtain⟨n1,n8⟩:=hn
 rw[<-part_zero v n]at hm
 have hst:∀W:World,Blk (W.alloc (.cells (bvals (part v n 0)).toArray 5)) W.heap.size 5 (bvals (part v n 0)).toArray:=fun W=>Blk.new W 5 _
 go_enter Tryz.func87,Tryz.ntmps87
 go_wp2_with fail
 clear hm
 go_loopw [6,17] (fun _ t wr=>∃i:Nat,t=.int .i64 i/\i<=n/\Blk wr w.heap.size 5 (bvals (part v n i)).toArray/\Below w.heap.size w wr) (fun _ t _=>n-(intOf t).toNat)
 case atStart=>exact⟨0,rfl,by omega,hst w,(Below.refl _ w).alloc (Nat.le_refl _) _⟩
 case round=>
  obtain⟨i,rfl,hi,hB,hb⟩:=hrel
  by_cases hlt:i<n
  ·have i0:(0:Int)<=(i:Int):=by omega
   have i1:(i:Int)<(n:Int):=by omega
   have hf:=hB.frozen i
   have hl:=hB.lt
   have hcell:wr.cell? ⟨w.heap.size,i,none⟩=some (.int .u8 0):=hB.cell_ i (by rw[List.getElem?_toArray,bvals_at];simp[part,hlt])
   go_wp2_with fail
   have hby:((byteOf v n i).toNat:Int)=v / 2^(8*(n-1-i))%256:=byteOf_int v n i h0
   rw[<-hby]
   go_roundw
   case rel=>exact⟨i+1,by go_num,by omega,hB.set_to i _ (part_set v n i hlt),below_only hb (only_setCell (only_refl _ _) (.inl rfl) _) hb.size (Nat.le_refl _)⟩
   case measure=>simp[intOf];omega
  ·obtain rfl:i=n:=by omega
   have hd:decide ((i:Int)<(i:Int))=false:=by simp
   rw[part_end]at hB
   go_wp2_with fail
   go_ret
   have:=OwnB.of_blk (B:=w.heap.size) hB (by rw[putB_len];unfold maxLen;omega) (Nat.le_refl _)
   rw[putB_len]at this
   exact⟨_,rfl,this,hb⟩
section
variable {P:Program}{w:World}
theorem step_append_own {ops:Array Oper}{o:Oper}{a:Act}{K:Act->World->Prop}{Q:Exit->Act->World->Prop}{E:Prop}(hgd:o.guard=none) (s x:Operand) (t:TypeId)
 (ho:o.op=.call {callee:=.builtin .append,args:=#[s,x],argTypes:=#[t,t]})
 (base:Nat) (e:TypeId) (i:TypeInfo) (z:Value) (size bytes:Nat) (ht:P.underlying t=some (.slice e)) (hi:P.info? e=some i) (hz:i.zero=some z)
 (hsize:i.size=size) (hby:i.bytes=bytes) (hzs:z.cells.size=size) (hsz:0<size)
 (v:Value) (n:Nat) (xs:List Value) (hs:a.eval s=v) (hown:w.ownsRow base e size v n xs)
 (ad:Addr) (m c:Nat) (news:List Value) (hx:a.eval x=.slice (some ad) m c) (hl:news.length=m*size) (hnews:∀j u,news[j]? =some u->w.cell? (ad.add j)=some u) (h1:∀u∈news,u.oneCell'=true)
 (h63:n+m<=maxLen) (hbytes:(n+m)*bytes<=140737488355328) (hbase:base<=w.heap.size)
 (h:∀v' w',w'.ownsRow base e size v' (n+m) (xs++news)->w.grownBy w' v.ownBlock->(v'.ownBlock=v.ownBlock\/v'.ownBlock=some w.heap.size)->K (a.put o.dst v') w'):
 if Region.wanted o (yielded ops a.tmps)=true then Oper.wp P o a w K Q else E:=by
 have hw:Region.wanted o (yielded ops a.tmps)=true:=by simp[Region.wanted,hgd]
 rw[if_pos hw]
 obtain⟨v',w',hr,h2,h3,h4,h5⟩:=run_append_own_at (P:=P) w base t o.type e i z size bytes ht hi hz hsize hby hzs hsz v n xs hown ad m c news hl hnews h1 h63 hbytes hbase
 unfold Oper.wp execOp
 simp only[ho,resolve,invoke,builtin,Sem.run_bind,Sem.run_pure,Result.andThen_ok,List.map_toArray,List.map_cons,List.map_nil,hs,hx,hr]
 exact h v' w' h2 h3 h5
end
theorem HasP.eight {q:Nat->Prop}{w:World}{v:Value}{l:By}{n:Nat}(h:HasP q w v l) (hn:l.length=n) (h0:0<n):
 ∃b o cap,v=.slice (some ⟨b,o,none⟩) n cap/\q b/\b<w.heap.size/\n<=cap/\cap<=maxLen/\∀(j:Nat) (u:UInt8),l[j]? =some u->w.cell? ⟨b,o+j,none⟩=some (.int .u8 (u.toNat:Int)):=by
 subst hn
 exact h.spot (by intro e;rw[e]at h0;simp at h0)
theorem put_lit (v:Int) (n:Nat) (k:Int) (hk:k=n) (w:World) (hn:1<=n/\n<=8) (h0:0<=v) (h1:v<18446744073709551616):
 Calls Tryz.prog 87 #[.int .u64 v,.int .i64 k] w fun e w'=>∃v',e=.returned v'/\OwnB w.heap.size w' v' (putB v n)/\Below w.heap.size w w':=by
 subst hk
 exact put_ok v n w hn h0 h1
def pairB (a b:Int):By:=putB a 8++putB b 8
theorem pairB_len (a b:Int):(pairB a b).length=16:=by simp[pairB,putB_len]
set_option maxRecDepth 100000 in
theorem bytes_ok (a b:Int) (w:World) (a0:0<=a) (a1:a<18446744073709551616) (b0:0<=b) (b1:b<18446744073709551616):
 Calls Tryz.prog 124 #[.agg #[.int .u64 a,.int .u64 b]] w fun e w'=>∃v',e=.returned v'/\OwnB w.heap.size w' v' (pairB a b)/\Below w.heap.size w w':=by
 obtain⟨i0,hi,hz0,hz1,hz2⟩:=info_parts info5
 obtain⟨W,hW⟩:∃W,W=w.alloc (.cells #[.int .u64 a,.int .u64 b] 101):=⟨_,rfl⟩
 have hB:Blk W w.heap.size 101 #[.int .u64 a,.int .u64 b]:=by rw[hW];exact Blk.new w 101 _
 have hbw:Below w.heap.size w W:=by rw[hW];exact(Below.refl _ _).alloc (Nat.le_refl _) _
 go_enter Tryz.func124,Tryz.ntmps124
 go_wp2_with fail
 rw[<-hW]
 have hb:=hbw.drew
 replace hB:=hB.drew
 clear hW hbw
 go_region_held3 (fun w'=>w'.cell? ⟨w.heap.size,0,none⟩=some (.int .u64 a)/\w'.cell? ⟨w.heap.size,1,none⟩=some (.int .u64 b))
  (exact⟨hB.cell_ 0 rfl,hB.cell_ 1 rfl⟩)
  (first
   |(refine step_append_own (by rfl) _ _ _ (by rfl) (w.heap.size+1) 5 i0 _ 1 1 Tryz.underlying32 hi hz0 hz1 hz2 rfl (by omega) _ (putB a 8).length (bvals (putB a 8)) (by rfl) oA ⟨b1,q1,none⟩ 8 c1 (bvals (putB b 8)) (by rfl) (by rw[bvals_len,putB_len]) (ex_slice (fun _=>True) _ b1 q1 c1 _ hc1) (bvals_one _) (by rw[putB_len];unfold maxLen;omega) (by rw[putB_len];omega) (Nat.succ_le_of_lt hB.lt) ?_;intro v2 w2 hown2 hgrow2 _;replace hb:=hb.grown hgrow2 hb.size (fun k hk=>by have:=(oA.ge hk).1;omega);replace hB:=hB.grown hgrow2 (fun e=>by have:=(oA.ge e.symm).1;omega))
   |(go_at_call 87;refine(put_lit _ 8 8 rfl _ (by omega) (by omega) (by omega)).mono ?_;rintro e w1 ⟨v1,rfl,o1,l1⟩;obtain⟨b1,q1,c1,rfl,_,hlt1,_,_,hc1⟩:=o1.has.eight (putB_len _ _) (by omega);replace o1:=o1.weak (Nat.succ_le_of_lt hB.lt);replace hB:=hB.below_ l1;first|(have oB:=o1;replace oA:=oA.below_ l1;replace hb:=hb.trans (l1.mono hb.size))|(have oA:=o1;replace hb:=hb.trans (l1.mono hb.size))))
 have hfin:OwnB w.heap.size w2 v2 (pairB a b):=(OwnB.of hown2 (by simp[pairB,putB_len]) (by unfold pairB;rw[bvals_app])).weak (by omega)
 clear hown2 oA oB hB
 go_wp2_with fail
 go_ret
 exact⟨_,rfl,hfin,hb⟩
end Go.Proofs.YtggmdjdflaglpaaGreat
