/- bytes.Repeat of eight bytes, five times; bytes.Equal. The ideal sealer: its piece of the world. The real lock as plain functions (no walk). -/
import Derived.Test.YtggmdjdflaglpaaGreatR10
import Derived.Lib.MakeNoZero
import Derived.Laws.CopyRow
import Derived.Maps.OwnSet
import Derived.Maps.OwnOps
import Derived.Test.YtggmdjdflaglpaaGreatR04
import Derived.Test.YtggmdjdflaglpaaGreatR03
namespace Go.Proofs.YtggmdjdflaglpaaGreat
open Go.RowKit
set_option linter.unusedVariables false
theorem mul64_ok (w:World):Calls Tryz.prog 164 #[.int .u64 8,.int .u64 5] w fun e w'=>e=.returned (.tuple #[.int .u64 0,.int .u64 40])/\w=w':=by
 have b1:bits .and .u64 8 4294967295=8:=by kernel_rfl
 have b2:bits .and .u64 5 4294967295=5:=by kernel_rfl
 have b3:bits .and .u64 0 4294967295=0:=by kernel_rfl
 go_enter Tryz.func164,Tryz.ntmps164
 go_wp2_with fail
 go_ret2
 exact⟨rfl,rfl⟩
theorem mul_ok (w:World):Calls Tryz.prog 131 #[.int .u64 8,.int .u64 5] w fun e w'=>e=.returned (.tuple #[.int .u64 0,.int .u64 40])/\w=w':=by
 go_enter Tryz.func131,Tryz.ntmps131
 go_wp2_with fail
 refine(mul64_ok _).mono ?_
 rintro e w1 ⟨rfl,rfl⟩
 go_wp2_with fail
 go_ret2
 exact⟨rfl,rfl⟩
theorem app_copy {w:World}{g cap:Nat}{l:By}(h:BufR w g cap l) (x:By) (n k:Nat) (hk:l.length=k) (hn:x.length=n) (D:Nat) (hD:n<=D) (hc:k+n<=cap) {b q c:Nat}(cc:Nat) (hx:∀(j:Nat) (u:UInt8),x[j]? =some u->w.cell? ⟨b,q+j,none⟩=some (.int .u8 (u.toNat:Int))):
 ∃w',(∀s:Nat,min s D=n->(Builtin.copy_ #[32,32] 3 #[.slice (some ⟨g,k,none⟩) D cc,.slice (some ⟨b,q,none⟩) s c]).run Tryz.prog w=.ok (.int .i64 n) w')/\BufR w' g cap (l++x)/\w.grownBy w' (some g):=by
 obtain⟨cur,h1,h2,h3,h4⟩:=h
 subst hk
 subst hn
 refine⟨w.setRow g (cur.toList.take l.length++bvals x++cur.toList.drop (l.length+(bvals x).length)).toArray,fun s hs=>?_,?_,?_⟩
 ·have hr:=run_copy_row (P:=Tryz.prog) w 32 32 3 5 g l.length D cc ⟨b,q,none⟩ s c cur 5 (bvals x) Tryz.underlying32 info5s h1
   (by rw[bvals_len];exact hs.symm) (ex_slice (fun _=>True) w b q c x hx) (by rw[bvals_len];omega) (bvals_one _)
  rw[hr,bvals_len];rfl
 ·refine⟨(cur.toList.take l.length++bvals x++cur.toList.drop (l.length+(bvals x).length)).toArray,?_,?_,?_,?_⟩
  ·simp[World.setRow,Array.getElem?_modify,h1]
  ·rw[bvals_len]
   simp[List.length_take,List.length_drop,bvals_len]
   omega
  ·rw[List.length_append];exact hc
  ·rw[h4,List.toList_toArray,<-bvals_app,List.take_append_of_le_length (Nat.le_of_eq (by rw[bvals_len])),List.take_of_length_le (Nat.le_of_eq (by rw[bvals_len]))]
 ·refine⟨rfl,rfl,rfl,by simp[World.setRow],fun i hi hn=>?_⟩
  simp only[World.setRow,Array.getElem?_modify]
  rw[if_neg]
  rintro rfl
  exact hn rfl
theorem BufR.read {w:World}{g cap:Nat}{l:By}(h:BufR w g cap l) (j:Nat) (u:UInt8) (hj:l[j]? =some u):w.cell? ⟨g,0+j,none⟩=some (.int .u8 (u.toNat:Int)):=by
 obtain⟨cur,h1,h2,h3,h4⟩:=h
 have hjl:j<l.length:=(List.getElem?_eq_some_iff.1 hj).1
 rw[Nat.zero_add,cell_of_row w g j cur 5 (0,0) h1]
 have e:(cur.toList.take l.length)[j]? =some (.int .u8 (u.toNat:Int)):=by rw[h4,bvals_at,hj];rfl
 rw[List.getElem?_take,if_pos hjl]at e
 simpa using e
def five (l:By):By:=(((l++l)++(l++l))++l)
theorem repeat_ok (q:Nat->Prop) (v:Value) (l:By) (w:World) (h:HasP q w v l) (hl:l.length=8):
 Calls Tryz.prog 92 #[v,.int .i64 5] w fun e w'=>∃g,e=.returned (.slice (some ⟨g,0,none⟩) 40 40)/\HasP (w.heap.size<=·) w' (.slice (some ⟨g,0,none⟩) 40 40) (five l)/\Below w.heap.size w w':=by
 obtain⟨b,o,c,rfl,_,hb,hlc,hcm,hc⟩:=h.eight hl (by omega)
 obtain⟨cs,hrun,hle,hmax⟩:=Lib.run_makeNoZero (P:=Tryz.prog) w #[3] 32 5 Tryz.underlying32 40 (by omega)
 have hcall:(callFunc 132 #[.int .i64 40]).run Tryz.prog w=.ok (.value (.slice (some ⟨w.heap.size,0,none⟩) 40 cs.size)) (w.drew.drew.alloc (.cells cs 5)):=by
  rw[run_callFunc_extern Tryz.func132 (by kernel_rfl) (by kernel_rfl) (by kernel_rfl) (e:=Extern.BytealgMakeNoZero.makeNoZero #[3] #[32]) (by kernel_rfl)]
  have:(Extern.BytealgMakeNoZero.makeNoZero #[3] #[32] #[.int .i64 40]).run Tryz.prog w=_:=hrun
  rw[this]
  rfl
 have hsz:(w.drew.drew.alloc (.cells cs 5)).heap.size=w.heap.size+1:=by simp
 have hbel:Below w.heap.size w (w.drew.drew.alloc (.cells cs 5)):=(Below.refl _ _).drew.drew.alloc (Nat.le_refl _) _
 have hc1:∀(j:Nat) (u:UInt8),l[j]? =some u->(w.drew.drew.alloc (.cells cs 5)).cell? ⟨b,o+j,none⟩=some (.int .u8 (u.toNat:Int)):=fun j u hj=>(hbel.cell (p:=⟨b,o+j,none⟩) hb).trans (hc j u hj)
 have B1:BufR (w.drew.drew.alloc (.cells cs 5)) w.heap.size cs.size []:=⟨cs,Blk.new w.drew.drew 5 cs,rfl,Nat.zero_le _,by simp[bvals]⟩
 obtain⟨W1,hW1⟩:∃W1,W1=w.drew.drew.alloc (.cells cs 5):=⟨_,rfl⟩
 obtain⟨g,hg⟩:∃g,g=w.heap.size:=⟨_,rfl⟩
 have HW1:=Lib.hid hW1
 have HG:=Lib.hid hg
 rw[<-hW1]at hcall hsz hbel hc1 B1
 rw[<-hg]at hcall B1
 obtain⟨w2,e2,B2,g2⟩:=app_copy B1 l 8 0 rfl hl 40 (by omega) (by omega) 40 (c:=c) hc1
 rw[List.nil_append]at B2
 obtain⟨w3,e3,B3,g3⟩:=app_copy B2.drew l 8 8 hl hl 32 (by omega) (by omega) 32 (c:=40) B2.drew.read
 have hl2:(l++l).length=16:=by simp[hl]
 obtain⟨w4,e4,B4,g4⟩:=app_copy B3.drew (l++l) 16 16 hl2 hl2 24 (by omega) (by omega) 24 (c:=40) B3.drew.read
 have hl4:((l++l)++(l++l)).length=32:=by simp[hl]
 obtain⟨w5,e5,B5,g5⟩:=app_copy B4.drew l 8 32 hl4 hl 8 (by omega) (by omega) 8 (c:=40) (fun j u hj=>B4.drew.read j u (by rw[List.append_assoc,List.getElem?_append_left (List.getElem?_eq_some_iff.1 hj).1];exact hj))
 replace e2:=e2 8 (by omega)
 replace e3:=e3 8 (by omega)
 replace e4:=e4 16 (by omega)
 replace e5:=e5 32 (by omega)
 have hfin:Below w.heap.size w w5:=by
  have k1:W1.grownBy w5 (some g):=only_trans (only_trans (only_trans g2 (only_trans (only_drew (only_refl w2 _)) g3)) (only_trans (only_drew (only_refl w3 _)) g4)) (only_trans (only_drew (only_refl w4 _)) g5)
  exact below_only hbel k1 (by omega) (by omega)
 have HF:=Lib.hid (And.intro B5 hfin)
 clear B1 B2 B3 B4 B5 g2 g3 g4 g5 hfin hl4 hl2 hrun hc1 hc hbel hmax h hW1 hg
 go_enter Tryz.func92,Tryz.ntmps92
 go_wp2_with fail
 refine(mul_ok _).mono ?_
 rintro e w1 ⟨rfl,rfl⟩
 go_wp2_with fail
 refine wp_loop_rounds 4 ?_
 rw[rounds_succ]
 go_wp2_with fail
 rw[show min (8:Int) 40=8 by decide]
 go_region_law (fail)
 all_goals
  go_wp2_with fail
  rw[rounds_succ]
  go_wp2_with fail
  rw[show min (16:Int) 40=16 by decide]
  go_region_law (fail)
  all_goals
   go_wp2_with fail
   rw[rounds_succ]
   go_wp2_with fail
   rw[show min (32:Int) 40=32 by decide]
   go_region_law (fail)
   all_goals
    go_wp2_with fail
    rw[rounds_succ]
    go_wp2_with fail
    go_ret
    obtain⟨B5,hfin⟩:=HF.out
    refine⟨g,rfl,?_,hfin⟩
    have hlt:=B5.lt
    refine .inr ⟨g,0,40,by simp[five,hl],by rw[HG.out];exact Nat.le_refl _,hlt,by simp[five,hl],by unfold maxLen;omega,fun j u hj=>B5.read j u hj⟩
end Go.Proofs.YtggmdjdflaglpaaGreat
namespace Go.Proofs.YtggmdjdflaglpaaGreat
open Go.RowKit
set_option linter.unusedVariables false
structure Nce where
 ep:Int
 slot:Int
 ver:Int
def Nce.ok (n:Nce):Prop:=(0<=n.ep/\n.ep<4294967296)/\(0<=n.slot/\n.slot<4294967296)/\U64 n.ver
structure Iss where
 key:Two
 n:Nce
 head:By
 data:By
 out:By
 num:Int
def kSeal:Int:=18446744073709551615
def icells (x:Iss) (vh vd vo:Value):List Value:=[.int .u64 x.key.1,.int .u64 x.key.2,.int .u32 x.n.ep,.int .u32 x.n.slot,.int .u64 x.n.ver,vh,vd,vo,.int .u64 kSeal,.int .u64 x.num]
def IssE (p:Nat->Prop) (w:World) (cs:List Value) (x:Iss):Prop:=
 ∃vh vd vo,cs=icells x vh vd vo/\HasP p w vh x.head/\HasP p w vd x.data/\HasP p w vo x.out
section
variable {α:Type}
def RowV (z:Nat) (E:List Value->α->Prop) (cs:List Value) (L:List α):Prop:=
 cs.length=L.length*z/\∀j x,L[j]? =some x->E ((cs.drop (j*z)).take z) x
theorem RowV.nil (z:Nat) (E:List Value->α->Prop):RowV z E [] []:=⟨by simp,fun j x h=>by simp at h⟩
theorem RowV.weak {z:Nat}{E E':List Value->α->Prop}{cs:List Value}{L:List α}(h:RowV z E cs L) (hE:∀c x,x∈L->E c x->E' c x):RowV z E' cs L:=
 ⟨h.1,fun j x hj=>hE _ x (List.mem_of_getElem? hj) (h.2 j x hj)⟩
theorem RowV.app {z:Nat}{E:List Value->α->Prop}{cs news:List Value}{L:List α}{x:α}(h:RowV z E cs L) (hn:news.length=z) (hx:E news x):RowV z E (cs++news) (L++[x]):=by
 refine⟨by rw[List.length_append,h.1,hn,List.length_append,List.length_singleton,Nat.add_mul,Nat.one_mul],fun j y hj=>?_⟩
 by_cases e:j<L.length
 ·rw[List.getElem?_append_left e]at hj
  have:=h.2 j y hj
  have hle:(j+1)*z<=cs.length:=by rw[h.1];exact Nat.mul_le_mul_right z e
  rw[Nat.add_mul,Nat.one_mul]at hle
  rw[List.drop_append_of_le_length (by omega),List.take_append_of_le_length (by rw[List.length_drop];omega)]
  exact this
 ·have hjl:=(List.getElem?_eq_some_iff.1 hj).1
  rw[List.length_append,List.length_singleton]at hjl
  obtain rfl:j=L.length:=by omega
  rw[List.getElem?_append_right (Nat.le_refl _)]at hj
  simp at hj
  subst hj
  rw[<-h.1,List.drop_left,<-hn,List.take_length]
  exact hx
theorem RowV.at_ {z:Nat}{E:List Value->α->Prop}{cs:List Value}{L:List α}(h:RowV z E cs L) {j:Nat}{x:α}(hj:L[j]? =some x):
 ∃e,E e x/\e.length=z/\∀i u,e[i]? =some u->cs[j*z+i]? =some u:=by
 have hjl:=(List.getElem?_eq_some_iff.1 hj).1
 have hle:(j+1)*z<=cs.length:=by rw[h.1];exact Nat.mul_le_mul_right z hjl
 rw[Nat.add_mul,Nat.one_mul]at hle
 refine⟨_,h.2 j x hj,by rw[List.length_take,List.length_drop];omega,fun i u hi=>?_⟩
 have hiz:i<z:=by
  have:=(List.getElem?_eq_some_iff.1 hi).1
  rw[List.length_take]at this
  omega
 rw[List.getElem?_take,if_pos hiz,List.getElem?_drop]at hi
 exact hi
end
theorem IssE.keep {p:Nat->Prop}{w w':World}{cs:List Value}{x:Iss}(h:IssE p w cs x) (hs:w.heap.size<=w'.heap.size) (hk:∀b,b<w.heap.size->p b->w'.heap[b]? =w.heap[b]?):IssE p w' cs x:=by
 obtain⟨vh,vd,vo,h1,h2,h3,h4⟩:=h
 exact⟨vh,vd,vo,h1,h2.keep hs hk,h3.keep hs hk,h4.keep hs hk⟩
theorem HasP.weakB {p q:Nat->Prop}{w:World}{v:Value}{l:By}(h:HasP p w v l) (hpq:∀b,b<w.heap.size->p b->q b):HasP q w v l:=by
 rcases h with h|⟨b,o,cap,h1,h2,h3,h4⟩
 ·exact .inl h
 ·exact .inr ⟨b,o,cap,h1,hpq b h3 h2,h3,h4⟩
theorem IssE.weak {p q:Nat->Prop}{w:World}{cs:List Value}{x:Iss}(h:IssE p w cs x) (hpq:∀b,b<w.heap.size->p b->q b):IssE q w cs x:=by
 obtain⟨vh,vd,vo,h1,h2,h3,h4⟩:=h
 exact⟨vh,vd,vo,h1,h2.weakB hpq,h3.weakB hpq,h4.weakB hpq⟩
end Go.Proofs.YtggmdjdflaglpaaGreat
namespace Go.Proofs.YtggmdjdflaglpaaGreat
open Go.RowKit
set_option linter.unusedVariables false
def be (b:By):Int:=b.foldl (fun v c=>v*256+(c.toNat:Int)) 0
def pairOf (b:By):Two:=(be (b.take 8),be (b.drop 8))
def pad16 (b:By):By:=b++List.replicate (16-b.length) 0
def pairAt (b:By) (j:Nat):Two:=pairOf (pad16 ((b.drop (16*j)).take 16))
def gpairs (b:By):List Two:=(List.range ((b.length+15) / 16)).map (pairAt b)
def fadd (a b:Two):Two:=(bits .xor .u64 a.1 b.1,bits .xor .u64 a.2 b.2)
def fdouble (a:Two):Two:=(bits .or .u64 (IntKind.u64.wrap (a.1*2)) (a.2 / 9223372036854775808),if a.1 / 9223372036854775808=1 then bits .xor .u64 (IntKind.u64.wrap (a.2*2)) 135 else IntKind.u64.wrap (a.2*2))
def fbit (b:Two) (i:Nat):Bool:=(if i<64 then b.1 / 2^(63-i)else b.2 / 2^(127-i))%2 == 1
def fstep (a b out:Two) (i:Nat):Two:=if fbit b i then fadd (fdouble out) a else fdouble out
def fmulTo (a b:Two):Nat->Two
 |0=>(0,0)
 |i+1=>fstep a b (fmulTo a b i) i
def fmul (a b:Two):Two:=fmulTo a b 128
def feval (h:Two) (l:List Two):Two:=l.foldl (fun out x=>fmul (fadd x out) h) (0,0)
def gtag (sub:Two) (head b:By):Two:=fadd (feval (enc sub (0,1)) ((gpairs head++gpairs b)++[((head.length:Int),(b.length:Int))])) (enc sub (0,0))
def fsub (key:Two) (n:Nce):Two:=enc key (bits .or .u64 (n.ep*4294967296) n.slot,n.ver)
def fbytesTo (sub:Two) (i:Nat):By:=(List.range i).flatMap (fun j:Nat=>pairB (enc sub ((j:Int)+1,0)).1 (enc sub ((j:Int)+1,0)).2)
def fbytes (sub:Two) (n:Nat):By:=(fbytesTo sub ((n+15) / 16)).take n
def fxor (a b:By):By:=List.zipWith (fun x y=>x ^^^ y) a b
def gseal (key:Two) (n:Nce) (head data:By):By×Two:=
 (fxor data (fbytes (fsub key n) data.length),gtag (fsub key n) head (fxor data (fbytes (fsub key n) data.length)))
def gopen (key:Two) (n:Nce) (head b:By) (tag:Two):Option By:=
 if gtag (fsub key n) head b=tag then some (fxor b (fbytes (fsub key n) b.length))else none
def dfill (s:By):By:=(s++[128])++List.replicate ((23-s.length%16)%16) 0++putB s.length 8
def dstepS (st m:Two):Two:=(bits .xor .u64 (enc m st).1 st.1,bits .xor .u64 (enc m st).2 st.2)
def dsum (s:By):Two:=(List.range ((dfill s).length / 16)).foldl (fun st j=>dstepS st (pairOf (((dfill s).drop (16*j)).take 16))) (7640891576956012808,13503953896175478587)
theorem u2_bits (op:BinOp) (a b c d:Int):U2 ((bits op .u64 a b,bits op .u64 c d):Two):=⟨u64_bits op a b,u64_bits op c d⟩
theorem dstepS_u (st m:Two):U2 (dstepS st m):=by unfold dstepS;exact u2_bits _ _ _ _ _
theorem fadd_u (a b:Two):U2 (fadd a b):=by unfold fadd;exact u2_bits _ _ _ _ _
theorem fbytesTo_len (sub:Two) (i:Nat):(fbytesTo sub i).length=16*i:=by
 induction i with
 |zero=>rfl
 |succ i ih=>
  have:fbytesTo sub (i+1)=fbytesTo sub i++pairB (enc sub ((i:Int)+1,0)).1 (enc sub ((i:Int)+1,0)).2:=by
   unfold fbytesTo
   rw[List.range_succ,List.flatMap_append]
   simp
  rw[this,List.length_append,ih,pairB_len]
  omega
theorem fbytes_len (sub:Two) (n:Nat):(fbytes sub n).length=n:=by
 unfold fbytes
 rw[List.length_take,fbytesTo_len]
 omega
end Go.Proofs.YtggmdjdflaglpaaGreat
