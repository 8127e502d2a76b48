/- Small words on memory for this seat: a block known whole, worlds that differ from another in one old block alone, and the last step of a row. The contracts of the numbers' maker, of the reference's, and of the law's own small example. -/
import Derived.Test.YtggmdjdflaglpaaGreatRows
import Derived.WalkKit
import Derived.ProofKit
import Derived.OpenShut
import Derived.ShutString
import Derived.Below
import Derived.Outline
import Derived.Deep.Draws
import Derived.Deep.OwnRows
import Derived.Maps.AppendAt
import Derived.Lib.Hide
import Derived.BigRegion
namespace Go.Proofs.YtggmdjdflaglpaaGreat
open Go.RowKit Go.WideShapes Go.ChangeShapes
def Blk (w:World) (g:Nat) (t:TypeId) (cs:Array Value):Prop:=w.heap[g]? =some (.cells cs t (0,0))
section
variable {w w':World}{g:Nat}{t:TypeId}{cs:Array Value}
theorem Blk.lt (h:Blk w g t cs):g<w.heap.size:=by
 rcases Nat.lt_or_ge g w.heap.size with hlt|hge
 ·exact hlt
 ·unfold Blk at h;rw[Array.getElem?_eq_none hge]at h;cases h
theorem Blk.cell (h:Blk w g t cs) (i:Nat):w.cell? ⟨g,i,none⟩=cs[i]? :=cell_of_row w g i cs t (0,0) h
theorem Blk.cell_ (h:Blk w g t cs) (i:Nat) {v:Value}(hv:cs[i]? =some v):w.cell? ⟨g,i,none⟩=some v:=(h.cell i).trans hv
theorem Blk.frozen (h:Blk w g t cs) (i:Nat):w.frozen? ⟨g,i,none⟩=false:=by
 unfold Blk at h
 simp[World.frozen?,h]
theorem Blk.new (w:World) (t:TypeId) (cs:Array Value):Blk (w.alloc (.cells cs t)) w.heap.size t cs:=heap_alloc_new w _
theorem Blk.drew (h:Blk w g t cs):Blk w.drew g t cs:=h
theorem Blk.drewN (h:Blk w g t cs) (n:Nat):Blk (w.drewN n) g t cs:=h
theorem Blk.alloc (h:Blk w g t cs) (o:Obj):Blk (w.alloc o) g t cs:=(Below.heap_alloc w o g h.lt).trans h
theorem Blk.set_ (h:Blk w g t cs) (i:Nat) (u:Value):Blk (w.setCell ⟨g,i,none⟩ u) g t (cs.setIfInBounds i u):=by
 unfold Blk at h ⊢
 simp[World.setCell,Array.getElem?_modify,h]
theorem Blk.set_to (h:Blk w g t cs) (i:Nat) (u:Value) {cs':Array Value}(e:cs.setIfInBounds i u=cs'):Blk (w.setCell ⟨g,i,none⟩ u) g t cs':=e▸h.set_ i u
theorem Blk.far (h:Blk w g t cs) {p:Addr}(hp:g≠p.block) (u:Value):Blk (w.setCell p u) g t cs:=(Below.heap_setCell w p u g hp).trans h
theorem Blk.below {B:Nat}(h:Blk w g t cs) (hb:Below B w w') (hg:g<B):Blk w' g t cs:=(hb.block g hg).trans h
theorem Blk.below_ (h:Blk w g t cs) (hb:Below w.heap.size w w'):Blk w' g t cs:=h.below hb h.lt
theorem Blk.grown {row:Option Nat}(h:Blk w g t cs) (hb:w.grownBy w' row) (hg:some g≠row):Blk w' g t cs:=(hb.block g h.lt hg).trans h
theorem Blk.ne_ {g':Nat}{t':TypeId}{cs':Array Value}(h:Blk w g t cs) (h':Blk w g' t' cs') (hne:t≠t'):g≠g':=by
 rintro rfl
 unfold Blk at h h'
 rw[h]at h'
 injection h' with h'
 injection h' with _ ht
 exact hne ht
end
section
variable {a w b c:World}
theorem only_refl (w:World) (row:Option Nat):w.grownBy w row:=World.grownBy.refl w row
theorem only_drewN {row:Option Nat}(h:a.grownBy w row) (n:Nat):a.grownBy (w.drewN n) row:=⟨h.os,h.tape,h.output,h.size,h.block⟩
theorem only_drew {row:Option Nat}(h:a.grownBy w row):a.grownBy w.drew row:=⟨h.os,h.tape,h.output,h.size,h.block⟩
theorem only_alloc {row:Option Nat}(h:a.grownBy w row) (o:Obj):a.grownBy (w.alloc o) row:=
 ⟨h.os,h.tape,h.output,Nat.le_trans h.size (by simp),fun i hi hne=>(Below.heap_alloc w o i (Nat.lt_of_lt_of_le hi h.size)).trans (h.block i hi hne)⟩
theorem only_setCell {g:Nat}(h:a.grownBy w (some g)) {p:Addr}(hp:p.block=g\/a.heap.size<=p.block) (u:Value):a.grownBy (w.setCell p u) (some g):=
 ⟨h.os,h.tape,h.output,by simpa[World.setCell]using h.size,fun i hi hne=>(Below.heap_setCell w p u i (by
  rintro rfl
  rcases hp with hp|hp
  ·exact hne (by rw[hp])
  ·omega)).trans (h.block i hi hne)⟩
theorem only_of_below (h:Below a.heap.size a w) (row:Option Nat):a.grownBy w row:=⟨h.os,h.tape,h.output,h.size,fun i hi _=>h.block i hi⟩
theorem only_trans {row:Option Nat}(h:a.grownBy b row) (k:b.grownBy c row):a.grownBy c row:=World.grownBy.trans h k
theorem below_drewN {B:Nat}(h:Below B a w) (n:Nat):Below B a (w.drewN n):=⟨h.os,h.tape,h.output,h.size,h.block⟩
theorem below_only {B g:Nat}(h:Below B a b) (k:b.grownBy c (some g)) (hB:B<=b.heap.size) (hg:B<=g):Below B a c:=
 h.grown k hB (fun j hj=>by cases hj;exact hg)
end
section
variable {H:Type}{enc:TypeId×Value->H}{P:Program}
theorem post_of_below {f:Func}{s:ChangeSpec}{apart fresh handsOn again:Bool}{W W':World}{args:Array Value}{v:Value}{ds gs:List (DataW H)}{before pa pv:List MemPlace}
 (hW:DataW.Whole enc P f.params.toList s.vars apart W args.toList ds gs before)
 (hres:∀(b:Nat) (sp:Nat->Bool) (hd:Bool),DataW.TrodAll enc P W' b sp hd f.resultTypes.toList (v.resultList f.resultTypes.size) (s.fn H (ds++gs)).results [])
 (hargs:∀sp:Nat->Bool,(∀p∈before,sp p.block=true)->DataW.TrodAll enc P W' 0 sp true f.params.toList args.toList (s.fn H (ds++gs)).args pa)
 (hvars:∀sp:Nat->Bool,(∀p∈before,sp p.block=true)->DataW.TrodVars enc P W' sp s.vars (s.fn H (ds++gs)).vars pv)
 (hps:before=pa++pv) (hb:Below W.heap.size W W')
 (hok:∀(j:Nat) (t:TypeId) (r:Value),f.resultTypes[j]? =some t->(v.resultList f.resultTypes.size)[j]? =some r->Value.okWide P W' .any 0 t r):
 s.post enc P f apart fresh handsOn again W args v W':=by
 have hlt:∀p∈before,p.block<W.heap.size:=fun p hp=>hW.lt p hp
 have hold:∀p∈before,(fun b=>decide (b<W.heap.size)) p.block=true:=fun p hp=>by simpa using hlt p hp
 refine⟨ds,gs,before,[],pa,pv,hW,hres _ _ _,hargs _ hold,hvars _ hold,World.keptBut_mono (fun p hp=>⟨hp,?_⟩) (hb.frame (· ∈before)),fun _=>?_⟩
 ·rw[hps,List.mem_append]at hp
  exact Or.inr hp
 ·obtain⟨_,_,_,_,_,hz,hn⟩:=hW
  refine⟨hok,_,_,([]++pa)++pv,⟨[]++pa,pv,trodAll_append (hargs _ (fun _ _=>rfl)) (hres _ _ _),hvars _ (fun _ _=>rfl),rfl,?_,?_⟩,?_⟩
  ·intro b off hp
   have hin:MemPlace.cell b off∈before:=by rw[hps];simpa using hp
   rw[hb.frozen (hlt _ hin)]
   exact hz b off hin
  ·intro ha
   have:=hn ha
   rw[hps]at this
   simpa using this
  ·intro p hp _
   rw[hps]
   simpa using hp
end
def IsRow (k:IntKind) (w:World) (a:Option Addr) (len cap:Nat) (zs:List Int):Prop:=
 (a=none/\len=0/\cap=0/\zs=[])\/
 ∃x,a=some x/\len<=cap/\cap<=maxLen/\zs.length=cap/\(∀i,i<zs.length->w.cell? (x.add i)=some (.int k (zs.getD i 0)))/\∀n∈zs,(Lit.int k n).wf=true
theorem IsRow.open_ {k:IntKind}{w:World}{a:Option Addr}{len cap:Nat}{zs:List Int}(h:IsRow k w a len cap zs):
 len<=9223372036854775807/\len<=cap/\(len=0\/∃b off,a=some ⟨b,off,none⟩/\b<w.heap.size/\len<=zs.length/\(∀j,j<len->w.cell? ⟨b,off+j,none⟩=some (.int k (zs.getD j 0)))/\
  ∀j,j<len->(Lit.int k (zs.getD j 0)).wf=true):=by
 rcases h with⟨_,rfl,rfl,_⟩|⟨x,rfl,h1,h2,h3,h4,h5⟩
 ·exact⟨by omega,Nat.le_refl _,.inl rfl⟩
 ·unfold maxLen at h2
  refine⟨by omega,h1,?_⟩
  by_cases h0:len=0
  ·exact .inl h0
  ·refine .inr ?_
   obtain⟨b,off,spot⟩:=x
   have hc:=h4 0 (by omega)
   have hspot:spot=none:=by simpa[Addr.add]using World.cell?_spot hc
   subst hspot
   have hadd:∀j,(Addr.add ⟨b,off,none⟩ j)=⟨b,off+j,none⟩:=by
    intro j
    by_cases hj:j=0
    ·subst hj;simp[Addr.add]
    ·simp[Addr.add,hj]
   refine⟨b,off,rfl,?_,by omega,?_,?_⟩
   ·have hlt:=World.block_lt_of_cell? _ _ hc
    rw[hadd]at hlt
    exact hlt
   ·intro j hj
    rw[<-hadd]
    exact h4 j (by omega)
   ·intro j hj
    apply h5
    have hj':j<zs.length:=by omega
    rw[List.getD_eq_getElem?_getD,List.getElem?_eq_getElem hj',Option.getD_some]
    exact List.getElem_mem _
end Go.Proofs.YtggmdjdflaglpaaGreat
namespace Go.Proofs.YtggmdjdflaglpaaGreat.nce
open Go.RowKit
set_option linter.unusedVariables false
theorem new_ok (b:Int) (w:World) (h0:0<=b) (h1:b<4294967296):
 Calls Tryz.prog 38 #[.int .u64 b] w fun e w'=>e=.returned (.tuple #[.pointer (some ⟨w.heap.size,0,none⟩),.int .i64 0])/\w'=w.alloc (.cells #[.int .u64 b,.int .i64 0] 144):=by
 go_enter Tryz.func38,Tryz.ntmps38
 go_wp2
 go_ret2
 exact⟨rfl,rfl⟩
theorem new_bad (b:Int) (w:World) (h1:4294967296<=b):
 Calls Tryz.prog 38 #[.int .u64 b] w fun e w'=>e=.returned (.tuple #[.pointer none,.int .i64 1])/\w=w':=by
 go_enter Tryz.func38,Tryz.ntmps38
 go_wp2
 go_ret2
 exact⟨rfl,rfl⟩
theorem left_ok (g:Nat) (b n:Int) (w:World) (h0:0<=n) (h1:n<=100) (hg:Blk w g 144 #[.int .u64 b,.int .i64 n]):
 Calls Tryz.prog 117 #[.pointer (some ⟨g,0,none⟩)] w fun e w'=>e=.returned (.int .i64 (100-n))/\w=w':=by
 have hc1:w.cell? ⟨g,1,none⟩=some (.int .i64 n):=hg.cell_ 1 rfl
 go_enter Tryz.func117,Tryz.ntmps117
 go_wp2
 go_ret
 exact⟨rfl,rfl⟩
theorem left_nil (w:World):
 Calls Tryz.prog 117 #[.pointer none] w fun e w'=>e=.returned (.int .i64 0)/\w=w':=by
 go_enter Tryz.func117,Tryz.ntmps117
 go_wp2
 go_ret
 exact⟨rfl,rfl⟩
def num (b n ep sl:Int):Value:=.agg #[.int .u32 ep,.int .u32 sl,.int .u64 (b*4294967296+n)]
def zero3:Value:=.agg #[.int .u32 0,.int .u32 0,.int .u64 0]
theorem next_ok (g:Nat) (b n ep sl:Int) (w:World) (h0:0<=n) (h1:n<100) (b0:0<=b) (b1:b<4294967296) (e0:0<=ep) (e1:ep<4294967296) (s0:0<=sl) (s1:sl<=65535)
 (hg:Blk w g 144 #[.int .u64 b,.int .i64 n]):
 Calls Tryz.prog 155 #[.pointer (some ⟨g,0,none⟩),.int .u32 ep,.int .i64 sl] w fun e w'=>e=.returned (.tuple #[.agg #[.int .u32 ep,.int .u32 sl,.int .u64 (b*4294967296+(n+1))],.int .i64 0])/\
  w.grownBy w' (some g)/\Blk w' g 144 #[.int .u64 b,.int .i64 (n+1)]:=by
 have hc0:w.cell? ⟨g,0,none⟩=some (.int .u64 b):=hg.cell_ 0 rfl
 have hc1:w.cell? ⟨g,1,none⟩=some (.int .i64 n):=hg.cell_ 1 rfl
 have hf1:=hg.frozen 1
 have hlt:=hg.lt
 go_enter Tryz.func155,Tryz.ntmps155
 go_wp2
 go_region
 go_wp2
 refine bodyPost_ret (v:=.tuple #[.agg #[.int .u32 ep,.int .u32 sl,.int .u64 (b*4294967296+(n+1))],.int .i64 0]) (by simp[results,Tryz.results155,go_sem]) rfl ⟨rfl,only_drew (only_alloc (only_setCell (only_refl _ _) (.inl rfl) _) _),?_⟩
 exact((hg.set_to 1 _ rfl).alloc _).drew
theorem next_slot (A:Option Addr) (ep sl:Int) (w:World) (s:sl<0\/65535<sl):
 Calls Tryz.prog 155 #[.pointer A,.int .u32 ep,.int .i64 sl] w fun e w'=>e=.returned (.tuple #[.agg #[.int .u32 0,.int .u32 0,.int .u64 0],.int .i64 1])/\Below w.heap.size w w':=by
 rcases s with s|s
 ·go_enter Tryz.func155,Tryz.ntmps155
  go_wp2
  exact bodyPost_ret (v:=.tuple #[.agg #[.int .u32 0,.int .u32 0,.int .u64 0],.int .i64 1]) (by simp[results,Tryz.results155,go_sem]) rfl ⟨rfl,(Below.refl _ _).alloc (Nat.le_refl _) _⟩
 ·go_enter Tryz.func155,Tryz.ntmps155
  go_wp2
  exact bodyPost_ret (v:=.tuple #[.agg #[.int .u32 0,.int .u32 0,.int .u64 0],.int .i64 1]) (by simp[results,Tryz.results155,go_sem]) rfl ⟨rfl,(Below.refl _ _).alloc (Nat.le_refl _) _⟩
theorem next_none (g:Nat) (b ep sl:Int) (w:World) (s0:0<=sl) (s1:sl<=65535) (hg:Blk w g 144 #[.int .u64 b,.int .i64 100]):
 Calls Tryz.prog 155 #[.pointer (some ⟨g,0,none⟩),.int .u32 ep,.int .i64 sl] w fun e w'=>e=.returned (.tuple #[.agg #[.int .u32 0,.int .u32 0,.int .u64 0],.int .i64 6])/\Below w.heap.size w w':=by
 have hc1:w.cell? ⟨g,1,none⟩=some (.int .i64 100):=hg.cell_ 1 rfl
 have hlt:=hg.lt
 go_enter Tryz.func155,Tryz.ntmps155
 go_wp2
 exact bodyPost_ret (v:=.tuple #[.agg #[.int .u32 0,.int .u32 0,.int .u64 0],.int .i64 6]) (by simp[results,Tryz.results155,go_sem]) rfl ⟨rfl,(Below.refl _ _).alloc (Nat.le_refl _) _⟩
theorem next_nil (ep sl:Int) (w:World) (s0:0<=sl) (s1:sl<=65535):
 Calls Tryz.prog 155 #[.pointer none,.int .u32 ep,.int .i64 sl] w fun e w'=>e=.returned (.tuple #[.agg #[.int .u32 0,.int .u32 0,.int .u64 0],.int .i64 6])/\Below w.heap.size w w':=by
 go_enter Tryz.func155,Tryz.ntmps155
 go_wp2
 exact bodyPost_ret (v:=.tuple #[.agg #[.int .u32 0,.int .u32 0,.int .u64 0],.int .i64 6]) (by simp[results,Tryz.results155,go_sem]) rfl ⟨rfl,(Below.refl _ _).alloc (Nat.le_refl _) _⟩
theorem or_add (b m:Int) (b0:0<=b) (b1:b<4294967296) (m0:0<=m) (m1:m<4294967296):bits .or .u64 (b*4294967296) m=b*4294967296+m:=by
 rw[u64_or _ _ (by omega) (by omega) (by omega) (by omega)]
 obtain⟨b,rfl⟩:=Int.eq_ofNat_of_zero_le b0
 obtain⟨m,rfl⟩:=Int.eq_ofNat_of_zero_le m0
 have h:((b:Int)*4294967296).toNat=b <<< 32:=by rw[Nat.shiftLeft_eq];omega
 rw[h,Int.toNat_natCast,<-Nat.shiftLeft_add_eq_or_of_lt (by omega),Nat.shiftLeft_eq]
 omega
theorem boot_ok (b n:Int) (x y:Value) (w:World) (h0:0<=n) (h1:n<=100) (b0:0<=b) (b1:b<4294967296):
 Calls Tryz.prog 135 #[.agg #[x,y,.int .u64 (b*4294967296+n)]] w fun e w'=>e=.returned (.int .u64 b)/\Below w.heap.size w w':=by
 have hd:(b*4294967296+n) / 4294967296=b:=by omega
 have H:=Lib.hid hd;clear hd
 go_enter Tryz.func135,Tryz.ntmps135
 go_wp2
 rw[H.out]
 go_ret
 exact⟨rfl,(Below.refl _ _).alloc (Nat.le_refl _) _⟩
end Go.Proofs.YtggmdjdflaglpaaGreat.nce
