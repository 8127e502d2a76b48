/- Bytes in blocks of their own, and rows of cells that are laid one by one. -/
import Derived.Test.YtggmdjdflaglpaaGreatR01
import Derived.Deep.MidRow
import Derived.Laws.BytesArg
import Derived.Laws.IdiomStrings
import Derived.Laws.CopyOwn
import Derived.Deep.AppendLies
namespace Go.Proofs.YtggmdjdflaglpaaGreat.r27
open Go.RowKit
set_option linter.unusedVariables false
def bcells (l:List UInt8):Array Value:=(l.map (fun u=>Value.int .u8 (u.toNat:Int))).toArray
theorem bcells_at (l:List UInt8) (j:Nat) (u:UInt8) (h:l[j]? =some u):(bcells l)[j]? =some (.int .u8 (u.toNat:Int)):=by
 simp[bcells,h]
theorem bcells_size (l:List UInt8):(bcells l).size=l.length:=by simp[bcells]
def zeros:List UInt8:=List.replicate 32 0
def Has (w:World) (v:Value) (l:List UInt8):Prop:=
 l.length=32/\((v=.slice none 0 0/\l=zeros)\/
  ∃(b c:Nat) (cs:Array Value) (fr:Nat×Nat),v=.slice (some ⟨b,0,none⟩) 32 c/\w.heap[b]? =some (.cells cs 5 fr)/\∀(j:Nat) (u:UInt8),l[j]? =some u->cs[j]? =some (Value.int .u8 (u.toNat:Int)))
theorem heap_lt {w:World}{b:Nat}{o:Obj}(h:w.heap[b]? =some o):b<w.heap.size:=(Array.getElem?_eq_some_iff.1 h).1
theorem Has.mono {w w':World}{v:Value}{l:List UInt8}(h:Has w v l) (hk:∀(b:Nat) (cs:Array Value) (fr:Nat×Nat),w.heap[b]? =some (Obj.cells cs 5 fr)->w'.heap[b]? =w.heap[b]?):Has w' v l:=by
 obtain⟨h1,h2⟩:=h
 refine⟨h1,?_⟩
 rcases h2 with h2|⟨b,c,cs,fr,hv,hb,hc⟩
 ·exact .inl h2
 ·exact .inr ⟨b,c,cs,fr,hv,(hk _ _ _ hb).trans hb,hc⟩
theorem Has.below {w w':World}{v:Value}{l:List UInt8}(h:Has w v l) (hb:Below w.heap.size w w'):Has w' v l:=h.mono fun b _ _ hh=>hb.block b (heap_lt hh)
theorem Has.alloc {w:World}{v:Value}{l:List UInt8}(h:Has w v l) (o:Obj):Has (w.alloc o) v l:=h.mono fun b _ _ hh=>Below.heap_alloc w o b (heap_lt hh)
theorem Has.drewN {w:World}{v:Value}{l:List UInt8}(h:Has w v l) (n:Nat):Has (w.drewN n) v l:=h
theorem Has.drew {w:World}{v:Value}{l:List UInt8}(h:Has w v l):Has w.drew v l:=h
theorem Has.only {w w':World}{v:Value}{l:List UInt8}{g t:Nat}{cs:Array Value}(h:Has w v l) (hg:w.grownBy w' (some g)) (hb:Blk w g t cs) (ht:t≠5):Has w' v l:=
 h.mono fun b cs' fr hh=>hg.block b (heap_lt hh) (fun e=>by
  injection e with e
  subst e
  unfold Blk at hb
  rw[hb]at hh
  injection hh with hh
  injection hh with _ h5
  exact ht h5)
theorem Has.setCell {w:World}{v:Value}{l:List UInt8}{g t:Nat}{cs:Array Value}(h:Has w v l) (hb:Blk w g t cs) (ht:t≠5) (i:Nat) (u:Value):Has (w.setCell ⟨g,i,none⟩ u) v l:=
 h.only (g:=g) (only_setCell (only_refl _ _) (.inl rfl) _) hb ht
theorem Has.made (w:World) (l:List UInt8) (hl:l.length=32) (c:Nat):Has (w.alloc (.cells (bcells l) 5)) (.slice (some ⟨w.heap.size,0,none⟩) 32 c) l:=
 ⟨hl,.inr ⟨_,_,_,_,rfl,heap_alloc_new w _,fun j u h=>bcells_at l j u h⟩⟩
theorem Blk.setCells {w:World}{g t:Nat}:∀(vs cs:List Value) (o:Nat) (w:World),Blk w g t cs.toArray->o+vs.length<=cs.length->
 Blk (w.setCells g o vs) g t (cs.take o++(vs++cs.drop (o+vs.length))).toArray
 |[],cs,o,w,h,ho=>by simpa[World.setCells]using h
 |v ::r,cs,o,w,h,ho=>by
  have h1:=h.set_ o v
  have e1:cs.toArray.setIfInBounds o v=(cs.set o v).toArray:=by simp
  rw[e1]at h1
  have h2:=Blk.setCells (w:=w) r (cs.set o v) (o+1) _ h1 (by simp at ho ⊢;omega)
  have e2:=list_seg_step cs o v r (by simp at ho;omega)
  have e3:(cs.set o v).take (o+1)++(r++(cs.set o v).drop (o+1+r.length))=cs.take o++(v::r++cs.drop (o+(v::r).length)):=by
   rw[<-List.append_assoc,e2,List.append_assoc];rfl
  rw[e3]at h2
  exact h2
theorem only_setCells {a:World}{g:Nat}:∀(vs:List Value) (o:Nat) (w:World),a.grownBy w (some g)->a.grownBy (w.setCells g o vs) (some g)
 |[],o,w,h=>h
 |v::r,o,w,h=>only_setCells r (o+1) _ (only_setCell h (.inl rfl) v)
end Go.Proofs.YtggmdjdflaglpaaGreat.r27
