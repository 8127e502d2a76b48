/- A heap on a list of integers, by a key: plain. -/
import Derived.WalkKit
namespace Go.Proofs.YtggmdjdflaglpaaGreat
set_option linter.unusedVariables false
def el (zs:List Int) (k:Nat):Int:=zs.getD k 0
def swp (zs:List Int) (i j:Nat):List Int:=(zs.set i (el zs j)).set j (el zs i)
theorem swp_len (zs:List Int) (i j:Nat):(swp zs i j).length=zs.length:=by simp[swp]
theorem el_get {zs:List Int}{k:Nat}(h:k<zs.length):zs[k]? =some (el zs k):=by
 unfold el
 rw[List.getD_eq_getElem?_getD,List.getElem?_eq_getElem h,Option.getD_some]
theorem el_at {zs:List Int}{k:Nat}(h:k<zs.length):zs[k]=el zs k:=by
 have:=el_get h
 rw[List.getElem?_eq_getElem h]at this
 exact Option.some.inj this
theorem el_mem {zs:List Int}{k:Nat}(h:k<zs.length):el zs k∈zs:=by
 rw[<-el_at h];exact List.getElem_mem h
theorem mem_el {zs:List Int}{z:Int}(h:z∈zs):∃k,k<zs.length/\el zs k=z:=by
 obtain⟨k,hk,e⟩:=List.getElem_of_mem h
 exact⟨k,hk,by rw[<-el_at hk];exact e⟩
theorem el_set {zs:List Int}{i k:Nat}{v:Int}(hi:i<zs.length):el (zs.set i v) k=if k=i then v else el zs k:=by
 unfold el
 rw[List.getD_eq_getElem?_getD,List.getD_eq_getElem?_getD,List.getElem?_set]
 by_cases h:k=i
 ·subst h;simp[hi]
 ·simp[h,Ne.symm h]
theorem el_swp {zs:List Int}{i j k:Nat}(hi:i<zs.length) (hj:j<zs.length):el (swp zs i j) k=if k=j then el zs i else if k=i then el zs j else el zs k:=by
 unfold swp
 rw[el_set (by simpa using hj),el_set hi]
theorem swp_perm {zs:List Int}{i j:Nat}(hi:i<zs.length) (hj:j<zs.length):(swp zs i j).Perm zs:=by
 have:=List.set_set_perm (as:=zs) hi hj
 rw[el_at hi,el_at hj]at this
 exact this
variable {f:Int->Int}{zs:List Int}{n j:Nat}
def Heap (f:Int->Int) (zs:List Int) (n:Nat):Prop:=∀i,0<i->i<n->f (el zs ((i-1) / 2))<=f (el zs i)
def UpBut (f:Int->Int) (zs:List Int) (n j:Nat):Prop:=
 (∀i,0<i->i<n->i≠j->f (el zs ((i-1) / 2))<=f (el zs i))/\(∀i,0<i->i<n->(i-1) / 2=j->0<j->f (el zs ((j-1) / 2))<=f (el zs i))
def DownBut (f:Int->Int) (zs:List Int) (n j:Nat):Prop:=
 (∀i,0<i->i<n->(i-1) / 2≠j->f (el zs ((i-1) / 2))<=f (el zs i))/\(∀i,0<i->i<n->(i-1) / 2=j->0<j->f (el zs ((j-1) / 2))<=f (el zs i))
def AnyBut (f:Int->Int) (zs:List Int) (n j:Nat):Prop:=
 (∀i,0<i->i<n->i≠j->(i-1) / 2≠j->f (el zs ((i-1) / 2))<=f (el zs i))/\(∀i,0<i->i<n->(i-1) / 2=j->0<j->f (el zs ((j-1) / 2))<=f (el zs i))
theorem UpBut.heap0 (h:UpBut f zs n 0):Heap f zs n:=fun i h0 h1=>h.1 i h0 h1 (by omega)
theorem UpBut.heap (h:UpBut f zs n j) (hle:f (el zs ((j-1) / 2))<=f (el zs j)):Heap f zs n:=fun i h0 h1=>by
 by_cases e:i=j
 ·subst e;exact hle
 ·exact h.1 i h0 h1 e
theorem UpBut.step (h:UpBut f zs n j) (hj0:0<j) (hjn:j<n) (hn:n<=zs.length) (hlt:f (el zs j)<f (el zs ((j-1) / 2))):UpBut f (swp zs ((j-1) / 2) j) n ((j-1) / 2):=by
 obtain⟨h1,h2⟩:=h
 have hi:(j-1) / 2<zs.length:=by omega
 have hj:j<zs.length:=by omega
 have E:=fun k=>el_swp (k:=k) hi hj
 refine⟨fun k k0 kn ki=>?_,fun k k0 kn kp ip=>?_⟩
 ·rw[E,E]
  by_cases kj:k=j
  ·subst kj
   rw[if_neg (by omega),if_pos rfl,if_pos rfl]
   omega
  ·rw[if_neg kj,if_neg ki]
   by_cases pj:(k-1) / 2=j
   ·rw[if_pos pj];exact h2 k k0 kn pj hj0
   ·rw[if_neg pj]
    by_cases pi:(k-1) / 2=(j-1) / 2
    ·rw[if_pos pi]
     have:=h1 k k0 kn kj
     rw[pi]at this
     omega
    ·rw[if_neg pi];exact h1 k k0 kn kj
 ·rw[E,E,if_neg (by omega),if_neg (by omega)]
  have hpi:=h1 ((j-1) / 2) ip (by omega) (by omega)
  by_cases kj:k=j
  ·rw[if_pos kj];exact hpi
  ·rw[if_neg kj,if_neg (by omega)]
   have:=h1 k k0 kn kj
   rw[kp]at this
   omega
theorem AnyBut.step {c:Nat}(h:AnyBut f zs n j) (hc:(c-1) / 2=j) (hc0:0<c) (hcn:c<n) (hn:n<=zs.length) (hlt:f (el zs c)<f (el zs j)) (hmin:∀i,0<i->i<n->(i-1) / 2=j->f (el zs c)<=f (el zs i)):DownBut f (swp zs j c) n c:=by
 obtain⟨h1,h2⟩:=h
 have hj:j<zs.length:=by omega
 have hcl:c<zs.length:=by omega
 have E:=fun k=>el_swp (k:=k) hj hcl
 refine⟨fun k k0 kn kp=>?_,fun k k0 kn kp _=>?_⟩
 ·rw[E,E]
  rw[if_neg kp]
  by_cases pj:(k-1) / 2=j
  ·rw[if_pos pj]
   by_cases kc:k=c
   ·rw[if_pos kc];omega
   ·rw[if_neg kc,if_neg (by omega)];exact hmin k k0 kn pj
  ·rw[if_neg pj]
   by_cases kc:k=c
   ·omega
   ·rw[if_neg kc]
    by_cases kj:k=j
    ·rw[if_pos kj]
     have:=h2 c hc0 hcn hc (by omega)
     rw[kj];exact this
    ·rw[if_neg kj];exact h1 k k0 kn kj pj
 ·rw[E,E,if_neg (by omega),if_pos (by omega),if_neg (by omega),if_neg (by omega)]
  have:=h1 k k0 kn (by omega) (by omega)
  rw[kp]at this
  exact this
theorem DownBut.any (h:DownBut f zs n j):AnyBut f zs n j:=⟨fun i a b _ d=>h.1 i a b d,h.2⟩
theorem DownBut.heap (h:DownBut f zs n j) (hc:∀i,0<i->i<n->(i-1) / 2=j->f (el zs j)<=f (el zs i)):Heap f zs n:=fun i h0 h1=>by
 by_cases e:(i-1) / 2=j
 ·rw[e];exact hc i h0 h1 e
 ·exact h.1 i h0 h1 e
theorem AnyBut.up (h:AnyBut f zs n j) (hc:∀i,0<i->i<n->(i-1) / 2=j->f (el zs j)<=f (el zs i)):UpBut f zs n j:=⟨fun i h0 h1 hj=>by
 by_cases e:(i-1) / 2=j
 ·rw[e];exact hc i h0 h1 e
 ·exact h.1 i h0 h1 hj e,h.2⟩
theorem Heap.least (h:Heap f zs n):∀k,k<n->f (el zs 0)<=f (el zs k):=by
 intro k
 induction k using Nat.strongRecOn with
 |_ k ih=>
  intro hk
  by_cases h0:k=0
  ·subst h0;exact Int.le_refl _
  ·have a:=ih ((k-1) / 2) (by omega) (by omega)
   have b:=h k (by omega) hk
   omega
theorem Heap.push (h:Heap f zs zs.length) (x:Int):UpBut f (zs++[x]) (zs.length+1) zs.length:=by
 have E:∀k,k<zs.length->el (zs++[x]) k=el zs k:=fun k hk=>by
  unfold el;rw[List.getD_eq_getElem?_getD,List.getD_eq_getElem?_getD,List.getElem?_append_left hk]
 refine⟨fun i h0 h1 h2=>?_,fun i h0 h1 h2 h3=>by omega⟩
 rw[E _ (by omega),E _ (by omega)]
 exact h i h0 (by omega)
theorem Heap.cut {i m:Nat}(h:Heap f zs (m+1)) (hm:m+1<=zs.length) (hi:i<m):AnyBut f (swp zs i m) m i:=by
 have E:=fun k=>el_swp (k:=k) (zs:=zs) (i:=i) (j:=m) (by omega) (by omega)
 refine⟨fun k h0 h1 h2 h3=>?_,fun k h0 h1 h2 h3=>?_⟩
 ·rw[E,E,if_neg (by omega),if_neg h3,if_neg (by omega),if_neg h2]
  exact h k h0 (by omega)
 ·rw[E,E,if_neg (by omega),if_neg (by omega),if_neg (by omega),if_neg (by omega)]
  have a:=h k h0 (by omega)
  have b:=h i h3 (by omega)
  rw[h2]at a
  omega
theorem split_last {m:Nat}(h:zs.length=m+1):zs=zs.take m++[el zs m]:=by
 have h1:zs.drop m=[el zs m]:=by
  rw[List.drop_eq_getElem_cons (by omega),el_at (by omega)]
  congr 1
  apply List.drop_eq_nil_of_le
  omega
 rw[<-h1,List.take_append_drop]
theorem Heap.take {m:Nat}(h:Heap f zs m):Heap f (zs.take m) m:=by
 have E:∀k,k<m->el (zs.take m) k=el zs k:=fun k hk=>by
  unfold el;rw[List.getD_eq_getElem?_getD,List.getD_eq_getElem?_getD,List.getElem?_take,if_pos hk]
 intro i h0 h1
 rw[E _ (by omega),E _ h1]
 exact h i h0 h1
end Go.Proofs.YtggmdjdflaglpaaGreat
