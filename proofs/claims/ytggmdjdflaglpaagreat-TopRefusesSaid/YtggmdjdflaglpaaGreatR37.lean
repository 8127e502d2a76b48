/- What lasts of the device: places that no write that waits touches (no walk). commit.Do, and what lasts (no walk). What a cache holds, and what of it lasts (no walk). What a cache holds, and what of it lasts: lay, puts, the keys, a crash and Open (no walk). Two caches that hold the same, whatever their locks (no walk). -/
import Derived.Test.YtggmdjdflaglpaaGreatR31
import Derived.Test.YtggmdjdflaglpaaGreatR35
import Derived.Test.YtggmdjdflaglpaaGreatR36
namespace Go.Proofs.YtggmdjdflaglpaaGreat
open Go.RowKit Go.Proofs.YtggmdjdflaglpaaGreat.geo
set_option linter.unusedVariables false
def Opn.far (o:Opn) (p n:Nat):Prop:=((p+n:Nat):Int)<=o.off\/o.off+o.bytes.length<=p
def Dur (S:Ssd) (p n:Nat) (b:By):Prop:=(∀o∈S.waits,o.far p n)/\(S.lasts.drop p).take n=b
theorem folds_far:∀(l:List Opn) (b:By) (p n:Nat),(∀o∈l,o.in_ b.length/\o.far p n)->((l.foldl over b).drop p).take n=(b.drop p).take n
 |[],b,p,n,h=>rfl
 |o::l,b,p,n,h=>by
  have h0:=h o (List.mem_cons_self ..)
  have hl:(over b o).length=b.length:=over_len _ _ h0.1
  show((l.foldl over (over b o)).drop p).take n=_
  rw[folds_far l (over b o) p n (fun x hx=>by rw[hl];exact h x (List.mem_cons_of_mem _ hx))]
  exact over_far h0.1 (by rcases h0.2 with e|e;exact .inl (by omega);exact .inr e)
section
variable {W:Wld}{k p n:Nat}{b:By}
theorem Dur.sbytes (h:Dur W.ssd p n b) (hf:W.fit k):W.sbytes p n=b:=by
 unfold Wld.sbytes snap
 rw[folds_far _ _ p n (fun o ho=>⟨hf.wts o ho,h.1 o ho⟩)]
 exact h.2
theorem Dur.swr (h:Dur W.ssd p n b) {off:Int}{c:By}(hd:(⟨off,c⟩:Opn).far p n):Dur (W.swr off c).ssd p n b:=by
 unfold Wld.swr
 simp only
 split
 ·refine⟨fun o ho=>?_,h.2⟩
  rcases List.mem_append.1 (show o∈W.ssd.waits++[⟨off,c⟩]from ho)with ho|ho
  ·exact h.1 o ho
  ·rw[List.mem_singleton.1 ho];exact hd
 ·exact h
theorem dur_sbar (hs:(spend W.pow).2=true) (p n:Nat):Dur W.sbar.ssd p n (W.sbytes p n):=by
 unfold Wld.sbar
 simp only
 rw[if_pos hs]
 exact⟨fun o ho=>by simp[settled]at ho,rfl⟩
theorem Dur.sbar (h:Dur W.ssd p n b) (hf:W.fit k):Dur W.sbar.ssd p n b:=by
 cases hs:(spend W.pow).2 with
 |true=>rw[<-h.sbytes hf];exact dur_sbar hs p n
 |false=>
  unfold Wld.sbar
  simp only
  rw[if_neg (by rw[hs];simp)]
  exact h
theorem Dur.crash (h:Dur W.ssd p n b) (hf:W.fit k) (ks:List Bool):Dur (W.crash ks).ssd p n b:=by
 refine⟨fun o ho=>?_,?_⟩
 ·have:o∈([]:List Opn):=ho
  simp at this
 ·show(((kept W.ssd.waits ks).foldl over W.ssd.lasts).drop p).take n=b
  rw[folds_far _ _ p n (fun o ho=>⟨hf.wts o (kept_sub _ _ _ ho),h.1 o (kept_sub _ _ _ ho)⟩)]
  exact h.2
theorem Wld.fit.crash (h:W.fit k) (ks:List Bool):(W.crash ks).fit k:=
 ⟨h.geo,by show((kept W.ssd.waits ks).foldl over W.ssd.lasts).length=_;rw[folds_len _ _ (fun o ho=>h.wts o (kept_sub _ _ _ ho))];exact h.size,h.ssd,h.dsk,h.lk,h.cnt,h.kys,fun o ho=>absurd (show o∈([]:List Opn)from ho) List.not_mem_nil⟩
end
def Wld.bopen (W:Wld) (l:Lf) (b:By):Option By:=
 if l.n.ep.toNat∈W.kys.es then W.lk.opens (keyOf W.kys.seed l.n.ep.toNat) l.n (headB l.lba) b l.tag else none
theorem bopen_v (W:Wld) (l:Lf) (s:Nat):W.vopen l s=W.bopen l (W.sbytes (s*32) 32):=rfl
theorem bopen_le {W W':Wld}{l:Lf}{b d:By}(h:W.bopen l b=some d) (hk:∀e,e∈W.kys.es->e∈W'.kys.es) (hs:W'.kys.seed=W.kys.seed) (hl:W.lk.le W'.lk):W'.bopen l b=some d:=by
 unfold Wld.bopen at h ⊢
 split at h
 ·rename_i he
  rw[if_pos (hk _ he),hs]
  exact Lk.opens_le hl h
 ·cases h
def DurL (W:Wld) (l:Lf) (s:Nat) (v:By):Prop:=∃b,Dur W.ssd (s*32) 32 b/\W.bopen l b=some v
theorem DurL.vopen {W:Wld}{k:Nat}{l:Lf}{s:Nat}{v:By}(h:DurL W l s v) (hf:W.fit k):W.vopen l s=some v:=by
 obtain⟨b,h1,h2⟩:=h
 rw[bopen_v,h1.sbytes hf]
 exact h2
def RecE (W:Wld) (bytes:By) (c:Nat) (top:Two) (ep:Nat):Prop:=
 ∃(bt nn:Nat) (b:By) (tag:Two) (e2:Int),bytes=recB ep ((bt:Int)*4294967296+nn) b tag/\ep<4294967296/\bt<4294967296/\nn<=100/\b.length=32/\U2 tag/\W.cnt.at_=bt/\
  W.lk.opens (keyOf W.kys.seed ep) ⟨ep,65535,(bt:Int)*4294967296+nn⟩ [] b tag=some (rootB c e2 W.slots top)/\0<=e2/\e2<4294967296/\U2 top
theorem RecE.ok {W:Wld}{bytes:By}{c:Nat}{top:Two}{ep:Nat}(h:RecE W bytes c top ep) (he:ep∈W.kys.es):RecOk W bytes c top:=by
 obtain⟨bt,nn,b,tag,e2,h1,h2,h3,h4,h5,h6,h7,h8⟩:=h
 exact⟨ep,bt,nn,b,tag,e2,h1,h2,h3,h4,h5,h6,he,h7,h8⟩
theorem RecE.le {W W':Wld}{bytes:By}{c:Nat}{top:Two}{ep:Nat}(h:RecE W bytes c top ep) (hs:W'.kys.seed=W.kys.seed) (hl:W.lk.le W'.lk) (hc:W'.cnt.at_=W.cnt.at_) (hn:W'.slots=W.slots):RecE W' bytes c top ep:=by
 obtain⟨bt,nn,b,tag,e2,h1,h2,h3,h4,h5,h6,h7,h8,h9⟩:=h
 exact⟨bt,nn,b,tag,e2,h1,h2,h3,h4,h5,h6,hc.trans h7,by rw[hs,hn];exact Lk.opens_le hl h8,h9⟩
theorem Lk.sum_le {L L':Lk}(s:By) (h:(L.summed s).le L'):L'.sum s=L.sum s:=by
 cases L with
 |real=>cases L' with
  |real=>rfl
  |ideal O=>exact h.elim
 |ideal O=>cases L' with
  |real=>exact h.elim
  |ideal O'=>
   obtain⟨_,S,hS⟩:=h
   have hS:O'.sums=sumsOf O.sums s++S:=hS
   show(kSum,(O'.sums.idxOf s:Int)+1)=(kSum,(O.sums.idxOf s:Int)+1)
   have:O'.sums.idxOf s=O.sums.idxOf s:=by
    rw[hS]
    unfold sumsOf
    by_cases c:s∈O.sums
    ·rw[if_pos c,List.idxOf_append,if_pos c]
    ·rw[if_neg c,List.append_assoc,List.idxOf_append,if_neg c,List.idxOf_eq_length c]
     simp
   rw[this]
theorem lfL_mono (L:Lk) (R:List By) (i:Nat):∀j,i<=j->(lfL L R i).le (lfL L R j)
 |0,h=>by rw[show i=0 by omega];exact Lk.le_refl _
 |j+1,h=>by
  by_cases c:i=j+1
  ·rw[c];exact Lk.le_refl _
  ·exact Lk.le_trans (lfL_mono L R i j (by omega)) (Lk.le_summed _ _)
theorem nd2_mono (L:Lk) (R:List By) (i:Nat):∀j,i<=j->(nd2 L R i).1.le (nd2 L R j).1
 |0,h=>by rw[show i=0 by omega];exact Lk.le_refl _
 |j+1,h=>by
  by_cases c:i=j+1
  ·rw[c];exact Lk.le_refl _
  ·exact Lk.le_trans (nd2_mono L R i j (by omega)) (Lk.le_summed _ _)
theorem nd2_le_same {L L':Lk}(R:List By) (h:(bldL L R).le L'):∀j,j<=R.length-1->(nd2 L' R j).2=(nd2 L R j).2
 |0,_=>by
  have hl:∀i,i<R.length->lfN L' R i=lfN L R i:=fun i hi=>by
   unfold lfN
   refine Lk.sum_le (L:=lfL L R i) (L':=lfL L' R i) _ (Lk.le_trans ?_ (Lk.le_trans h (lfL_le L' R i)))
   exact Lk.le_trans (lfL_mono L R (i+1) R.length (by omega)) (nd2_mono L R 0 (R.length-1) (Nat.zero_le _))
  show nd1 L' R R.length=nd1 L R R.length
  funext k
  unfold nd1
  split
  ·rename_i hk
   exact hl _ (by omega)
  ·rfl
 |j+1,hj=>by
  have ih:=nd2_le_same R h j (by omega)
  simp only[nd2]
  rw[ih]
  funext k
  split
  ·refine Lk.sum_le _ ?_
   refine Lk.le_trans ?_ (Lk.le_trans h (nd2_le L' R j))
   have:(nd2 L R (j+1)).1.le (bldL L R):=nd2_mono L R (j+1) (R.length-1) hj
   exact this
  ·rfl
def TopOk (L:Lk) (R:List By) (top:Two):Prop:=∀L',L.le L'->bldN L' R 1=top
theorem TopOk.le {L L':Lk}{R:List By}{top:Two}(h:TopOk L R top) (hl:L.le L'):TopOk L' R top:=fun L'' hl'=>h L'' (Lk.le_trans hl hl')
theorem topOk_bld (L:Lk) (R:List By):TopOk (bldL L R) R (bldN L R 1):=fun L' hl=>by
 unfold bldN
 rw[nd2_le_same R hl _ (Nat.le_refl _)]
end Go.Proofs.YtggmdjdflaglpaaGreat
namespace Go.Proofs.YtggmdjdflaglpaaGreat
open Go.RowKit Go.Proofs.YtggmdjdflaglpaaGreat.geo
set_option linter.unusedVariables false
def Reg (n c p m:Nat):Prop:=p+m<=n*32\/(aoff n (c%2)<=p/\p+m<=aoff n (c%2)+n*64)\/(n*160+c%2*60<=p/\p+m<=n*160+c%2*60+60)
theorem aoff_two (n:Nat):aoff n 0=n*32/\aoff n 1=n*96:=by unfold aoff;omega
theorem noff_two (n:Nat):noff n 0=n*64/\noff n 1=n*128:=by unfold noff;omega
theorem Reg.leafs {n c p m:Nat}(h:Reg n c p m) (r:By) (hr:r.length=32*n):(⟨((aoff n ((c+1)%2):Nat):Int),r⟩:Opn).far p m:=by
 have h0:=aoff_two n
 unfold Opn.far
 simp only[hr]
 unfold Reg at h
 rcases(by omega:c%2=0/\(c+1)%2=1\/c%2=1/\(c+1)%2=0)with⟨e1,e2⟩|⟨e1,e2⟩<;>rw[e1]at h<;>rw[e2]<;>omega
theorem Reg.nodes {n c p m:Nat}(h:Reg n c p m) (r:By) (hr:r.length=16*(2*n)):(⟨((noff n ((c+1)%2):Nat):Int),r⟩:Opn).far p m:=by
 have h0:=aoff_two n
 have h1:=noff_two n
 unfold Opn.far
 simp only[hr]
 unfold Reg at h
 rcases(by omega:c%2=0/\(c+1)%2=1\/c%2=1/\(c+1)%2=0)with⟨e1,e2⟩|⟨e1,e2⟩<;>rw[e1]at h<;>rw[e2]<;>omega
theorem Reg.recd {n c p m:Nat}(h:Reg n c p m) (r:By) (hr:r.length=60):(⟨((n*160+(c+1)%2*60:Nat):Int),r⟩:Opn).far p m:=by
 have h0:=aoff_two n
 unfold Opn.far
 simp only[hr]
 unfold Reg at h
 rcases(by omega:c%2=0/\(c+1)%2=1\/c%2=1/\(c+1)%2=0)with⟨e1,e2⟩|⟨e1,e2⟩<;>rw[e1]at h<;>rw[e2]<;>omega
section
variable {W:Wld}{M:Mk}{ls:List Lf}{k p m:Nat}{b:By}
theorem aw_in (hf:W.fit k) (hn:ls.length=W.slots) {j:Nat}(hj:j<2):
 (aw1 W ls).fit (k+32)/\(⟨((aoff ls.length j:Nat):Int),allB ls ls.length⟩:Opn).in_ (aw1 W ls).ssd.lasts.length/\(aw2 W j ls).fit (k+34)/\(⟨((noff ls.length j:Nat):Int),sumB (bldN W.lk (ls.map leafB)) (2*ls.length)⟩:Opn).in_ (aw2 W j ls).ssd.lasts.length/\(aw3 W j ls).fit (k+36):=by
 have hV:=hf.geo
 have hn16:4<=ls.length/\ls.length<=16:=by unfold V at hV;omega
 have f1:(aw1 W ls).fit (k+32):=(hf.mono (by omega)).lck (bldL_lim hf.lk _ (by rw[List.length_map];omega))
 have hkn:=kn_le (n:=ls.length) hj
 have i2:(⟨((aoff ls.length j:Nat):Int),allB ls ls.length⟩:Opn).in_ (aw1 W ls).ssd.lasts.length:=by
  refine in_gen (by rw[allB_len ls _ (Nat.le_refl _)];omega) ?_
  show aoff ls.length j+_<=W.ssd.lasts.length
  rw[hf.size,allB_len ls _ (Nat.le_refl _),<-hn]
  unfold aoff
  omega
 have f2:(aw2 W j ls).fit (k+34):=f1.swr i2
 have i3:(⟨((noff ls.length j:Nat):Int),sumB (bldN W.lk (ls.map leafB)) (2*ls.length)⟩:Opn).in_ (aw2 W j ls).ssd.lasts.length:=by
  refine in_gen (by rw[sumB_len];omega) ?_
  have hs:=f2.size
  have hsl:(aw2 W j ls).slots=W.slots:=rfl
  rw[hsl]at hs
  rw[hs,sumB_len,<-hn]
  unfold noff
  omega
 exact⟨f1,i2,f2,i3,f2.swr i3⟩
theorem dur_awr (hn:ls.length=W.slots) (hr:Reg W.slots W.cnt.value p m) (h:Dur W.ssd p m b):Dur (awr W ((W.cnt.value+1)%2) ls).2.2.ssd p m b:=by
 have h1:Dur (aw1 W ls).ssd p m b:=h
 have h2:Dur (aw2 W ((W.cnt.value+1)%2) ls).ssd p m b:=h1.swr (by rw[hn];exact hr.leafs _ (by rw[<-hn];exact allB_len ls _ (Nat.le_refl _)))
 have h3:Dur (aw3 W ((W.cnt.value+1)%2) ls).ssd p m b:=h2.swr (by rw[hn];exact hr.nodes _ (sumB_len _ _))
 unfold awr
 split
 ·split
  ·exact h3
  ·exact h3
 ·exact h2
theorem rrec_len (W:Wld) (M:Mk) (c:Nat) (t:Two):(rrec W M c t).length=60:=recB_len _ _ _ _ (Lk.shut_len _ _ _ _ _ (rootB_len _ _ _ _))
theorem dur_lgput {c:Nat}{t:Two}(hr:Reg W.slots c p m) (h:Dur W.ssd p m b):Dur (lgput W M (c+1) t).2.1.ssd p m b:=by
 unfold lgput
 split
 ·exact h
 ·have h1:Dur (rlck W M (c+1) t).ssd p m b:=h
  exact h1.swr (hr.recd _ (rrec_len W M (c+1) t))
theorem dur_cmt (hf:W.fit k) (hk:k<=900000) (hn:ls.length=W.slots) (hr:Reg W.slots W.cnt.value p m) (h:Dur W.ssd p m b):Dur (cmt W M ls).2.1.ssd p m b:=by
 have hc:=awr_slots W ((W.cnt.value+1)%2) ls
 have a1:Dur (cA W ls).2.2.ssd p m b:=dur_awr hn hr h
 have fa:(cA W ls).2.2.fit (k+40):=awr_fit hf (mod2_lt _) hn
 have a2:Dur (cA W ls).2.2.sbar.ssd p m b:=a1.sbar fa
 have g1:Dur (cG W M ls).2.1.ssd p m b:=dur_lgput (by rw[show(cA W ls).2.2.sbar.slots=W.slots from hc.1];exact hr) a2
 have fg:(cG W M ls).2.1.fit (k+45):=lgput_fit fa.sbar (by omega)
 have g2:Dur (cG W M ls).2.1.sbar.ssd p m b:=g1.sbar fg
 rw[cmt_eq]
 split
 ·exact a1
 ·split
  ·exact a2
  ·split
   ·exact g1
   ·split
    ·exact g2
    ·exact g2
theorem dur_done (h0:(cmt W M ls).1=0) (p m:Nat):Dur (cmt W M ls).2.1.ssd p m ((cmt W M ls).2.1.sbytes p m):=by
 rcases cmt_err W M ls with⟨_,_,_,_,e,_,hs,_⟩|⟨e,_⟩|⟨e,_⟩
 ·rw[e]
  show Dur (cG W M ls).2.1.sbar.ssd p m ((cG W M ls).2.1.sbar.bmp.sbytes p m)
  rw[sbytes_bmp,sbytes_sbar]
  exact dur_sbar hs p m
 ·rw[e]at h0;cases h0
 ·rw[e]at h0;cases h0
theorem sbytes_sub {W:Wld}{p n i q:Nat}{b:By}(h:W.sbytes p n=b) (hi:i+q<=n):W.sbytes (p+i) q=(b.drop i).take q:=by
 rw[<-h]
 unfold Wld.sbytes
 rw[List.drop_take,List.take_take,List.drop_drop,Nat.min_eq_left (by omega)]
theorem allB_at {ls:List Lf}{i:Nat}{l:Lf}(h:ls[i]? =some l):((allB ls ls.length).drop (32*i)).take 32=leafB l:=by
 have hi:=(List.getElem?_eq_some_iff.1 h).1
 have e:allB ls ls.length=allB ls i++(leafB l++((ls.drop (i+1)).map leafB).flatten):=by
  unfold allB
  rw[List.take_length]
  conv=>lhs;rw[<-List.take_append_drop i ls]
  rw[List.map_append,List.flatten_append,List.drop_eq_getElem_cons hi]
  have:ls[i]=l:=(List.getElem?_eq_some_iff.1 h).2
  rw[this]
  simp
 rw[e,List.drop_left' (allB_len ls i (by omega)),List.take_left' (leafB_len l)]
theorem leafs_done (hf:W.fit k) (hk:k<=900000) (hn:ls.length=W.slots) (h0:(cmt W M ls).1=0) {i:Nat}{l:Lf}(hl:ls[i]? =some l):(cmt W M ls).2.1.sbytes (aoff ls.length ((W.cnt.value+1)%2)+32*i) 32=leafB l:=by
 obtain⟨f1,i2,f2,i3,f3⟩:=aw_in hf hn (mod2_lt (W.cnt.value+1))
 have hi:=(List.getElem?_eq_some_iff.1 hl).1
 have hal:=allB_len ls _ (Nat.le_refl ls.length)
 rcases cmt_err W M ls with⟨_,_,hn100,_,e,hs1,hs2,_,ha,hg⟩|⟨e,_⟩|⟨e,_⟩
 ·rw[e]
  show(cG W M ls).2.1.sbar.bmp.sbytes _ 32=_
  rw[sbytes_bmp,sbytes_sbar]
  rcases awr_err W ((W.cnt.value+1)%2) ls with⟨_,e3,_,_,hs3,hs4⟩|⟨e3,_⟩
  ·have b2:(aw2 W ((W.cnt.value+1)%2) ls).sbytes (aoff ls.length ((W.cnt.value+1)%2)) (32*ls.length)=allB ls ls.length:=by
    have:=sbytes_swr_on f1 i2 (p:=aoff ls.length ((W.cnt.value+1)%2)) rfl hs3
    rw[hal]at this
    exact this
   have b3:(aw2 W ((W.cnt.value+1)%2) ls).sbytes (aoff ls.length ((W.cnt.value+1)%2)+32*i) 32=leafB l:=by
    rw[sbytes_sub b2 (by omega)]
    exact allB_at hl
   have hnl:noff ls.length ((W.cnt.value+1)%2)=aoff ls.length ((W.cnt.value+1)%2)+ls.length*32:=by unfold noff aoff;omega
   have b4:(aw3 W ((W.cnt.value+1)%2) ls).sbytes (aoff ls.length ((W.cnt.value+1)%2)+32*i) 32=leafB l:=by
    unfold aw3
    rw[sbytes_swr_far f2 i3 (.inl (by rw[hnl];omega)),b3]
   have fa:(cA W ls).2.2.fit (k+40):=awr_fit hf (mod2_lt _) hn
   have hc:=awr_slots W ((W.cnt.value+1)%2) ls
   have a1:(cA W ls).2.2.sbar.sbytes (aoff ls.length ((W.cnt.value+1)%2)+32*i) 32=leafB l:=by
    rw[sbytes_sbar]
    show(awr W ((W.cnt.value+1)%2) ls).2.2.sbytes _ 32=_
    rw[e3]
    exact b4
   have fs:=fa.sbar
   rcases lgput_err (cA W ls).2.2.sbar M (W.cnt.value+1) (cA W ls).1 with⟨h1,_⟩|⟨_,_,_,e5,_⟩|⟨_,h1,_⟩
   ·exact absurd h1 hn100
   ·show(lgput (cA W ls).2.2.sbar M (W.cnt.value+1) (cA W ls).1).2.1.sbytes _ 32=_
    rw[e5]
    have f4:(rlck (cA W ls).2.2.sbar M (W.cnt.value+1) (cA W ls).1).fit (k+42):=(fs.mono (by omega)).lck (Lk.lim_mono (Lk.lim_shutd fs.lk _ _ _ _) (by omega))
    have hsl:(cA W ls).2.2.sbar.slots=W.slots:=hc.1
    have hro:roff (cA W ls).2.2.sbar (W.cnt.value+1)=W.slots*160+(W.cnt.value+1)%2*60:=by unfold roff;rw[hsl]
    have hrl:=rrec_len (cA W ls).2.2.sbar M (W.cnt.value+1) (cA W ls).1
    have i5:(⟨((roff (cA W ls).2.2.sbar (W.cnt.value+1):Nat):Int),rrec (cA W ls).2.2.sbar M (W.cnt.value+1) (cA W ls).1⟩:Opn).in_ (rlck (cA W ls).2.2.sbar M (W.cnt.value+1) (cA W ls).1).ssd.lasts.length:=in_gen (by rw[hrl];omega) (by
     rw[f4.size,hrl,hro]
     show _<=(cA W ls).2.2.sbar.slots*160+120
     rw[hsl]
     omega)
    have hkn:=kn_le (n:=ls.length) (mod2_lt (W.cnt.value+1))
    rw[sbytes_swr_far f4 i5 (.inl (by rw[hro];unfold aoff;omega))]
    exact a1
   ·exact absurd hg (by show(lgput _ _ _ _).1≠0;rw[h1];decide)
  ·exact absurd ha (by show(awr _ _ _).2.1≠0;rw[e3];decide)
 ·rw[e]at h0;cases h0
 ·rw[e]at h0;cases h0
theorem rec_done (hf:W.fit k) (hk:k<=900000) (hn:ls.length=W.slots) (hg:W.lk.good) (hb:M.boot=W.cnt.boots) (hb2:M.boot<4294967296) (hm:M.n<=100) (h0:(cmt W M ls).1=0):
 (cmt W M ls).2.1.cnt.value=W.cnt.value+1/\(cmt W M ls).2.1.cnt.boots=W.cnt.boots/\RecE (cmt W M ls).2.1 ((cmt W M ls).2.1.sbytes (roff W (W.cnt.value+1)) 60) (W.cnt.value+1) (bldN W.lk (ls.map leafB) 1) W.kys.cur/\TopOk (cmt W M ls).2.1.lk (ls.map leafB) (bldN W.lk (ls.map leafB) 1):=by
 have hV:=hf.geo
 have hn16:4<=ls.length/\ls.length<=16:=by unfold V at hV;omega
 rcases cmt_err W M ls with⟨_,_,hn100,_,e,hs1,hs2,hs3,ha,hgg⟩|⟨e,_⟩|⟨e,_⟩
 ·rcases awr_err W ((W.cnt.value+1)%2) ls with⟨_,e3,e4,_⟩|⟨e3,_⟩
  ·rcases lgput_err (cA W ls).2.2.sbar M (W.cnt.value+1) (cA W ls).1 with⟨h1,_⟩|⟨_,_,_,e5,e6,_⟩|⟨_,h1,_⟩
   ·exact absurd h1 hn100
   ·have hc:=awr_slots W ((W.cnt.value+1)%2) ls
    have hsl:(cA W ls).2.2.sbar.slots=W.slots:=hc.1
    have hky:(cA W ls).2.2.sbar.kys=W.kys:=hc.2.2.1
    have hcn:(cA W ls).2.2.sbar.cnt=W.cnt:=hc.2.1
    have hlk:(cA W ls).2.2.sbar.lk=bldL W.lk (ls.map leafB):=awr_lk W _ ls
    have htop:(cA W ls).1=bldN W.lk (ls.map leafB) 1:=e4
    have fa:(cA W ls).2.2.fit (k+40):=awr_fit hf (mod2_lt _) hn
    have fs:=fa.sbar
    have hgd:(cA W ls).2.2.sbar.lk.good:=by rw[hlk];exact bldL_good hg _
    rw[e]
    obtain⟨W2,hW2⟩:∃W2,W2=(cA W ls).2.2.sbar:=⟨_,rfl⟩
    have hG:(cG W M ls).2.1=(rlck W2 M (W.cnt.value+1) (cA W ls).1).swr (roff W2 (W.cnt.value+1)) (rrec W2 M (W.cnt.value+1) (cA W ls).1):=by rw[hW2];exact e5
    rw[<-hW2]at hsl hky hcn hlk fs hgd e6
    have f4:(rlck W2 M (W.cnt.value+1) (cA W ls).1).fit (k+42):=(fs.mono (by omega)).lck (Lk.lim_mono (Lk.lim_shutd fs.lk _ _ _ _) (by omega))
    have hro:roff W2 (W.cnt.value+1)=roff W (W.cnt.value+1):=by unfold roff;rw[hsl]
    have hrl:=rrec_len W2 M (W.cnt.value+1) (cA W ls).1
    have i5:(⟨((roff W2 (W.cnt.value+1):Nat):Int),rrec W2 M (W.cnt.value+1) (cA W ls).1⟩:Opn).in_ (rlck W2 M (W.cnt.value+1) (cA W ls).1).ssd.lasts.length:=in_gen (by rw[hrl];omega) (by
     rw[f4.size,hrl]
     unfold roff
     show _<=W2.slots*160+120
     omega)
    have hby:(cG W M ls).2.1.sbytes (roff W (W.cnt.value+1)) 60=rrec W2 M (W.cnt.value+1) (cA W ls).1:=by
     rw[hG,<-hro]
     have:=sbytes_swr_on f4 i5 (p:=roff W2 (W.cnt.value+1)) rfl e6
     rw[hrl]at this
     exact this
    have hbump:(cG W M ls).2.1.sbar.bmp.cnt=bump W.cnt:=by
     show(if(spend (cG W M ls).2.1.sbar.pow).2 then bump (cG W M ls).2.1.sbar.cnt else _)=_
     rw[if_pos hs3]
     show bump (cG W M ls).2.1.cnt=_
     rw[hG]
     show bump W2.cnt=_
     rw[hcn]
    have hkyG:(cG W M ls).2.1.sbar.bmp.kys=W.kys:=by show(cG W M ls).2.1.kys=_;rw[hG];exact hky
    have hslG:(cG W M ls).2.1.sbar.bmp.slots=W.slots:=by show(cG W M ls).2.1.slots=_;rw[hG];exact hsl
    have hlkG:(cG W M ls).2.1.sbar.bmp.lk=W2.lk.shutd W2.curKey (M.nonce W2.kys.cur 65535) [] (rdat W2 (W.cnt.value+1) (cA W ls).1):=by show(cG W M ls).2.1.lk=_;rw[hG];rfl
    have hcur:W.kys.cur<4294967296:=by have:=W.kys.cur_le (Nat.le_trans hf.kys (by omega));omega
    refine⟨by show(cG W M ls).2.1.sbar.bmp.cnt.value=_;rw[hbump];rfl,by show(cG W M ls).2.1.sbar.bmp.cnt.boots=_;rw[hbump];rfl,?_,?_⟩
    ·show RecE (cG W M ls).2.1.sbar.bmp ((cG W M ls).2.1.sbar.bmp.sbytes _ 60) _ _ _
     rw[sbytes_bmp,sbytes_sbar,hby]
     refine⟨M.boot,M.n+1,(W2.lk.shut W2.curKey (M.nonce W2.kys.cur 65535) [] (rdat W2 (W.cnt.value+1) (cA W ls).1)).1,(W2.lk.shut W2.curKey (M.nonce W2.kys.cur 65535) [] (rdat W2 (W.cnt.value+1) (cA W ls).1)).2,W.kys.cur,?_,hcur,hb2,by omega,Lk.shut_len _ _ _ _ _ (rootB_len _ _ _ _),Lk.shut_u fs.lk (by omega) _ _ _ _,?_,?_,by omega,by omega,?_⟩
     ·unfold rrec
      rw[hky]
      rfl
     ·rw[hbump];exact hb.symm
     ·have ho:=Lk.opens_shut hgd W2.curKey (M.nonce W2.kys.cur 65535) [] (rdat W2 (W.cnt.value+1) (cA W ls).1) (rootB_len _ _ _ _)
      rw[hlkG,hkyG,hslG]
      have hcK:W2.curKey=keyOf W.kys.seed W.kys.cur:=by unfold Wld.curKey;rw[hky]
      have hnn:M.nonce W2.kys.cur 65535=⟨W.kys.cur,65535,(M.boot:Int)*4294967296+((M.n+1:Nat):Int)⟩:=by rw[hky];rfl
      have hrd:rdat W2 (W.cnt.value+1) (cA W ls).1=rootB ((W.cnt.value+1:Nat):Int) W.kys.cur W.slots (bldN W.lk (ls.map leafB) 1):=by unfold rdat;rw[hky,hsl,htop]
      rw[hrd]at ho ⊢
      rw[hcK,hnn]at ho ⊢
      exact ho
     ·unfold bldN
      exact nd2_u hf.lk (by rw[List.length_map];omega) (by omega) _ _ (by rw[List.length_map];omega)
    ·show TopOk (cG W M ls).2.1.sbar.bmp.lk _ _
     rw[hlkG]
     refine(topOk_bld W.lk (ls.map leafB)).le ?_
     rw[<-hlk]
     exact Lk.le_shutd _ _ _ _ _
   ·exact absurd hgg (by show(lgput _ _ _ _).1≠0;rw[h1];decide)
  ·exact absurd ha (by show(awr _ _ _).2.1≠0;rw[e3];decide)
 ·rw[e]at h0;cases h0
 ·rw[e]at h0;cases h0
end
end Go.Proofs.YtggmdjdflaglpaaGreat
namespace Go.Proofs.YtggmdjdflaglpaaGreat
open Go.RowKit Go.Proofs.YtggmdjdflaglpaaGreat.geo
open Go.Proofs.YtggmdjdflaglpaaGreat.r27 (okc upd)
set_option linter.unusedVariables false
def Cch.wf (C:Cch) (s:Nat):Lf:=C.was.getD s Lf.no
def DurC (W:Wld) (ls:List Lf) (ep:Nat):Prop:=
 (W.cnt.value=0/\ls=List.replicate W.slots Lf.no)\/
 (W.cnt.value≠0/\∃top rb,Dur W.ssd (roff W W.cnt.value) 60 rb/\RecE W rb W.cnt.value top ep/\(∀(i:Nat) (l:Lf),ls[i]? =some l->Dur W.ssd (aoff ls.length (W.cnt.value%2)+32*i) 32 (leafB l))/\TopOk W.lk (ls.map leafB) top)
structure Per (C:Cch) (D:Nat->By):Prop where
 nowf:∀s,(C.lf s).kind=1->C.W.vopen (C.lf s) s=some (D s)
 wasf:∀s,(C.wf s).kind=1->DurL C.W (C.wf s) s (D s)
 dlen:∀s,(D s).length=32
 com:∃ep,ep∈C.W.kys.es/\DurC C.W C.was ep
 wok:∀i:Nat,(C.wf i).ok i
 wl:C.was.length=C.W.slots
 none_:∀s s',(C.lf s).kind≠0->(C.lf s').kind≠0->(C.lf s).lba=(C.lf s').lba->s=s'
 wone:∀s s',(C.wf s).kind≠0->(C.wf s').kind≠0->(C.wf s).lba=(C.wf s').lba->s=s'
 boot:C.M.boot=C.W.cnt.boots
def Need (C:Cch) (p m:Nat):Prop:=(∃s,(C.wf s).kind=1/\p=s*32/\m=32)\/(aoff C.W.slots (C.W.cnt.value%2)<=p/\p+m<=aoff C.W.slots (C.W.cnt.value%2)+C.W.slots*64)\/(p=C.W.slots*160+C.W.cnt.value%2*60/\m=60)
theorem wf_in {C:Cch}{s:Nat}(h:(C.wf s).kind≠0):s<C.was.length:=by
 rcases Nat.lt_or_ge s C.was.length with c|c
 ·exact c
 ·exfalso
  apply h
  unfold Cch.wf
  rw[List.getD_eq_getElem?_getD,List.getElem?_eq_none c]
  rfl
section
variable {C C':Cch}{D:Nat->By}{k t:Nat}
theorem Need.reg (h:Per C D) {p m:Nat}(hn:Need C p m):Reg C.W.slots C.W.cnt.value p m:=by
 rcases hn with⟨s,h1,rfl,rfl⟩|h1|⟨rfl,rfl⟩
 ·have:=wf_in (C:=C) (s:=s) (by omega)
  rw[h.wl]at this
  exact .inl (by omega)
 ·exact .inr (.inl h1)
 ·exact .inr (.inr ⟨by omega,by omega⟩)
theorem DurC.keep {W W':Wld}{ls:List Lf}{ep:Nat}(h:DurC W ls ep) (hn:ls.length=W.slots) (hs:W'.kys.seed=W.kys.seed) (hl:W.lk.le W'.lk) (hsl:W'.slots=W.slots) (hv:W'.cnt.value=W.cnt.value) (ha:W'.cnt.at_=W.cnt.at_)
 (hr:∀p m b,((aoff W.slots (W.cnt.value%2)<=p/\p+m<=aoff W.slots (W.cnt.value%2)+W.slots*64)\/(p=W.slots*160+W.cnt.value%2*60/\m=60))->Dur W.ssd p m b->Dur W'.ssd p m b):DurC W' ls ep:=by
 rcases h with⟨h1,h2⟩|⟨h1,top,rb,h2,h3,h4,h5⟩
 ·exact .inl ⟨hv.trans h1,by rw[hsl];exact h2⟩
 ·refine .inr ⟨by rw[hv];exact h1,top,rb,?_,?_,?_,h5.le hl⟩
  ·have e:roff W' W'.cnt.value=roff W W.cnt.value:=by unfold roff;rw[hsl,hv]
   rw[e]
   exact hr _ _ _ (.inr ⟨rfl,rfl⟩) h2
  ·rw[hv];exact h3.le hs hl ha hsl
  ·intro i l hil
   have hi:=(List.getElem?_eq_some_iff.1 hil).1
   rw[hv]
   refine hr _ _ _ (.inl ?_) (h4 i l hil)
   rw[<-hn]
   omega
theorem Per.world (h:Per C D) (hl:C'.now=C.now) (hw:C'.was=C.was) (hM:C'.M.boot=C.M.boot) (hes:∀e,e∈C.W.kys.es->e∈C'.W.kys.es) (hsd:C'.W.kys.seed=C.W.kys.seed) (hlk:C.W.lk.le C'.W.lk) (hsl:C'.W.slots=C.W.slots)
 (hv:C'.W.cnt.value=C.W.cnt.value) (ha:C'.W.cnt.at_=C.W.cnt.at_) (hb:C'.W.cnt.boots=C.W.cnt.boots) (hr:∀p m b,Need C p m->Dur C.W.ssd p m b->Dur C'.W.ssd p m b) (ho:∀s b,(C.lf s).kind=1->C.W.vopen (C.lf s) s=some b->C'.W.vopen (C.lf s) s=some b):Per C' D:=by
 have el:∀s,C'.lf s=C.lf s:=fun s=>by unfold Cch.lf;rw[hl]
 have ew:∀s,C'.wf s=C.wf s:=fun s=>by unfold Cch.wf;rw[hw]
 obtain⟨ep,h1,h2⟩:=h.com
 refine⟨fun s hs=>?_,fun s hs=>?_,h.dlen,⟨ep,hes ep h1,?_⟩,fun i=>by rw[ew];exact h.wok i,by rw[hw,hsl];exact h.wl,fun s s' a b c=>?_,fun s s' a b c=>?_,hM.trans (h.boot.trans hb.symm)⟩
 ·rw[el]at hs ⊢;exact ho s _ hs (h.nowf s hs)
 ·rw[ew]at hs ⊢
  obtain⟨b,d1,d2⟩:=h.wasf s hs
  exact⟨b,hr _ _ _ (.inl ⟨s,hs,rfl,rfl⟩) d1,bopen_le d2 hes hsd hlk⟩
 ·rw[hw]
  exact h2.keep h.wl hsd hlk hsl hv ha (fun p m b e=>hr p m b (.inr e))
 ·rw[el]at a c;rw[el]at b c;exact h.none_ s s' a b c
 ·rw[ew]at a c;rw[ew]at b c;exact h.wone s s' a b c
theorem Per.wld (h:Per C D) {W':Wld}(hes:∀e,e∈C.W.kys.es->e∈W'.kys.es) (hsd:W'.kys.seed=C.W.kys.seed) (hlk:W'.lk=C.W.lk) (hsl:W'.slots=C.W.slots) (hc:W'.cnt=C.W.cnt) (hss:W'.ssd=C.W.ssd):Per (C.wld W') D:=by
 refine h.world (C':=C.wld W') rfl rfl rfl hes hsd (by show C.W.lk.le W'.lk;rw[hlk];exact Lk.le_refl _) hsl (by show W'.cnt.value=_;rw[hc]) (by show W'.cnt.at_=_;rw[hc]) (by show W'.cnt.boots=_;rw[hc]) (fun p m b _ hd=>by show Dur W'.ssd p m b;rw[hss];exact hd) (fun s b _ ho=>?_)
 refine vopen_le ho hes hsd (by show C.W.lk.le W'.lk;rw[hlk];exact Lk.le_refl _) ?_
 show((snap W'.ssd).drop _).take _=_
 rw[hss]
 rfl
theorem Per.dwr (h:Per C D) (i:Int) (b:By):Per (C.wld (C.W.dwr i b)) D:=by
 have e:(C.W.dwr i b).kys=C.W.kys/\(C.W.dwr i b).lk=C.W.lk/\(C.W.dwr i b).slots=C.W.slots/\(C.W.dwr i b).cnt=C.W.cnt/\(C.W.dwr i b).ssd=C.W.ssd:=by
  unfold Wld.dwr
  split<;>exact⟨rfl,rfl,rfl,rfl,rfl⟩
 exact h.wld (fun x hx=>by rw[e.1];exact hx) (by rw[e.1]) e.2.1 e.2.2.1 e.2.2.2.1 e.2.2.2.2
theorem Per.dbar (h:Per C D):Per (C.wld C.W.dbar) D:=h.wld (fun x hx=>hx) rfl rfl rfl rfl rfl
theorem es_add (K:Kys) (h2:K.two=false) {e:Nat}(h:e∈K.es):e∈(⟨K.seed,K.a,true⟩:Kys).es:=by
 unfold Kys.es at h ⊢
 rw[h2,if_neg (by simp)]at h
 simp at h
 subst h
 simp
theorem Per.kadd (h:Per C D) (h2:C.W.kys.two=false):Per (C.wld C.W.kadd) D:=by
 cases hs:(spend C.W.pow).2 with
 |true=>
  have e:C.W.kadd.kys=⟨C.W.kys.seed,C.W.kys.a,true⟩:=by show(if(spend C.W.pow).2 then _ else _)=_;rw[if_pos hs]
  exact h.wld (fun x hx=>by rw[e];exact es_add _ h2 hx) (by rw[e]) rfl rfl rfl rfl
 |false=>
  have e:C.W.kadd.kys=C.W.kys:=by show(if(spend C.W.pow).2 then _ else _)=_;rw[if_neg (by rw[hs];simp)]
  exact h.wld (fun x hx=>by rw[e];exact hx) (by rw[e]) rfl rfl rfl rfl
theorem Per.bad (h:Per C D):Per C.bad D:=h.world rfl rfl rfl (fun e he=>he) rfl (Lk.le_refl _) rfl rfl rfl rfl (fun p m b _ hd=>hd) (fun s b _ ho=>ho)
theorem Per.touch (h:Per C D) (s:Nat):Per (ctouch C s) D:=h.world rfl rfl rfl (fun e he=>he) rfl (Lk.le_refl _) rfl rfl rfl rfl (fun p m b _ hd=>hd) (fun s b _ ho=>ho)
theorem Per.val (h:Per C D) (s:Nat):Per (cval C s).2.2 D:=by
 rcases cval_cch C s with e|e<;>rw[e]
 ·exact h
 ·exact h.bad
theorem Per.spill (h:Per C D) (s:Nat):Per (cspill C s).2 D:=by
 unfold cspill
 split
 ·exact h.val s
 ·exact h.dwr _ _
theorem Per.drops (h:Per C D) {s:Nat}(hs:s<C.now.length):Per (cdrops C s) D:=by
 have hl:=lf_drops (C:=C) hs
 have hsub:∀i,((cdrops C s).lf i).kind≠0->(cdrops C s).lf i=C.lf i:=fun i hi=>by
  rw[hl]at hi ⊢
  by_cases c:i=s
  ·rw[if_pos c]at hi;exact absurd rfl hi
  ·rw[if_neg c]
 refine⟨fun i hi=>?_,h.wasf,h.dlen,h.com,h.wok,h.wl,fun i j a b c=>?_,h.wone,h.boot⟩
 ·have e:=hsub i (by omega)
  rw[e]at hi ⊢
  exact h.nowf i hi
 ·have e1:=hsub i a
  have e2:=hsub j b
  rw[e1]at a c;rw[e2]at b c
  exact h.none_ i j a b c
theorem Per.clear (h:Per C D):Per (cclear C) D:=by
 refine⟨fun i hi=>?_,h.wasf,h.dlen,h.com,h.wok,h.wl,fun i j a=>?_,h.wone,h.boot⟩
 ·rw[lf_clear]at hi;cases hi
 ·rw[lf_clear]at a;exact absurd rfl a
theorem cmt_cnt {W:Wld}{M:Mk}{ls:List Lf}(h:(cmt W M ls).1≠0):(cmt W M ls).2.1.cnt=W.cnt:=by
 have h1:(cA W ls).2.2.cnt=W.cnt:=(awr_slots W ((W.cnt.value+1)%2) ls).2.1
 have h2:(cG W M ls).2.1.cnt=W.cnt:=(lgput_same (cA W ls).2.2.sbar M (W.cnt.value+1) (cA W ls).1).2.2.2.1.trans h1
 rw[cmt_eq]at h ⊢
 split
 ·exact h1
 ·rename_i n1
  rw[if_neg n1]at h
  split
  ·exact h1
  ·rename_i n2
   rw[if_neg n2]at h
   split
   ·exact h2
   ·rename_i n3
    rw[if_neg n3]at h
    split
    ·exact h2
    ·rename_i n4
     rw[if_neg n4]at h
     cases hs:(spend (cG W M ls).2.1.sbar.pow).2 with
     |true=>exact absurd (by show(if(spend (cG W M ls).2.1.sbar.pow).2 then(0:Int)else 7)=0;rw[if_pos hs]) h
     |false=>
      show(if(spend (cG W M ls).2.1.sbar.pow).2 then bump (cG W M ls).2.1.sbar.cnt else(cG W M ls).2.1.sbar.cnt)=_
      rw[if_neg (by rw[hs];simp)]
      exact h2
theorem Per.commit (h:Per C D) (hC:Cok C k t) (hk:k<=900000):Per (ccommit C).2 D/\((ccommit C).1=0->DurC (ccommit C).2.W (ccommit C).2.was C.W.kys.cur):=by
 have hcs:=cmt_same C.W C.M C.now
 have hfit:=hC.fit
 have hvo:∀s b,(C.lf s).kind=1->C.W.vopen (C.lf s) s=some b->(ccommit C).2.W.vopen (C.lf s) s=some b:=fun s b h1 h2=>vopen_commit hC hk (lf_in (by omega)) h2
 by_cases h0:(cmt C.W C.M C.now).1=0
 ·have hw:(ccommit C).2.was=C.now:=by show(if(cmt C.W C.M C.now).1=0 then C.now else C.was)=_;rw[if_pos h0]
  have hwf:∀s,(ccommit C).2.wf s=C.lf s:=fun s=>by unfold Cch.wf Cch.lf;rw[hw]
  obtain⟨r1,r2,r3,r4⟩:=rec_done hfit hk hC.nl hC.good h.boot hC.boot hC.num h0
  have hdc:DurC (ccommit C).2.W (ccommit C).2.was C.W.kys.cur:=by
   rw[hw]
   refine .inr ⟨by show(cmt C.W C.M C.now).2.1.cnt.value≠0;rw[r1];omega,bldN C.W.lk (C.now.map leafB) 1,_,dur_done h0 _ _,?_,fun i l hl=>?_,r4⟩
   ·show RecE (cmt C.W C.M C.now).2.1 ((cmt C.W C.M C.now).2.1.sbytes (roff (cmt C.W C.M C.now).2.1 (cmt C.W C.M C.now).2.1.cnt.value) 60) (cmt C.W C.M C.now).2.1.cnt.value _ _
    have e:roff (cmt C.W C.M C.now).2.1 (cmt C.W C.M C.now).2.1.cnt.value=roff C.W (C.W.cnt.value+1):=by unfold roff;rw[hcs.1,r1]
    rw[e,r1]
    exact r3
   ·show Dur (cmt C.W C.M C.now).2.1.ssd (aoff C.now.length ((cmt C.W C.M C.now).2.1.cnt.value%2)+32*i) 32 (leafB l)
    rw[r1]
    have:=dur_done h0 (aoff C.now.length ((C.W.cnt.value+1)%2)+32*i) 32
    rw[leafs_done hfit hk hC.nl h0 hl]at this
    exact this
  refine⟨⟨fun s hs=>hvo s _ hs (h.nowf s hs),fun s hs=>?_,h.dlen,⟨C.W.kys.cur,?_,hdc⟩,fun i=>by rw[hwf];exact hC.ok i,by rw[hw];show C.now.length=(cmt C.W C.M C.now).2.1.slots;rw[hcs.1];exact hC.nl,h.none_,fun s s' a b c=>?_,?_⟩,fun _=>hdc⟩
  ·rw[hwf]at hs ⊢
   exact⟨_,dur_done h0 (s*32) 32,hvo s _ hs (h.nowf s hs)⟩
  ·show C.W.kys.cur∈(cmt C.W C.M C.now).2.1.kys.es
   rw[hcs.2.1]
   unfold Kys.cur Kys.es
   split<;>simp
  ·rw[hwf]at a c;rw[hwf]at b c
   exact h.none_ s s' a b c
  ·show(cmt C.W C.M C.now).2.2.boot=(cmt C.W C.M C.now).2.1.cnt.boots
   rw[r2,<-h.boot]
   rcases cmt_mk C.W C.M C.now with e|⟨_,e⟩<;>rw[e]
   rfl
 ·have hw:(ccommit C).2.was=C.was:=by show(if(cmt C.W C.M C.now).1=0 then C.now else C.was)=_;rw[if_neg h0]
  have hcnt:(cmt C.W C.M C.now).2.1.cnt=C.W.cnt:=cmt_cnt h0
  refine⟨h.world (C':=(ccommit C).2) rfl hw ?_ (fun e he=>by show e∈(cmt C.W C.M C.now).2.1.kys.es;rw[hcs.2.1];exact he) (by show(cmt C.W C.M C.now).2.1.kys.seed=_;rw[hcs.2.1]) hcs.2.2.2.1 hcs.1 (by show(cmt C.W C.M C.now).2.1.cnt.value=_;rw[hcnt]) (by show(cmt C.W C.M C.now).2.1.cnt.at_=_;rw[hcnt]) (by show(cmt C.W C.M C.now).2.1.cnt.boots=_;rw[hcnt])
   (fun p m b hn hd=>dur_cmt hfit hk hC.nl (Need.reg h hn) hd) hvo,fun e=>absurd e h0⟩
  show(cmt C.W C.M C.now).2.2.boot=C.M.boot
  rcases cmt_mk C.W C.M C.now with e|⟨_,e⟩<;>rw[e]
  rfl
end
end Go.Proofs.YtggmdjdflaglpaaGreat
namespace Go.Proofs.YtggmdjdflaglpaaGreat
open Go.RowKit Go.Proofs.YtggmdjdflaglpaaGreat.geo
open Go.Proofs.YtggmdjdflaglpaaGreat.r27 (okc upd)
set_option linter.unusedVariables false
section
variable {C C':Cch}{D:Nat->By}{k t:Nat}
theorem upd_ne (D:Nat->By) {s i:Nat}(d:By) (h:i≠s):upd D s d i=D i:=by unfold upd;rw[if_neg h]
theorem upd_eq (D:Nat->By) (s:Nat) (d:By):upd D s d s=d:=by unfold upd;rw[if_pos rfl]
theorem Per.lcch (h:Per C D) (hC:Cok C k t) {s:Nat}(x:Nat) {data:By}(hd:data.length=32) (hs:s<C.now.length) (h0:(C.lf s).kind=0) (hw0:(C.wf s).kind=0):Per (lcch C s x data) (upd D s data):=by
 have hlen:(lsh C s x data).1.length=32:=Lk.shut_len _ _ _ _ _ hd
 have hsl:s<C.W.slots:=by rw[<-hC.nl];exact hs
 have hsw:∀p m b,Dur C.W.ssd p m b->(⟨((s*32:Nat):Int),(lsh C s x data).1⟩:Opn).far p m->Dur (lwld C s x data).ssd p m b:=fun p m b hb hf=>
  Dur.swr (W:=C.W.lck (C.W.lk.shutd C.W.curKey (lnce C s) (headB x) data)) hb hf
 obtain⟨ep,e1,e2⟩:=h.com
 refine⟨fun i hi=>?_,fun i hi=>?_,fun i=>?_,⟨ep,e1,?_⟩,h.wok,h.wl,h.none_,h.wone,h.boot⟩
 ·have hi':(C.lf i).kind=1:=hi
  have hne:i≠s:=fun c=>by rw[c,h0]at hi';cases hi'
  rw[upd_ne _ _ hne]
  exact vopen_lay hC hd hs hne (h.nowf i hi')
 ·have hi':(C.wf i).kind=1:=hi
  have hne:i≠s:=fun c=>by rw[c,hw0]at hi';cases hi'
  rw[upd_ne _ _ hne]
  obtain⟨b,d1,d2⟩:=h.wasf i hi'
  refine⟨b,hsw _ _ _ d1 ?_,bopen_le d2 (fun e he=>he) rfl (Lk.le_shutd _ _ _ _ _)⟩
  unfold Opn.far
  simp only[hlen]
  omega
 ·by_cases c:i=s
  ·rw[c,upd_eq];exact hd
  ·rw[upd_ne _ _ c];exact h.dlen i
 ·refine e2.keep h.wl rfl (Lk.le_shutd _ _ _ _ _) rfl rfl rfl (fun p m b hr hb=>hsw _ _ _ hb ?_)
  have ha:=aoff_two C.W.slots
  unfold Opn.far
  simp only[hlen]
  rcases hr with hr|hr
  ·rcases(by omega:C.W.cnt.value%2=0\/C.W.cnt.value%2=1)with e|e<;>rw[e]at hr<;>omega
  ·omega
theorem cputs_was (C:Cch) (s:Nat) (l:Lf):(cputs C s l).was=C.was:=by
 unfold cputs
 split<;>rfl
theorem puts_sub (h:∀s s',(C.lf s).kind≠0->(C.lf s').kind≠0->(C.lf s).lba=(C.lf s').lba->s=s') {s:Nat}(hs:s<C.now.length) (h0:(C.lf s).kind=0) {l:Lf}(i:Nat) (hi:((cputs C s l).lf i).kind≠0):
 ((cputs C s l).lf i=l/\i=s)\/((cputs C s l).lf i=C.lf i/\i≠s/\(C.lf i).kind≠0/\(C.lf i).lba≠l.lba):=by
 rcases lf_puts hs h0 (l:=l) i with c|c|c
 ·exact .inl c
 ·rw[c.1]at hi;exact absurd rfl hi
 ·have hk:(C.lf i).kind≠0:=by rw[<-c.1];exact hi
  refine .inr ⟨c.1,c.2.1,hk,fun e=>?_⟩
  have hc2:=c.2.2
  rcases slotOf_bd C.now l.lba with q|⟨y,q,hy,h3,h4⟩
  ·exact slotOf_no (by omega) (lf_in hk) hk e
  ·have:i=y:=h i y hk h3 (e.trans h4.symm)
   exact hc2 (by rw[q,this])
theorem Per.puts (h:Per C D) {s:Nat}(hs:s<C.now.length) (h0:(C.lf s).kind=0) {l:Lf}(hv:l.kind=1->C.W.vopen l s=some (D s)):Per (cputs C s l) D:=by
 have hW:=cputs_W C s l
 have hw:∀i,(cputs C s l).wf i=C.wf i:=fun i=>by unfold Cch.wf;rw[cputs_was]
 have hsub:=puts_sub h.none_ hs h0 (l:=l)
 refine⟨fun i hi=>?_,fun i hi=>?_,h.dlen,?_,fun i=>by rw[hw];exact h.wok i,by rw[cputs_was,hW.1];exact h.wl,fun i j a b c=>?_,fun i j a b c=>?_,by rw[hW.1,hW.2];exact h.boot⟩
 ·rw[hW.1]
  rcases hsub i (by omega)with⟨e,rfl⟩|⟨e,_⟩
  ·rw[e]at hi ⊢;exact hv hi
  ·rw[e]at hi ⊢;exact h.nowf i hi
 ·rw[hw]at hi ⊢
  rw[hW.1]
  exact h.wasf i hi
 ·rw[hW.1,cputs_was];exact h.com
 ·rcases hsub i a with⟨e1,rfl⟩|⟨e1,n1,k1,l1⟩
  ·rcases hsub j b with⟨e2,rfl⟩|⟨e2,n2,k2,l2⟩
   ·rfl
   ·rw[e1,e2]at c;exact absurd c.symm l2
  ·rcases hsub j b with⟨e2,rfl⟩|⟨e2,n2,k2,l2⟩
   ·rw[e1,e2]at c;exact absurd c l1
   ·rw[e1,e2]at c;exact h.none_ i j k1 k2 c
 ·rw[hw]at a c;rw[hw]at b c
  exact h.wone i j a b c
theorem Per.kdel (h:Per C D) (hn:∀s,C.lf s=Lf.no) (hw:∀s,C.wf s=Lf.no) (h2:C.W.kys.two=true) (hd:DurC C.W C.was C.W.kys.cur):Per (C.wld C.W.kdel) D:=by
 cases hs:(spend C.W.pow).2 with
 |false=>
  have e:C.W.kdel.kys=C.W.kys:=by show(if(spend C.W.pow).2 then _ else _)=_;rw[if_neg (by rw[hs];simp)]
  exact h.wld (fun x hx=>by rw[e];exact hx) (by rw[e]) rfl rfl rfl rfl
 |true=>
  have e:C.W.kdel.kys=⟨C.W.kys.seed,C.W.kys.a+1,false⟩:=by show(if(spend C.W.pow).2 then _ else _)=_;rw[if_pos hs]
  refine⟨fun s hi=>?_,fun s hi=>?_,h.dlen,⟨C.W.kys.cur,?_,?_⟩,h.wok,h.wl,h.none_,h.wone,h.boot⟩
  ·have hi':(C.lf s).kind=1:=hi
   rw[hn]at hi';cases hi'
  ·have hi':(C.wf s).kind=1:=hi
   rw[hw]at hi';cases hi'
  ·show C.W.kys.cur∈C.W.kdel.kys.es
   rw[e]
   unfold Kys.cur Kys.es
   rw[if_pos h2]
   simp
  ·exact hd.keep (W':=C.W.kdel) h.wl (by rw[e]) (Lk.le_refl _) rfl rfl rfl (fun p m b _ hb=>hb)
theorem DurL.world {W W':Wld}{l:Lf}{s:Nat}{v:By}(h:DurL W l s v) (hes:∀e,e∈W.kys.es->e∈W'.kys.es) (hsd:W'.kys.seed=W.kys.seed) (hlk:W.lk.le W'.lk) (hr:∀b,Dur W.ssd (s*32) 32 b->Dur W'.ssd (s*32) 32 b):DurL W' l s v:=by
 obtain⟨b,d1,d2⟩:=h
 exact⟨b,hr b d1,bopen_le d2 hes hsd hlk⟩
theorem Cch.wf_getD (C:Cch) (s:Nat):C.wf s=C.was.getD s Lf.no:=rfl
theorem Wld.fit.bot {W:Wld}{k:Nat}(h:W.fit k):W.bot.fit (k+1):=by
 have h':=h.mono (j:=k+1) (by omega)
 refine⟨h'.geo,h'.size,h'.ssd,h'.dsk,h'.lk,?_,h'.kys,h'.wts⟩
 have:=h.cnt
 unfold Wld.bot
 simp only
 split
 ·exact⟨by show W.cnt.value<=_;omega,by show W.cnt.boots+1<=_;omega⟩
 ·exact h'.cnt
def wop (C:Cch) (ks:List Bool):Wld:=(C.W.crash ks).bot
def wld2 (C:Cch) (ks:List Bool):Wld:=loadW (wop C ks) C.was
theorem wop_same (C:Cch) (ks:List Bool):(wop C ks).slots=C.W.slots/\(wop C ks).kys=C.W.kys/\(wop C ks).lk=C.W.lk/\(wop C ks).cnt=boot C.W.cnt/\(wop C ks).ssd=crashed C.W.ssd ks/\(wop C ks).dsk=dcrashed C.W.dsk ks/\(wop C ks).pow.on:=by
 have hon:(C.W.crash ks).pow.on:=⟨rfl,rfl⟩
 refine⟨rfl,rfl,rfl,?_,rfl,rfl,hon.spend.2⟩
 show(if(spend (C.W.crash ks).pow).2 then boot (C.W.crash ks).cnt else(C.W.crash ks).cnt)=_
 rw[if_pos hon.spend.1]
 rfl
theorem wld2_same (C:Cch) (ks:List Bool):(wld2 C ks).slots=C.W.slots/\(wld2 C ks).kys=C.W.kys/\C.W.lk.le (wld2 C ks).lk/\(wld2 C ks).cnt=boot C.W.cnt/\(wld2 C ks).ssd=crashed C.W.ssd ks/\(wld2 C ks).dsk=dcrashed C.W.dsk ks/\(wld2 C ks).pow.on/\(C.W.lk.good->(wld2 C ks).lk.good):=by
 obtain⟨h1,h2,h3,h4,h5,h6,h7⟩:=wop_same C ks
 unfold wld2 loadW
 split
 ·exact⟨h1,h2,by rw[h3];exact Lk.le_refl _,h4,h5,h6,h7,fun h=>by rw[h3];exact h⟩
 ·exact⟨h1,h2,by rw[<-h3];exact bldL_le _ _,h4,h5,h6,h7,fun h=>by rw[<-h3]at h;exact bldL_good h _⟩
theorem Per.com_ (h:Per C D) (hC:Cok C k t) (ks:List Bool):(C.W.cnt.value=0/\C.was=List.replicate C.W.slots Lf.no)\/(C.W.cnt.value≠0/\Com (wop C ks) C.was):=by
 obtain⟨ep,h1,h2⟩:=h.com
 obtain⟨s1,s2,s3,s4,s5,s6,s7⟩:=wop_same C ks
 rcases h2 with e|⟨h0,top,rb,d1,d2,d3,d4⟩
 ·exact .inl e
 ·have hv:(wop C ks).cnt.value=C.W.cnt.value:=by rw[s4];rfl
  have hf:(C.W.crash ks).fit k:=hC.fit.crash ks
  have hby:∀p m b,Dur C.W.ssd p m b->(wop C ks).sbytes p m=b:=fun p m b hd=>(hd.crash hC.fit ks).sbytes hf
  refine .inr ⟨h0,top,?_,fun i l hl=>?_,?_⟩
  ·rw[hv]
   have e:roff (wop C ks) C.W.cnt.value=roff C.W C.W.cnt.value:=by unfold roff;rw[s1]
   rw[e,hby _ _ _ d1]
   exact RecE.ok (ep:=ep) (d2.le (W':=wop C ks) (by rw[s2]) (by rw[s3];exact Lk.le_refl _) (by rw[s4];rfl) s1) (by rw[s2];exact h1)
  ·rw[hv]
   exact hby _ _ _ (d3 i l hl)
  ·exact d4 _ (by rw[s3];exact Lk.le_refl _)
theorem cstart_same (W:Wld) (ls:List Lf):(cstart W ls).now=ls/\(cstart W ls).was=ls/\(cstart W ls).W=W/\(cstart W ls).M=⟨W.cnt.boots,0⟩/\(cstart W ls).pois=false:=by
 have h:=ctouchs_now ⟨W,⟨W.cnt.boots,0⟩,ls,ls,[],0,false⟩ ls.length
 exact⟨h.1,h.2.1,h.2.2.1,h.2.2.2.1,h.2.2.2.2.2⟩
theorem wld2_fit (hC:Cok C k t) (ks:List Bool) (hw:C.was.length=C.W.slots):(wld2 C ks).fit (k+34):=by
 have h1:(wop C ks).fit (k+1):=(hC.fit.crash ks).bot
 have hV:=hC.fit.geo
 unfold wld2 loadW
 split
 ·exact h1.mono (by omega)
 ·exact(h1.mono (by omega)).lck (Lk.lim_mono (bldL_lim h1.lk _ (by rw[List.length_map,hw];unfold V at hV;omega)) (by omega))
theorem Per.start (h:Per C D) (hC:Cok C k t) (ks:List Bool):Per (cstart (wld2 C ks) C.was) D:=by
 obtain⟨s1,s2,s3,s4,s5,s6,s7,s8⟩:=wld2_same C ks
 obtain⟨c1,c2,c3,c4,c5⟩:=cstart_same (wld2 C ks) C.was
 have hdur:∀p m b,Dur C.W.ssd p m b->Dur (wld2 C ks).ssd p m b:=fun p m b hd=>by rw[s5];exact hd.crash hC.fit ks
 have hdl:∀s,(C.wf s).kind=1->DurL (wld2 C ks) (C.wf s) s (D s):=fun s hs=>
  (h.wasf s hs).world (by rw[s2];exact fun e he=>he) (by rw[s2]) s3 (hdur _ _)
 have hlf:∀s,(cstart (wld2 C ks) C.was).lf s=C.wf s:=fun s=>by unfold Cch.lf Cch.wf;rw[c1]
 have hwf:∀s,(cstart (wld2 C ks) C.was).wf s=C.wf s:=fun s=>by unfold Cch.wf;rw[c2]
 have hfit:=wld2_fit hC ks h.wl
 obtain⟨ep,e1,e2⟩:=h.com
 refine⟨fun s hs=>?_,fun s hs=>?_,h.dlen,⟨ep,?_,?_⟩,fun i=>by rw[hwf];exact h.wok i,by rw[c2,c3,s1];exact h.wl,fun i j a b c=>?_,fun i j a b c=>?_,by rw[c4,c3]⟩
 ·rw[c3]
  rw[hlf]at hs ⊢
  exact(hdl s hs).vopen hfit
 ·rw[c3]
  rw[hwf]at hs ⊢
  exact hdl s hs
 ·rw[c3,s2];exact e1
 ·rw[c2,c3]
  exact e2.keep h.wl (by rw[s2]) s3 s1 (by rw[s4];rfl) (by rw[s4];rfl) (fun p m b _ hb=>hdur _ _ _ hb)
 ·rw[hlf]at a c;rw[hlf]at b c
  exact h.wone i j a b c
 ·rw[hwf]at a c;rw[hwf]at b c
  exact h.wone i j a b c
end
end Go.Proofs.YtggmdjdflaglpaaGreat
namespace Go.Proofs.YtggmdjdflaglpaaGreat
open Go.RowKit Go.Proofs.YtggmdjdflaglpaaGreat.geo
open Go.Proofs.YtggmdjdflaglpaaGreat.r27 (okc upd)
set_option linter.unusedVariables false
def strip (l:Lf):Lf:=⟨l.kind,l.dirty,l.lba,l.n,(0,0)⟩
structure Eqv (A B:Cch):Prop where
 sl:A.W.slots=B.W.slots
 pow:A.W.pow=B.W.pow
 dsk:A.W.dsk=B.W.dsk
 cnt:A.W.cnt=B.W.cnt
 kys:A.W.kys=B.W.kys
 M:A.M=B.M
 now:A.now.map strip=B.now.map strip
 was:A.was.map strip=B.was.map strip
 age:A.age=B.age
 T:A.T=B.T
 pois:A.pois=B.pois
structure Rel (A B:Cch) (D:Nat->By) (k t:Nat):Prop where
 eqv:Eqv A B
 pa:Per A D
 pb:Per B D
 ca:Cok A k t
 cb:Cok B k t
 dok:A.W.dsk.ok
theorem Eqv.refl (A:Cch):Eqv A A:=⟨rfl,rfl,rfl,rfl,rfl,rfl,rfl,rfl,rfl,rfl,rfl⟩
theorem Rel.mono {A B:Cch}{D:Nat->By}{k t k' t':Nat}(h:Rel A B D k t) (hk:k<=k') (ht:t<=t'):Rel A B D k' t':=⟨h.eqv,h.pa,h.pb,h.ca.mono hk ht,h.cb.mono hk ht,h.dok⟩
theorem map_getD (L:List Lf) (s:Nat):(L.map strip).getD s Lf.no=strip (L.getD s Lf.no):=by
 rw[List.getD_eq_getElem?_getD,List.getD_eq_getElem?_getD,List.getElem?_map]
 cases L[s]? <;>rfl
section
variable {A B:Cch}{D:Nat->By}{k t:Nat}
theorem Eqv.nl (h:Eqv A B):A.now.length=B.now.length:=by
 have:=congrArg List.length h.now
 simpa using this
theorem Eqv.lf (h:Eqv A B) (s:Nat):strip (A.lf s)=strip (B.lf s):=by
 unfold Cch.lf
 rw[<-map_getD,<-map_getD,h.now]
theorem Eqv.wf (h:Eqv A B) (s:Nat):strip (A.wf s)=strip (B.wf s):=by
 unfold Cch.wf
 rw[<-map_getD,<-map_getD,h.was]
theorem strip_eq {l m:Lf}(h:strip l=strip m):l.kind=m.kind/\l.dirty=m.dirty/\l.lba=m.lba:=by
 obtain⟨a,b,c,d,e⟩:=l
 obtain⟨a',b',c',d',e'⟩:=m
 injection h with h1 h2 h3 h4
 exact⟨h1,h2,h3⟩
theorem Eqv.free (h:Eqv A B):free A=free B:=by
 have e:freeAt A.now A.was=freeAt B.now B.was:=by
  funext i
  have h1:=(strip_eq (h.lf i)).1
  have h2:=(strip_eq (h.wf i)).1
  unfold freeAt
  unfold Cch.lf at h1
  unfold Cch.wf at h2
  rw[h1,h2]
 unfold Go.Proofs.YtggmdjdflaglpaaGreat.free freeFrom
 rw[e,h.nl]
theorem Eqv.slot (h:Eqv A B) (x:Nat):slotOf A.now x=slotOf B.now x:=by
 have e:slotF A.now x=slotF B.now x:=by
  funext i
  have h1:=strip_eq (h.lf i)
  unfold Cch.lf at h1
  unfold slotF Lf.hasL
  rw[h1.1,h1.2.2]
 unfold slotOf
 rw[e,h.nl]
theorem Per.cval {C:Cch}(h:Per C D) (hC:Cok C k t) {s:Nat}(hs:(C.lf s).kind≠0):cval C s=if(C.lf s).kind=2 then(0,nought,C)else if C.W.pow.gone then(7,[],C)else(0,D s,C):=by
 rcases kind_of hC s with e|e|e
 ·exact absurd e hs
 ·unfold Go.Proofs.YtggmdjdflaglpaaGreat.cval Cch.vopen
  rw[h.nowf s e]
 ·unfold Go.Proofs.YtggmdjdflaglpaaGreat.cval
  rw[if_pos e,if_pos e]
theorem Rel.val (h:Rel A B D k t) {s:Nat}(hs:(A.lf s).kind≠0):∃e b,cval A s=(e,b,A)/\cval B s=(e,b,B)/\(e=0/\b.length=32\/e=7/\A.W.pow.gone=true)/\(e=0->b=if(A.lf s).kind=2 then nought else D s):=by
 have hk:=(strip_eq (h.eqv.lf s)).1
 rw[h.pa.cval h.ca hs,h.pb.cval h.cb (by rw[<-hk];exact hs),<-hk,<-h.eqv.pow]
 split
 ·exact⟨0,nought,rfl,rfl,.inl ⟨rfl,by simp[nought]⟩,fun _=>rfl⟩
 ·split
  ·rename_i hg
   exact⟨7,[],rfl,rfl,.inr ⟨rfl,hg⟩,fun c=>by cases c⟩
  ·exact⟨0,D s,rfl,rfl,.inl ⟨rfl,h.pa.dlen s⟩,fun _=>rfl⟩
theorem awr_sim {W W':Wld}(hp:W.pow=W'.pow) (j j':Nat) (ls ls':List Lf):(awr W j ls).2.1=(awr W' j' ls').2.1/\(awr W j ls).2.2.pow=(awr W' j' ls').2.2.pow:=by
 have h2:(aw2 W j ls).pow=(aw2 W' j' ls').pow:=by show(spend W.pow).1=(spend W'.pow).1;rw[hp]
 have h3:(aw3 W j ls).pow=(aw3 W' j' ls').pow:=by show(spend (aw2 W j ls).pow).1=(spend (aw2 W' j' ls').pow).1;rw[h2]
 unfold awr
 rw[hp,h2]
 split
 ·split
  ·exact⟨rfl,h3⟩
  ·exact⟨rfl,h3⟩
 ·exact⟨rfl,h2⟩
theorem lgput_sim {W W':Wld}(hp:W.pow=W'.pow) (M:Mk) (c c':Nat) (u u':Two):(lgput W M c u).1=(lgput W' M c' u').1/\(lgput W M c u).2.1.pow=(lgput W' M c' u').2.1.pow/\(lgput W M c u).2.2=(lgput W' M c' u').2.2:=by
 unfold lgput
 split
 ·exact⟨rfl,hp,rfl⟩
 ·refine⟨by rw[hp],?_,rfl⟩
  show(spend W.pow).1=(spend W'.pow).1
  rw[hp]
theorem cmt_sim {W W':Wld}(hp:W.pow=W'.pow) (M:Mk) (ls ls':List Lf):(cmt W M ls).1=(cmt W' M ls').1/\(cmt W M ls).2.1.pow=(cmt W' M ls').2.1.pow/\(cmt W M ls).2.2=(cmt W' M ls').2.2:=by
 have a:(cA W ls).2.1=(cA W' ls').2.1/\(cA W ls).2.2.pow=(cA W' ls').2.2.pow:=awr_sim hp _ _ _ _
 have a2:(cA W ls).2.2.sbar.pow=(cA W' ls').2.2.sbar.pow:=by show(spend (cA W ls).2.2.pow).1=(spend (cA W' ls').2.2.pow).1;rw[a.2]
 have g:(cG W M ls).1=(cG W' M ls').1/\(cG W M ls).2.1.pow=(cG W' M ls').2.1.pow/\(cG W M ls).2.2=(cG W' M ls').2.2:=lgput_sim a2 M _ _ _ _
 have g2:(cG W M ls).2.1.sbar.pow=(cG W' M ls').2.1.sbar.pow:=by show(spend (cG W M ls).2.1.pow).1=(spend (cG W' M ls').2.1.pow).1;rw[g.2.1]
 have g3:(cG W M ls).2.1.sbar.bmp.pow=(cG W' M ls').2.1.sbar.bmp.pow:=by show(spend (cG W M ls).2.1.sbar.pow).1=(spend (cG W' M ls').2.1.sbar.pow).1;rw[g2]
 rw[cmt_eq W,cmt_eq W',<-a.1,<-a.2,<-g.1,<-g.2.1,<-g2]
 split
 ·exact⟨rfl,a.2,rfl⟩
 ·split
  ·exact⟨rfl,a2,rfl⟩
  ·split
   ·exact g
   ·split
    ·exact⟨rfl,g2,g.2.2⟩
    ·exact⟨rfl,g3,g.2.2⟩
theorem cmt_cnt0 {W:Wld}{M:Mk}{ls:List Lf}(h:(cmt W M ls).1=0):(cmt W M ls).2.1.cnt=bump W.cnt:=by
 have h1:(cA W ls).2.2.cnt=W.cnt:=(awr_slots W ((W.cnt.value+1)%2) ls).2.1
 have h2:(cG W M ls).2.1.cnt=W.cnt:=(lgput_same (cA W ls).2.2.sbar M (W.cnt.value+1) (cA W ls).1).2.2.2.1.trans h1
 rcases cmt_err W M ls with⟨_,_,_,_,e,_,_,hs3,_⟩|⟨e,_⟩|⟨e,_⟩
 ·rw[e]
  show(if(spend (cG W M ls).2.1.sbar.pow).2 then bump (cG W M ls).2.1.sbar.cnt else(cG W M ls).2.1.sbar.cnt)=_
  rw[if_pos hs3]
  show bump (cG W M ls).2.1.cnt=_
  rw[h2]
 ·rw[e]at h;cases h
 ·rw[e]at h;cases h
theorem Rel.commit (h:Rel A B D k t) (hk:k<=900000):(ccommit A).1=(ccommit B).1/\Rel (ccommit A).2 (ccommit B).2 D (k+50) t/\((ccommit A).1=0->DurC (ccommit A).2.W (ccommit A).2.was A.W.kys.cur/\DurC (ccommit B).2.W (ccommit B).2.was B.W.kys.cur):=by
 have hs:=cmt_sim h.eqv.pow A.M A.now B.now
 have e1:(ccommit A).1=(ccommit B).1:=by
  show(cmt A.W A.M A.now).1=(cmt B.W B.M B.now).1
  rw[<-h.eqv.M];exact hs.1
 have sa:=cmt_same A.W A.M A.now
 have sb:=cmt_same B.W B.M B.now
 have pa:=h.pa.commit h.ca hk
 have pb:=h.pb.commit h.cb hk
 refine⟨e1,⟨⟨?_,?_,?_,?_,?_,?_,h.eqv.now,?_,h.eqv.age,h.eqv.T,h.eqv.pois⟩,pa.1,pb.1,h.ca.commit hk,h.cb.commit hk,?_⟩,fun e=>⟨pa.2 e,pb.2 (e1▸e)⟩⟩
 ·show(cmt A.W A.M A.now).2.1.slots=(cmt B.W B.M B.now).2.1.slots
  rw[sa.1,sb.1,h.eqv.sl]
 ·show(cmt A.W A.M A.now).2.1.pow=(cmt B.W B.M B.now).2.1.pow
  rw[<-h.eqv.M];exact hs.2.1
 ·show(cmt A.W A.M A.now).2.1.dsk=(cmt B.W B.M B.now).2.1.dsk
  rw[sa.2.2.1,sb.2.2.1,h.eqv.dsk]
 ·show(cmt A.W A.M A.now).2.1.cnt=(cmt B.W B.M B.now).2.1.cnt
  have e1':(cmt A.W A.M A.now).1=(cmt B.W B.M B.now).1:=e1
  by_cases c:(cmt A.W A.M A.now).1=0
  ·rw[cmt_cnt0 c,cmt_cnt0 (e1'▸c),h.eqv.cnt]
  ·rw[cmt_cnt c,cmt_cnt (e1'▸c),h.eqv.cnt]
 ·show(cmt A.W A.M A.now).2.1.kys=(cmt B.W B.M B.now).2.1.kys
  rw[sa.2.1,sb.2.1,h.eqv.kys]
 ·show(cmt A.W A.M A.now).2.2=(cmt B.W B.M B.now).2.2
  rw[<-h.eqv.M];exact hs.2.2
 ·show(if(ccommit A).1=0 then A.now else A.was).map strip=(if(ccommit B).1=0 then B.now else B.was).map strip
  rw[<-e1]
  split
  ·exact h.eqv.now
  ·exact h.eqv.was
 ·show(cmt A.W A.M A.now).2.1.dsk.ok
  rw[sa.2.2.1];exact h.dok
theorem Rel.touch (h:Rel A B D k t) {s:Nat}(hs:(A.lf s).kind≠0):Rel (ctouch A s) (ctouch B s) D k (t+1):=by
 have hk:=(strip_eq (h.eqv.lf s)).1
 refine⟨⟨h.eqv.sl,h.eqv.pow,h.eqv.dsk,h.eqv.cnt,h.eqv.kys,h.eqv.M,h.eqv.now,h.eqv.was,?_,?_,h.eqv.pois⟩,h.pa.touch s,h.pb.touch s,h.ca.touch hs,h.cb.touch (by rw[<-hk];exact hs),h.dok⟩
 ·show dl s A.age++_=dl s B.age++_
  rw[h.eqv.age]
 ·show A.T+1=B.T+1
  rw[h.eqv.T]
theorem Rel.drops (h:Rel A B D k t) {s:Nat}(hs:s<A.now.length):Rel (cdrops A s) (cdrops B s) D k t:=by
 have hsb:s<B.now.length:=by rw[<-h.eqv.nl];exact hs
 refine⟨⟨h.eqv.sl,h.eqv.pow,h.eqv.dsk,h.eqv.cnt,h.eqv.kys,h.eqv.M,?_,h.eqv.was,?_,h.eqv.T,h.eqv.pois⟩,h.pa.drops hs,h.pb.drops hsb,h.ca.drops hs,h.cb.drops hsb,h.dok⟩
 ·show(A.now.set s Lf.no).map strip=(B.now.set s Lf.no).map strip
  rw[List.map_set,List.map_set,h.eqv.now]
 ·show dl s A.age=dl s B.age
  rw[h.eqv.age]
theorem Rel.clear (h:Rel A B D k t):Rel (cclear A) (cclear B) D k t:=by
 refine⟨⟨h.eqv.sl,h.eqv.pow,h.eqv.dsk,h.eqv.cnt,h.eqv.kys,h.eqv.M,?_,h.eqv.was,rfl,rfl,h.eqv.pois⟩,h.pa.clear,h.pb.clear,h.ca.clear,h.cb.clear,h.dok⟩
 show(List.replicate A.now.length Lf.no).map strip=(List.replicate B.now.length Lf.no).map strip
 rw[h.eqv.nl]
theorem Rel.dbar (h:Rel A B D k t):Rel (A.wld A.W.dbar) (B.wld B.W.dbar) D (k+1) t:=by
 refine⟨⟨h.eqv.sl,?_,?_,h.eqv.cnt,h.eqv.kys,h.eqv.M,h.eqv.now,h.eqv.was,h.eqv.age,h.eqv.T,h.eqv.pois⟩,h.pa.dbar,h.pb.dbar,h.ca.dbar,h.cb.dbar,dok_dbar h.dok⟩
 ·show(spend A.W.pow).1=(spend B.W.pow).1
  rw[h.eqv.pow]
 ·show(if(spend A.W.pow).2 then dsettled A.W.dsk else A.W.dsk)=(if(spend B.W.pow).2 then dsettled B.W.dsk else B.W.dsk)
  rw[h.eqv.pow,h.eqv.dsk]
theorem Rel.dwr (h:Rel A B D k t) {i:Int}{b:By}(i0:0<=i) (i1:i<32) (hb:b.length=32):Rel (A.wld (A.W.dwr i b)) (B.wld (B.W.dwr i b)) D (k+2) t/\(A.W.dwr i b).pow=(B.W.dwr i b).pow:=by
 have hpd:(A.W.dwr i b).pow=(B.W.dwr i b).pow/\(A.W.dwr i b).dsk=(B.W.dwr i b).dsk:=by
  unfold Wld.dwr
  rw[h.eqv.dsk]
  split
  ·exact⟨h.eqv.pow,h.eqv.dsk⟩
  ·simp only
   rw[h.eqv.pow]
   exact⟨rfl,rfl⟩
 have hs:∀W:Wld,(W.dwr i b).slots=W.slots/\(W.dwr i b).cnt=W.cnt/\(W.dwr i b).kys=W.kys:=fun W=>by
  unfold Wld.dwr
  split<;>exact⟨rfl,rfl,rfl⟩
 exact⟨⟨⟨(hs _).1.trans (h.eqv.sl.trans (hs _).1.symm),hpd.1,hpd.2,(hs _).2.1.trans (h.eqv.cnt.trans (hs _).2.1.symm),(hs _).2.2.trans (h.eqv.kys.trans (hs _).2.2.symm),h.eqv.M,h.eqv.now,h.eqv.was,h.eqv.age,h.eqv.T,h.eqv.pois⟩,h.pa.dwr i b,h.pb.dwr i b,h.ca.dwr i b,h.cb.dwr i b,dok_dwr h.dok i0 i1 hb⟩,hpd.1⟩
theorem Rel.spill (h:Rel A B D k t) {s:Nat}(hs:(A.lf s).kind≠0):(cspill A s).1=(cspill B s).1/\Rel (cspill A s).2 (cspill B s).2 D (k+2) t:=by
 obtain⟨e,b,ea,eb,h1,_⟩:=h.val hs
 have hl:=(strip_eq (h.eqv.lf s)).2.2
 have hi:=(h.ca.ok s).bd.2.1
 unfold cspill
 rw[ea,eb]
 simp only
 split
 ·exact⟨rfl,h.mono (by omega) (Nat.le_refl _)⟩
 ·rename_i e0
  have hb:b.length=32:=by
   rcases h1 with h1|h1
   ·exact h1.2
   ·omega
  have hd:=h.dwr (i:=((A.lf s).lba:Nat)) (by omega) (by omega) hb
  rw[<-hl]
  refine⟨?_,hd.1⟩
  rw[hd.2,h.eqv.pow,h.eqv.dsk]
theorem Rel.kadd (h:Rel A B D k t) (h2:A.W.kys.two=false):Rel (A.wld A.W.kadd) (B.wld B.W.kadd) D k t:=by
 have ka:∀{C:Cch}(hc:Cok C k t),Cok (C.wld C.W.kadd) k t:=fun {C} hc=>hc.kadd
 refine⟨⟨h.eqv.sl,?_,h.eqv.dsk,h.eqv.cnt,?_,h.eqv.M,h.eqv.now,h.eqv.was,h.eqv.age,h.eqv.T,h.eqv.pois⟩,h.pa.kadd h2,h.pb.kadd (by rw[<-h.eqv.kys];exact h2),ka h.ca,ka h.cb,h.dok⟩
 ·show(spend A.W.pow).1=(spend B.W.pow).1
  rw[h.eqv.pow]
 ·show(if(spend A.W.pow).2 then(⟨A.W.kys.seed,A.W.kys.a,true⟩:Kys)else A.W.kys)=(if(spend B.W.pow).2 then(⟨B.W.kys.seed,B.W.kys.a,true⟩:Kys)else B.W.kys)
  rw[h.eqv.pow,h.eqv.kys]
theorem Rel.kdel (h:Rel A B D k t) (hn:∀s,A.lf s=Lf.no) (hw:∀s,A.wf s=Lf.no) (hnb:∀s,B.lf s=Lf.no) (hwb:∀s,B.wf s=Lf.no) (h2:A.W.kys.two=true) (da:DurC A.W A.was A.W.kys.cur) (db:DurC B.W B.was B.W.kys.cur):Rel (A.wld A.W.kdel) (B.wld B.W.kdel) D (k+1) t:=by
 refine⟨⟨h.eqv.sl,?_,h.eqv.dsk,h.eqv.cnt,?_,h.eqv.M,h.eqv.now,h.eqv.was,h.eqv.age,h.eqv.T,h.eqv.pois⟩,h.pa.kdel hn hw h2 da,h.pb.kdel hnb hwb (by rw[<-h.eqv.kys];exact h2) db,h.ca.kdel,h.cb.kdel,h.dok⟩
 ·show(spend A.W.pow).1=(spend B.W.pow).1
  rw[h.eqv.pow]
 ·show(if(spend A.W.pow).2 then(⟨A.W.kys.seed,A.W.kys.a+1,false⟩:Kys)else A.W.kys)=(if(spend B.W.pow).2 then(⟨B.W.kys.seed,B.W.kys.a+1,false⟩:Kys)else B.W.kys)
  rw[h.eqv.pow,h.eqv.kys]
theorem Rel.lcch (h:Rel A B D k t) (hn:A.M.n≠100) {s x:Nat}{data:By}(hd:data.length=32) (hs:s<A.now.length) (h0:(A.lf s).kind=0) (hw0:(A.wf s).kind=0):Rel (lcch A s x data) (lcch B s x data) (upd D s data) (k+3) t:=by
 have hsb:s<B.now.length:=by rw[<-h.eqv.nl];exact hs
 have k1:=(strip_eq (h.eqv.lf s)).1
 have k2:=(strip_eq (h.eqv.wf s)).1
 refine⟨⟨h.eqv.sl,?_,h.eqv.dsk,h.eqv.cnt,h.eqv.kys,?_,h.eqv.now,h.eqv.was,h.eqv.age,h.eqv.T,h.eqv.pois⟩,h.pa.lcch h.ca x hd hs h0 hw0,h.pb.lcch h.cb x hd hsb (by rw[<-k1];exact h0) (by rw[<-k2];exact hw0),h.ca.lay hn hs x data hd,h.cb.lay (by rw[<-h.eqv.M];exact hn) hsb x data hd,h.dok⟩
 ·show(spend A.W.pow).1=(spend B.W.pow).1
  rw[h.eqv.pow]
 ·show A.M.up=B.M.up
  rw[h.eqv.M]
theorem Rel.puts (h:Rel A B D k t) {s:Nat}(hs:s<A.now.length) (h0:(A.lf s).kind=0) {l m:Lf}(hlm:strip l=strip m) (hl:l.ok s) (hm:m.ok s) (hk:l.kind≠0) (va:l.kind=1->A.W.vopen l s=some (D s)) (vb:m.kind=1->B.W.vopen m s=some (D s)):Rel (cputs A s l) (cputs B s m) D k (t+1):=by
 have hsb:s<B.now.length:=by rw[<-h.eqv.nl];exact hs
 have k1:=(strip_eq (h.eqv.lf s)).1
 have k3:=strip_eq hlm
 have e:Eqv (cputs A s l) (cputs B s m):=by
  have e1:Eqv (cput1 A s l) (cput1 B s m):=by
   refine⟨h.eqv.sl,h.eqv.pow,h.eqv.dsk,h.eqv.cnt,h.eqv.kys,h.eqv.M,?_,h.eqv.was,?_,?_,h.eqv.pois⟩
   ·show(A.now.set s l).map strip=(B.now.set s m).map strip
    rw[List.map_set,List.map_set,h.eqv.now,hlm]
   ·show dl s A.age++_=dl s B.age++_
    rw[h.eqv.age]
   ·show A.T+1=B.T+1
    rw[h.eqv.T]
  unfold cputs
  rw[<-k3.2.2,<-h.eqv.slot]
  split
  ·refine⟨e1.sl,e1.pow,e1.dsk,e1.cnt,e1.kys,e1.M,?_,e1.was,?_,e1.T,e1.pois⟩
   ·show((cput1 A s l).now.set _ Lf.no).map strip=((cput1 B s m).now.set _ Lf.no).map strip
    rw[List.map_set,List.map_set,e1.now]
   ·show dl _ (cput1 A s l).age=dl _ (cput1 B s m).age
    rw[e1.age]
  ·exact e1
 refine⟨e,h.pa.puts hs h0 va,h.pb.puts hsb (by rw[<-k1];exact h0) vb,h.ca.puts hs hl hk,h.cb.puts hsb hm (by rw[<-k3.1];exact hk),?_⟩
 rw[(cputs_W A s l).1];exact h.dok
end
end Go.Proofs.YtggmdjdflaglpaaGreat
