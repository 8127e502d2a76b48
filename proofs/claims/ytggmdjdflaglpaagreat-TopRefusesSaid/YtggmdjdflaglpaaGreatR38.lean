/- Two caches that hold the same: the calls, Open behind a crash (no walk). play.New: a Box of a new world. A box as a plain state; its acts; two boxes alike (no walk). play.Box.call. play.Box.Do: a call; a disk that refuses. -/
import Derived.Test.YtggmdjdflaglpaaGreatR37
import Derived.Test.YtggmdjdflaglpaaGreatR35
namespace Go.Proofs.YtggmdjdflaglpaaGreat
open Go.RowKit Go.Proofs.YtggmdjdflaglpaaGreat.geo
open Go.Proofs.YtggmdjdflaglpaaGreat.r27 (okc upd)
set_option linter.unusedVariables false
section
variable {A B:Cch}{D:Nat->By}{k t:Nat}
theorem Rel.evict (h:Rel A B D k t) (hk:k<=800000) {s:Nat}(hs:(A.lf s).kind≠0):(cevict A s).1=(cevict B s).1/\Rel (cevict A s).2 (cevict B s).2 D (k+53) t:=by
 obtain⟨e,r⟩:=h.spill hs
 have hd:=(strip_eq (h.eqv.lf s)).2.1
 have hl:=lf_in hs
 have hl2:s<((cspill A s).2.wld (cspill A s).2.W.dbar).now.length:=by show s<(cspill A s).2.now.length;rw[(cspill_now A s).1];exact hl
 have c1:=(r.dbar.drops hl2).commit (by omega)
 have c2:=(h.drops hl).commit (by omega)
 unfold cevict
 rw[<-hd,<-e,<-r.eqv.pow]
 cases hq:(A.lf s).dirty with
 |true=>
  rw[if_pos rfl,if_pos rfl]
  by_cases q1:(cspill A s).1≠0
  ·rw[if_pos q1,if_pos q1];exact⟨e,r.mono (by omega) (Nat.le_refl _)⟩
  ·rw[if_neg q1,if_neg q1]
   by_cases q2:(spend (cspill A s).2.W.pow).2=false
   ·rw[if_pos q2,if_pos q2];exact⟨rfl,r.dbar.mono (by omega) (Nat.le_refl _)⟩
   ·rw[if_neg q2,if_neg q2];exact⟨c1.1,c1.2.1.mono (by omega) (Nat.le_refl _)⟩
 |false=>
  rw[if_neg (by simp),if_neg (by simp)]
  exact⟨c2.1,c2.2.1.mono (by omega) (Nat.le_refl _)⟩
theorem Rel.room (h:Rel A B D k t) (hk:k<=700000):(croom A).1=(croom B).1/\Rel (croom A).2 (croom B).2 D (k+103) t:=by
 obtain⟨e,r,_⟩:=h.commit (by omega)
 have hf:=h.eqv.free
 have hf2:=r.eqv.free
 have ho:oldest (ccommit A).2=oldest (ccommit B).2:=by unfold oldest;rw[r.eqv.age]
 unfold croom
 rw[<-hf,<-hf2,<-e,<-ho]
 by_cases q1:0<=free A
 ·rw[if_pos q1,if_pos q1];exact⟨rfl,h.mono (by omega) (Nat.le_refl _)⟩
 ·rw[if_neg q1,if_neg q1]
  by_cases q2:(ccommit A).1≠0
  ·rw[if_pos q2,if_pos q2];exact⟨e,r.mono (by omega) (Nat.le_refl _)⟩
  ·rw[if_neg q2,if_neg q2]
   by_cases q3:0<=free (ccommit A).2
   ·rw[if_pos q3,if_pos q3];exact⟨rfl,r.mono (by omega) (Nat.le_refl _)⟩
   ·rw[if_neg q3,if_neg q3]
    have hCc:=r.ca
    have ho:=oldest_lt hCc (by omega) (commit_was q2)
    have hk0:((ccommit A).2.lf (oldest (ccommit A).2)).kind≠0:=by
     refine(hCc.age _).1 ?_
     rw[ho.2.2]
     unfold om
     rw[if_neg ho.2.1]
     exact el_mem (List.length_pos_iff.2 ho.2.1)
    have:=r.evict (by omega) hk0
    exact⟨this.1,this.2.mono (by omega) (Nat.le_refl _)⟩
theorem Rel.spills (h:Rel A B D k t):∀i,(cspills A i).1=(cspills B i).1/\(cspills A i).2.2=(cspills B i).2.2/\Rel (cspills A i).2.1 (cspills B i).2.1 D (k+2*i) t
 |0=>⟨rfl,rfl,h⟩
 |i+1=>by
  obtain⟨e1,e2,r⟩:=h.spills i
  have hd:=(strip_eq (h.eqv.lf i)).2.1
  unfold cspills
  rw[<-e1,<-hd]
  by_cases q1:(cspills A i).1≠0
  ·rw[if_pos q1,if_pos q1];exact⟨e1,e2,r.mono (by omega) (Nat.le_refl _)⟩
  ·rw[if_neg q1,if_neg q1]
   cases hq:(A.lf i).dirty with
   |true=>
    rw[if_pos rfl,if_pos rfl]
    have hlf:(cspills A i).2.1.lf i=A.lf i:=by unfold Cch.lf;rw[(cspills_now A i).1]
    have hs:=r.spill (s:=i) (by rw[hlf];exact dirty_kind h.ca hq)
    exact⟨hs.1,rfl,hs.2.mono (by omega) (Nat.le_refl _)⟩
   |false=>
    rw[if_neg (by simp),if_neg (by simp)]
    exact⟨e1,e2,r.mono (by omega) (Nat.le_refl _)⟩
theorem cempty_kys (C:Cch):(cempty C).2.W.kys=C.W.kys/\(cempty C).2.M=C.M/\(cempty C).2.was=C.was:=by
 have hn:=cspills_now C C.now.length
 have hk:(cspills C C.now.length).2.1.W.kys=C.W.kys:=hn.2.2.2.2.2.1
 unfold cempty
 split
 ·exact⟨hk,hn.2.2.2.1,hn.2.1⟩
 ·split
  ·split
   ·exact⟨hk,hn.2.2.2.1,hn.2.1⟩
   ·exact⟨hk,hn.2.2.2.1,hn.2.1⟩
  ·exact⟨hk,hn.2.2.2.1,hn.2.1⟩
theorem Rel.empty (h:Rel A B D k t):(cempty A).1=(cempty B).1/\Rel (cempty A).2 (cempty B).2 D (k+33) t/\((cempty A).1=0->(∀s,(cempty A).2.lf s=Lf.no)/\∀s,(cempty B).2.lf s=Lf.no):=by
 have hn:=h.ca.n16
 obtain⟨e1,e2,r⟩:=h.spills A.now.length
 unfold cempty
 rw[<-h.eqv.nl,<-e1,<-e2,<-r.eqv.pow]
 by_cases q1:(cspills A A.now.length).1≠0
 ·rw[if_pos q1,if_pos q1];exact⟨rfl,r.mono (by omega) (Nat.le_refl _),fun c=>absurd c q1⟩
 ·rw[if_neg q1,if_neg q1]
  by_cases q2:(cspills A A.now.length).2.2=true
  ·rw[if_pos q2,if_pos q2]
   by_cases q3:(spend (cspills A A.now.length).2.1.W.pow).2=false
   ·rw[if_pos q3,if_pos q3];exact⟨rfl,r.dbar.mono (by omega) (Nat.le_refl _),fun c=>absurd (show(7:Int)=0 from c) (by decide)⟩
   ·rw[if_neg q3,if_neg q3];exact⟨rfl,r.dbar.clear.mono (by omega) (Nat.le_refl _),fun _=>⟨lf_clear _,lf_clear _⟩⟩
  ·rw[if_neg q2,if_neg q2]
   exact⟨rfl,r.clear.mono (by omega) (Nat.le_refl _),fun _=>⟨lf_clear _,lf_clear _⟩⟩
theorem commit_wf {C:Cch}(h:¬(ccommit C).1≠0) (s:Nat):(ccommit C).2.wf s=C.lf s:=by
 unfold Cch.wf
 rw[commit_was h]
 rfl
theorem Rel.forget (h:Rel A B D k t) (hk:k<=900000) (hn:∀s,A.lf s=Lf.no) (hnb:∀s,B.lf s=Lf.no) (h2:A.W.kys.two=true):(cforget A).1=(cforget B).1/\Rel (cforget A).2 (cforget B).2 D (k+51) t:=by
 obtain⟨e,r,hd⟩:=h.commit hk
 have ka:(ccommit A).2.W.kys=A.W.kys:=(cmt_same A.W A.M A.now).2.1
 have kb:(ccommit B).2.W.kys=B.W.kys:=(cmt_same B.W B.M B.now).2.1
 unfold cforget
 rw[<-e]
 by_cases q:(ccommit A).1≠0
 ·rw[if_pos q,if_pos q];exact⟨e,r.mono (by omega) (Nat.le_refl _)⟩
 ·rw[if_neg q,if_neg q]
  have hdd:=hd (by omega)
  refine⟨by rw[r.eqv.pow],?_⟩
  refine(r.kdel hn (fun s=>(commit_wf q s).trans (hn s)) hnb (fun s=>(commit_wf (by rw[<-e];exact q) s).trans (hnb s)) (by rw[ka];exact h2) (by rw[ka];exact hdd.1) (by rw[kb];exact hdd.2)).mono (by omega) (Nat.le_refl _)
theorem commit_two {C:Cch}(h:C.tw) (h0:¬(ccommit C).1≠0):(ccommit C).2.W.kys.two=false:=by
 have h1:(cmt C.W C.M C.now).1=0:=by
  have:¬(cmt C.W C.M C.now).1≠0:=h0
  omega
 show(cmt C.W C.M C.now).2.1.kys.two=false
 rw[(cmt_same C.W C.M C.now).2.1]
 cases h2:C.W.kys.two with
 |false=>rfl
 |true=>
  rcases cmt_err C.W C.M C.now with c|c|c
  ·rcases h h2 with q|q
   ·exact absurd q c.2.2.1
   ·have:=cmt_gone C.W C.M C.now q
    rw[c.2.1]at this
    cases this
  ·rw[c.1]at h1;cases h1
  ·rw[c.1]at h1;cases h1
theorem Rel.rotate (h:Rel A B D k t) (hk:k<=700000) (tw:A.tw):(crotate A).1=(crotate B).1/\Rel (crotate A).2 (crotate B).2 D (k+140) t:=by
 obtain⟨e,r,_⟩:=h.commit (by omega)
 obtain⟨e2,r2,hl⟩:=r.empty
 unfold crotate
 rw[<-e,<-e2,<-r2.eqv.pow]
 by_cases q:(ccommit A).1≠0
 ·rw[if_pos q,if_pos q];exact⟨e,r.mono (by omega) (Nat.le_refl _)⟩
 ·rw[if_neg q,if_neg q]
  by_cases q2:(cempty (ccommit A).2).1≠0
  ·rw[if_pos q2,if_pos q2];exact⟨e2,r2.mono (by omega) (Nat.le_refl _)⟩
  ·rw[if_neg q2,if_neg q2]
   have ht:(cempty (ccommit A).2).2.W.kys.two=false:=by rw[(cempty_kys _).1];exact commit_two tw q
   have r3:=r2.kadd ht
   obtain⟨la,lb⟩:=hl (by omega)
   by_cases q3:(spend (cempty (ccommit A).2).2.W.pow).2=false
   ·rw[if_pos q3,if_pos q3];exact⟨rfl,r3.mono (by omega) (Nat.le_refl _)⟩
   ·rw[if_neg q3,if_neg q3]
    have:=r3.forget (by omega) la lb (by
     show(if(spend (cempty (ccommit A).2).2.W.pow).2 then(⟨_,_,true⟩:Kys)else _).two=true
     rw[if_pos (by simpa using q3)])
    exact⟨this.1,this.2.mono (by omega) (Nat.le_refl _)⟩
theorem lleaf_kind (C:Cch) (s x:Nat) (data:By) (d:Bool):(lleaf C s x data d).kind=1:=rfl
theorem Rel.layd (h:Rel A B D k t) (hk:k<=900000) {s x:Nat}{data:By}(hx:x<32) (hd:data.length=32) (hs:s<A.now.length) (h0:(A.lf s).kind=0) (hw0:(A.wf s).kind=0) (d:Bool):
 (clay A s x data d).1=(clay B s x data d).1/\∃D',(∀i,(A.wf i).kind≠0->D' i=D i)/\Rel (clay A s x data d).2.2 (clay B s x data d).2.2 D' (k+3) t/\
   ((clay A s x data d).1=0->Rel (cputs (clay A s x data d).2.2 s (clay A s x data d).2.1) (cputs (clay B s x data d).2.2 s (clay B s x data d).2.1) D' (k+3) (t+1)):=by
 have hsb:s<B.now.length:=by rw[<-h.eqv.nl];exact hs
 have h16:=h.ca.n16
 have hu:∀i,(A.wf i).kind≠0->upd D s data i=D i:=fun i hi=>upd_ne _ _ (fun c=>hi (by rw[c];exact hw0))
 unfold clay
 rw[<-h.eqv.M,<-h.eqv.pow]
 by_cases q:A.M.n=100
 ·rw[if_pos q,if_pos q]
  exact⟨rfl,D,fun i _=>rfl,h.mono (by omega) (Nat.le_refl _),fun c=>absurd (show(6:Int)=0 from c) (by decide)⟩
 ·rw[if_neg q,if_neg q]
  have r:=h.lcch q (x:=x) hd hs h0 hw0
  by_cases q2:(spend A.W.pow).2=false
  ·rw[if_pos q2,if_pos q2]
   exact⟨rfl,_,hu,r,fun c=>absurd (show(7:Int)=0 from c) (by decide)⟩
  ·rw[if_neg q2,if_neg q2]
   have q3:(spend A.W.pow).2=true:=by simpa using q2
   refine⟨rfl,_,hu,r,fun _=>?_⟩
   refine r.puts hs h0 ?_ (lleaf_ok h.ca hk (by omega) hx data d) (lleaf_ok h.cb hk (by omega) hx data d) (by rw[lleaf_kind];decide) (fun _=>?_) (fun _=>?_)
   ·show(⟨1,d,x,A.M.nonce A.W.kys.cur s,(0,0)⟩:Lf)=⟨1,d,x,B.M.nonce B.W.kys.cur s,(0,0)⟩
    rw[h.eqv.M,h.eqv.kys]
   ·rw[upd_eq];exact vopen_laid h.ca hd hs q3 d
   ·rw[upd_eq];exact vopen_laid h.cb hd hsb (by rw[<-h.eqv.pow];exact q3) d
theorem free_wf {C:Cch}(h:¬free C<0):∃s:Nat,free C=s/\s<C.now.length/\(C.lf s).kind=0/\(C.wf s).kind=0:=by
 rcases free_bd C with e|e
 ·omega
 ·exact e
theorem Rel.read (h:Rel A B D k t) (hk:k<=700000) {x:Nat}(hx:x<32):(cread A x).1=(cread B x).1/\(cread A x).2.1=(cread B x).2.1/\∃D',(∀i,(A.wf i).kind≠0->D' i=D i)/\Rel (cread A x).2.2 (cread B x).2.2 D' (k+3) (t+1):=by
 unfold cread
 rw[<-h.eqv.slot,<-h.eqv.pow,<-h.eqv.free,<-h.eqv.M,<-h.eqv.dsk]
 by_cases q:0<=slotOf A.now x
 ·rw[if_pos q,if_pos q]
  rcases slotOf_bd A.now x with e|⟨s,e,hs,h1,_⟩
  ·omega
  ·rw[e,Int.toNat_natCast]
   obtain⟨er,b,ea,eb,_⟩:=h.val (s:=s) h1
   rw[ea,eb]
   simp only
   by_cases q2:er≠0
   ·rw[if_pos q2,if_pos q2];exact⟨rfl,rfl,D,fun _ _=>rfl,h.mono (by omega) (by omega)⟩
   ·rw[if_neg q2,if_neg q2];exact⟨rfl,rfl,D,fun _ _=>rfl,(h.touch h1).mono (by omega) (Nat.le_refl _)⟩
 ·rw[if_neg q,if_neg q]
  by_cases q2:A.W.pow.gone=true
  ·rw[if_pos q2,if_pos q2];exact⟨rfl,rfl,D,fun _ _=>rfl,h.mono (by omega) (by omega)⟩
  ·rw[if_neg q2,if_neg q2]
   by_cases q3:free A<0\/A.M.n=100
   ·rw[if_pos q3,if_pos q3];exact⟨rfl,rfl,D,fun _ _=>rfl,h.mono (by omega) (by omega)⟩
   ·rw[if_neg q3,if_neg q3]
    obtain⟨s,hf,hs,h0,hw0⟩:=free_wf (fun c=>q3 (.inl c))
    rw[hf,Int.toNat_natCast]
    obtain⟨e1,D',hD,r1,r2⟩:=h.layd (by omega) hx (h.dok.len hx) hs h0 hw0 false
    rw[<-e1]
    by_cases q4:(clay A s x (dread A.W.dsk x) false).1≠0
    ·rw[if_pos q4,if_pos q4];exact⟨rfl,rfl,D',hD,r1.mono (by omega) (by omega)⟩
    ·rw[if_neg q4,if_neg q4];exact⟨rfl,rfl,D',hD,r2 (by omega)⟩
theorem Rel.write (h:Rel A B D k t) (hk:k<=700000) {x:Nat}(hx:x<32) {data:By}(hd:data.length=32):(cwrite A x data).1=(cwrite B x data).1/\∃D',Rel (cwrite A x data).2 (cwrite B x data).2 D' (k+106) (t+1):=by
 obtain⟨e,r⟩:=h.room hk
 have hfr:=room_free h.ca hk
 unfold cwrite
 rw[<-e,<-r.eqv.free]
 by_cases q:(croom A).1≠0
 ·rw[if_pos q,if_pos q];exact⟨e,D,r.mono (by omega) (by omega)⟩
 ·rw[if_neg q,if_neg q]
  obtain⟨s,hf,hs,h0,hw0⟩:=free_wf (C:=(croom A).2) (by have:=hfr (by omega);omega)
  rw[hf,Int.toNat_natCast]
  obtain⟨e1,D',hD,r1,r2⟩:=r.layd (by omega) hx hd hs h0 hw0 true
  rw[<-e1]
  by_cases q4:(clay (croom A).2 s x data true).1≠0
  ·rw[if_pos q4,if_pos q4];exact⟨rfl,D',r1.mono (by omega) (by omega)⟩
  ·rw[if_neg q4,if_neg q4];exact⟨rfl,D',(r2 (by omega)).mono (by omega) (by omega)⟩
theorem Rel.discard (h:Rel A B D k t) (hk:k<=700000) {x:Nat}(hx:x<32):(cdiscard A x).1=(cdiscard B x).1/\∃D',Rel (cdiscard A x).2 (cdiscard B x).2 D' (k+106) (t+1):=by
 obtain⟨e,r⟩:=h.room hk
 have hfr:=room_free h.ca hk
 unfold cdiscard
 rw[<-e,<-r.eqv.free]
 by_cases q:(croom A).1≠0
 ·rw[if_pos q,if_pos q];exact⟨e,D,r.mono (by omega) (by omega)⟩
 ·rw[if_neg q,if_neg q]
  obtain⟨s,hf,hs,h0,hw0⟩:=free_wf (C:=(croom A).2) (by have:=hfr (by omega);omega)
  rw[hf,Int.toNat_natCast]
  have hz:(Lf.zero x).ok s:=.inr (.inl ⟨x,hx,rfl⟩)
  exact⟨rfl,D,(r.puts hs h0 rfl hz hz (by show(2:Nat)≠0;decide) (fun c=>absurd c (by show(2:Nat)≠1;decide)) (fun c=>absurd c (by show(2:Nat)≠1;decide))).mono (by omega) (Nat.le_refl _)⟩
theorem Rel.do_ (h:Rel A B D k t) (hk:k<=700000) (tw:A.tw) (kd l:Int) (data:By):(cdo A kd l data).1=(cdo B kd l data).1/\(cdo A kd l data).2.1=(cdo B kd l data).2.1/\∃D',(kd=1->∀i,(A.wf i).kind≠0->D' i=D i)/\Rel (cdo A kd l data).2.2 (cdo B kd l data).2.2 D' (k+140) (t+1):=by
 have stay:Rel A B D (k+140) (t+1):=h.mono (by omega) (by omega)
 unfold cdo
 rw[<-h.eqv.pow,<-h.eqv.pois]
 by_cases q1:A.W.pow.gone=true
 ·rw[if_pos q1,if_pos q1];exact⟨rfl,rfl,D,fun _ _ _=>rfl,stay⟩
 rw[if_neg q1,if_neg q1]
 by_cases q2:A.pois=true
 ·rw[if_pos q2,if_pos q2];exact⟨rfl,rfl,D,fun _ _ _=>rfl,stay⟩
 rw[if_neg q2,if_neg q2]
 by_cases hok:okc kd l data.length
 ·rw[if_neg (not_not_intro hok),if_neg (not_not_intro hok)]
  by_cases k1:kd=1
  ·subst k1
   rw[if_pos rfl,if_pos rfl]
   have hx:l.toNat<32:=by unfold okc at hok;omega
   obtain⟨e1,e2,D',hD,r⟩:=h.read hk hx
   exact⟨e1,e2,D',fun _=>hD,r.mono (by omega) (Nat.le_refl _)⟩
  rw[if_neg k1,if_neg k1]
  by_cases k2:kd=2
  ·subst k2
   rw[if_pos rfl,if_pos rfl]
   obtain⟨e1,D',r⟩:=h.write hk (x:=l.toNat) (data:=data) (by unfold okc at hok;omega) (by unfold okc at hok;omega)
   exact⟨e1,rfl,D',fun c=>absurd c (by decide),r.mono (by omega) (Nat.le_refl _)⟩
  rw[if_neg k2,if_neg k2]
  by_cases k3:kd=3
  ·subst k3
   rw[if_pos rfl,if_pos rfl]
   obtain⟨e1,r,_⟩:=h.commit (by omega)
   exact⟨e1,rfl,D,fun _ _ _=>rfl,r.mono (by omega) (by omega)⟩
  rw[if_neg k3,if_neg k3]
  by_cases k4:kd=4
  ·subst k4
   rw[if_pos rfl,if_pos rfl]
   obtain⟨e1,D',r⟩:=h.discard hk (x:=l.toNat) (by unfold okc at hok;omega)
   exact⟨e1,rfl,D',fun c=>absurd c (by decide),r.mono (by omega) (Nat.le_refl _)⟩
  rw[if_neg k4,if_neg k4]
  obtain⟨e1,r⟩:=h.rotate hk tw
  exact⟨e1,rfl,D,fun _ _ _=>rfl,r.mono (by omega) (by omega)⟩
 ·rw[if_pos hok,if_pos hok];exact⟨rfl,rfl,D,fun _ _ _=>rfl,stay⟩
theorem Rel.finish (h:Rel A B D k t) (hk:k<=700000):(cfinish A).1=(cfinish B).1/\Rel (cfinish A).2 (cfinish B).2 D (k+100) t/\((cfinish A).1=0->(cfinish A).2.tw):=by
 obtain⟨e,r,hl⟩:=h.empty
 unfold cfinish
 rw[<-h.eqv.kys,<-e]
 cases h2:A.W.kys.two with
 |false=>
  rw[if_pos rfl,if_pos rfl]
  exact⟨rfl,h.mono (by omega) (Nat.le_refl _),fun _ c=>by rw[h2]at c;cases c⟩
 |true=>
  rw[if_neg (c:=true=false) (by decide),if_neg (c:=true=false) (by decide)]
  by_cases q:(cempty A).1≠0
  ·rw[if_pos q,if_pos q];exact⟨e,r.mono (by omega) (Nat.le_refl _),fun c=>absurd c q⟩
  ·rw[if_neg q,if_neg q]
   obtain⟨la,lb⟩:=hl (by omega)
   have:=r.forget (by omega) la lb (by rw[(cempty_kys A).1];exact h2)
   exact⟨this.1,this.2.mono (by omega) (Nat.le_refl _),fun _=>tw_forget _⟩
theorem dok_crash {D:Dsk}(h:D.ok) (ks:List Bool):(dcrashed D ks).ok:=by
 refine⟨fun i hi=>?_,fun o ho=>absurd (show o∈([]:List Opn)from ho) List.not_mem_nil⟩
 show((kept D.waits ks).foldl (dstep i) (D.lasts i)).length=32
 have:∀(L:List Opn) (b:By),b.length=32->(∀o∈L,o.bytes.length=32)->(L.foldl (dstep i) b).length=32:=by
  intro L
  induction L with
  |nil=>intro b hb _;exact hb
  |cons o L ih=>
   intro b hb ho
   refine ih _ ?_ (fun x hx=>ho x (List.mem_cons_of_mem _ hx))
   unfold dstep
   split
   ·exact ho o (List.mem_cons_self ..)
   ·exact hb
 exact this _ _ (h.1 i hi) (fun o ho=>(h.2 o (kept_sub _ _ _ ho)).2.2)
theorem ctouchs_eqv (h:∀s,strip (A.lf s)=strip (B.lf s)) (ha:A.age=B.age) (hT:A.T=B.T):∀i,(ctouchs A i).age=(ctouchs B i).age/\(ctouchs A i).T=(ctouchs B i).T
 |0=>⟨ha,hT⟩
 |i+1=>by
  have ih:=ctouchs_eqv h ha hT i
  have hk:=(strip_eq (h i)).1
  unfold ctouchs
  rw[<-hk]
  by_cases q:(A.lf i).kind≠0
  ·rw[if_pos q,if_pos q]
   refine⟨?_,?_⟩
   ·show dl i (ctouchs A i).age++_=dl i (ctouchs B i).age++_
    rw[ih.1]
   ·show(ctouchs A i).T+1=(ctouchs B i).T+1
    rw[ih.2]
  ·rw[if_neg q,if_neg q];exact ih
theorem Eqv.wl (h:Eqv A B):A.was.length=B.was.length:=by
 have:=congrArg List.length h.was
 simpa using this
theorem Per.wokn {C:Cch}(h:Per C D) (i:Nat) (l:Lf) (hl:C.was[i]? =some l):l.ok i:=by
 have:=h.wok i
 unfold Cch.wf at this
 rw[List.getD_eq_getElem?_getD,hl]at this
 exact this
theorem Per.start_cok {C:Cch}(h:Per C D) (hC:Cok C k t) (hk:k<=3000000) (ks:List Bool):Cok (cstart (wld2 C ks) C.was) (k+34) 16:=by
 obtain⟨s1,s2,s3,s4,s5,s6,s7,s8⟩:=wld2_same C ks
 exact cstart_cok (wld2_fit hC ks h.wl) (s8 hC.good) (by rw[s2];exact hC.ka) (by rw[s1];exact h.wl) (fun i l hl=>h.wokn i l hl) (by omega)
theorem Rel.start (h:Rel A B D k t) (hk:k<=3000000) (ks:List Bool):Rel (cstart (wld2 A ks) A.was) (cstart (wld2 B ks) B.was) D (k+34) 16:=by
 obtain⟨s1,s2,s3,s4,s5,s6,s7,s8⟩:=wld2_same A ks
 obtain⟨u1,u2,u3,u4,u5,u6,u7,u8⟩:=wld2_same B ks
 obtain⟨a1,a2,a3,a4,a5⟩:=cstart_same (wld2 A ks) A.was
 obtain⟨b1,b2,b3,b4,b5⟩:=cstart_same (wld2 B ks) B.was
 have hat:=ctouchs_eqv (A:=⟨wld2 A ks,⟨(wld2 A ks).cnt.boots,0⟩,A.was,A.was,[],0,false⟩) (B:=⟨wld2 B ks,⟨(wld2 B ks).cnt.boots,0⟩,B.was,B.was,[],0,false⟩) (fun s=>h.eqv.wf s) rfl rfl A.was.length
 have hat1:(cstart (wld2 A ks) A.was).age=(cstart (wld2 B ks) B.was).age:=by
  unfold cstart
  rw[<-h.eqv.wl]
  exact hat.1
 have hpw:(wld2 A ks).pow=(wld2 B ks).pow:=by
  have e:∀C:Cch,(wld2 C ks).pow=(spend C.W.pow.back).1:=fun C=>by
   unfold wld2 loadW
   split<;>rfl
  rw[e,e,h.eqv.pow]
 refine⟨⟨?_,?_,?_,?_,?_,?_,?_,?_,hat1,?_,?_⟩,h.pa.start h.ca ks,h.pb.start h.cb ks,h.pa.start_cok h.ca hk ks,h.pb.start_cok h.cb hk ks,?_⟩
 ·rw[a3,b3,s1,u1];exact h.eqv.sl
 ·rw[a3,b3];exact hpw
 ·rw[a3,b3,s6,u6,h.eqv.dsk]
 ·rw[a3,b3,s4,u4,h.eqv.cnt]
 ·rw[a3,b3,s2,u2];exact h.eqv.kys
 ·rw[a4,b4,s4,u4,h.eqv.cnt]
 ·rw[a1,b1];exact h.eqv.was
 ·rw[a2,b2];exact h.eqv.was
 ·have:=hat.2
  unfold cstart
  rw[<-h.eqv.wl]
  exact this
 ·rw[a5,b5]
 ·rw[a3,s6];exact dok_crash h.dok ks
end
end Go.Proofs.YtggmdjdflaglpaaGreat
namespace Go.Proofs.YtggmdjdflaglpaaGreat
open Go.RowKit Go.Proofs.YtggmdjdflaglpaaGreat.geo
set_option linter.unusedVariables false
def BoxR (ρ:Rl) (w:World) (bx:Nat) (a:Ads) (cc m ag:Nat) (sv:Value) (C:Cch):Prop:=
 Blk w bx 59 #[.pointer (some ⟨a.wl,0,none⟩),.pointer (some ⟨cc,0,none⟩),sv]/\ρ bx=rBox/\CchR ρ w a cc m ag C
def newC (n seed:Nat) (i:Bool):Cch:=cstart (newW n seed i).bot (List.replicate n Lf.no)
theorem newW_bot (n seed:Nat) (i:Bool):(newW n seed i).bot=⟨n,⟨false,false,0⟩,⟨List.replicate (n*160+120) 0,[],0⟩,⟨fun _=>List.replicate 32 0,[],false,0⟩,⟨0,1,0⟩,⟨seed,1,false⟩,LkNew i⟩:=by
 rfl
theorem LkNew_lim (i:Bool) (k:Nat):(LkNew i).lim k:=by
 cases i
 ·trivial
 ·exact⟨Nat.zero_le _,Nat.zero_le _⟩
theorem LkNew_good (i:Bool):(LkNew i).good:=by
 cases i
 ·trivial
 ·intro j x hx
  simp at hx
theorem newW_fit (n seed:Nat) (i:Bool) (hV:V n):(newW n seed i).fit 1:=
 ⟨hV,List.length_replicate,Nat.zero_le _,Nat.zero_le _,LkNew_lim i 1,⟨Nat.zero_le _,Nat.zero_le _⟩,Nat.le_refl _,fun o ho=>absurd ho List.not_mem_nil⟩
theorem newW_bot_fit (n seed:Nat) (i:Bool) (hV:V n):(newW n seed i).bot.fit 1:=by
 rw[newW_bot]
 exact⟨hV,List.length_replicate,Nat.zero_le _,Nat.zero_le _,LkNew_lim i 1,⟨Nat.zero_le _,Nat.le_refl _⟩,Nat.le_refl _,fun o ho=>absurd ho List.not_mem_nil⟩
theorem no_at (n:Nat) (i:Nat) (l:Lf) (h:(List.replicate n Lf.no)[i]? =some l):l.ok i:=by
 rw[List.getElem?_replicate]at h
 split at h
 ·injection h with h
  rw[<-h]
  exact Lf.no_ok i
 ·cases h
theorem newC_open (n seed:Nat) (i:Bool):copen (newW n seed i).bot (List.replicate n Lf.no)=(0,newC n seed i):=by
 have h:(newC n seed i).W.kys.two=false:=by
  show(cstart _ _).W.kys.two=false
  unfold cstart
  rw[(ctouchs_now _ _).2.2.1]
  rfl
 show cfinish (newC n seed i)=_
 unfold cfinish
 rw[if_pos h]
theorem newC_same (n seed:Nat) (i:Bool):(newC n seed i).now=List.replicate n Lf.no/\(newC n seed i).W=(newW n seed i).bot/\(newC n seed i).M=⟨1,0⟩/\(newC n seed i).pois=false:=
 have h:=ctouchs_now ⟨(newW n seed i).bot,⟨(newW n seed i).bot.cnt.boots,0⟩,List.replicate n Lf.no,List.replicate n Lf.no,[],0,false⟩ (List.replicate n Lf.no).length
 ⟨h.1,h.2.2.1,h.2.2.2.1,h.2.2.2.2.2⟩
theorem newC_cin (n seed:Nat) (i:Bool) (hV:V n):Cin (newC n seed i) 1 16:=by
 have hs:=newC_same n seed i
 refine⟨cstart_cok (newW_bot_fit n seed i hV) (by rw[newW_bot];exact LkNew_good i) (by rw[newW_bot];exact Nat.le_refl 1) List.length_replicate (no_at n) (by omega),fun h=>?_,?_⟩
 ·rw[hs.2.1,newW_bot]at h
  cases h
 ·rw[hs.2.1,newW_bot]
  exact⟨fun i hi=>List.length_replicate,fun o ho=>absurd ho List.not_mem_nil⟩
set_option maxHeartbeats 2000000 in
set_option maxRecDepth 100000 in
theorem pnew_box (HO:OpenOk) (HS:SumOk) (HT:ShutOk) (n seed:Nat) (i:Bool) (w:World) (ρ:Rl) (hf:Fresh ρ w) (hV:V n) (hsd:seed<18446744073709551616):
 Calls Tryz.prog 7 #[.int .i64 n,.int .u64 seed,.bool i] w fun e w'=>∃bx,e=.returned (.tuple #[.pointer (some ⟨bx,0,none⟩),.int .i64 0])/\∃ρ' a cc m ag,BoxR ρ' w' bx a cc m ag (.slice none 0 0) (newC n seed i)/\Ste rtC ρ w ρ' w':=by
 have hnw:=wnew_ok n seed i w ρ hf hV hsd
 have hop:∀(ρ1:Rl) (a:Ads) (w1:World),Fresh ρ1 w1->WldR ρ1 w1 a (newW n seed i)->Calls Tryz.prog 16 #[.pointer (some ⟨a.wl,0,none⟩)] w1 (OpP ρ1 a (0,newC n seed i) w1):=fun ρ1 a w1 hf1 h1=>by
  have:=open_ok HO HS HT ρ1 a (newW n seed i) (newW n seed i).bot (List.replicate n Lf.no) 1 w1 hf1 h1 rfl rfl (newW_fit n seed i hV) (by decide)
   (fun ρ2 w2 hf2 h2=>load_zero ρ2 a _ w2 hf2 h2 rfl rfl (by show n<=16;unfold V at hV;omega))
   ((newW_bot_fit n seed i hV).mono (by omega)) (by rw[newW_bot];exact LkNew_good i) (by rw[newW_bot];exact Nat.le_refl 1) List.length_replicate (no_at n)
  rw[newC_open]at this
  exact this
 obtain⟨C,hC⟩:∃C,C=newC n seed i:=⟨_,rfl⟩
 rw[<-hC]at hop ⊢
 obtain⟨W,hW⟩:∃W,W=newW n seed i:=⟨_,rfl⟩
 rw[<-hW]at hop hnw
 have HOP:=Lib.hid hop
 clear hop hf hV hsd hC hW
 go_enter Tryz.func7,Tryz.ntmps7
 go_wp2_with fail
 refine hnw.mono ?_
 rintro e w1 ⟨wl,rfl,ρ1,a,rfl,h1,s1⟩
 clear hnw
 have hop1:=HOP.out ρ1 a w1 s1.fresh h1
 have H1:=Lib.hid s1
 clear h1 s1
 go_wp2_with fail
 refine hop1.mono ?_
 rintro e w2 h2
 clear hop1
 rcases h2 with⟨_,cc,m,rfl,ρ2,ag,h2,s2⟩|⟨h2,_⟩
 ·have H2:=Lib.hid (And.intro h2 s2)
  clear h2 s2
  go_wp2_with fail
  go_ret2
  obtain⟨h2,s2⟩:=H2.out
  have hB:=Blk.new w2 59 #[.pointer (some ⟨a.wl,0,none⟩),.pointer (some ⟨cc,0,none⟩),.slice none 0 0]
  have q:Below w2.heap.size w2 (w2.alloc (.cells #[.pointer (some ⟨a.wl,0,none⟩),.pointer (some ⟨cc,0,none⟩),.slice none 0 0] 59)):=(Below.refl _ _).alloc (Nat.le_refl _) _
  refine⟨w2.heap.size,rfl,ρ2.set w2.heap.size rBox,a,cc,m,ag,⟨hB,Rl.set_same _ _ _,h2.keep q.size (fun b hb _=>⟨q.block b hb,Rl.set_other _ (by omega)⟩)⟩,?_⟩
  exact((H1.out.none).trans s2).trans ((Ste.of_below q s2.fresh).label (Nat.le_refl _) hB.lt)
 ·exact absurd rfl h2
def Wld.ref (W:Wld) (b:Bool):Wld:={W with dsk:={W.dsk with refuses:=b}}
set_option maxHeartbeats 2000000 in
set_option maxRecDepth 100000 in
theorem refuse_w (ρ:Rl) (p d:Nat) (D:Dsk) (b:Bool) (w:World) (hf:Fresh ρ w) (h:DskR ρ w p d D):
 Calls Tryz.prog 23 #[.pointer (some ⟨d,0,none⟩),.bool b] w fun e w'=>e=.returned (.tuple #[])/\DskR ρ w' p d {D with refuses:=b}/\Ste (fun r=>r=rDsk) ρ w ρ w':=by
 obtain⟨vs,vW,vT,T,h1,h2,h3,h4,h5,h6⟩:=h
 have c:=h1.cell_ 35 dc35
 have f:=h1.frozen 35
 have hl:=h1.lt
 have H1:=Lib.hid h1
 clear h1
 go_enter Tryz.func23,Tryz.ntmps23
 go_wp2_with fail
 go_end0
 have hk:∀i,ρ i≠rDsk->(w.setCell ⟨d,35,none⟩ (.bool b)).heap[i]? =w.heap[i]? :=fun i hi=>Below.heap_setCell w _ _ i (fun e=>hi (by simp only at e;rw[e];exact h2))
 have hs:w.heap.size<=(w.setCell ⟨d,35,none⟩ (.bool b)).heap.size:=by simp[World.setCell]
 refine⟨rfl,⟨vs,vW,vT,T,H1.out.set_to 35 _ (ds35 b),h2,fun k hk'=>⟨(h3 k hk').1.keepR hs (fun i _ e=>⟨hk i (by rw[e];decide),rfl⟩),(h3 k hk').2⟩,h4.keepR hs (fun i _ e=>⟨hk i (by rcases e with e|e<;>rw[e]<;>decide),rfl⟩),h5.keepR hs (fun i _ e=>⟨hk i (by rcases e with e|e<;>rw[e]<;>decide),rfl⟩),h6⟩,Ste.of_ch (Ch.set_ (p:=⟨d,35,none⟩) (by simp only;exact h2) _ _) hf⟩
theorem wref_ok (ρ:Rl) (a:Ads) (W:Wld) (b:Bool) (w:World) (hf:Fresh ρ w) (h:WldR ρ w a W):
 Calls Tryz.prog 23 #[.pointer (some ⟨a.d,0,none⟩),.bool b] w fun e w'=>e=.returned (.tuple #[])/\WldR ρ w' a (W.ref b)/\Ste (fun r=>r=rDsk) ρ w ρ w':=by
 refine(refuse_w ρ a.p a.d W.dsk b w hf h.2.2.2.2.2.1).mono ?_
 rintro e w1 ⟨rfl,hD,hs⟩
 exact⟨rfl,h.put_dsk (h.2.2.1.keep (hs.ch.keep _ h.2.2.1.lt (by rw[h.2.2.2.1];decide))) hD (hs.mono (fun r e=>by rw[e];exact .inr (.inl rfl))),hs⟩
def rtB (r:Nat):Prop:=rtC r\/r=rBox
theorem rtC.b {r:Nat}(h:rtC r):rtB r:=.inl h
end Go.Proofs.YtggmdjdflaglpaaGreat
namespace Go.Proofs.YtggmdjdflaglpaaGreat
open Go.RowKit Go.Proofs.YtggmdjdflaglpaaGreat.geo
open Go.Proofs.YtggmdjdflaglpaaGreat.r27 (okc upd)
set_option linter.unusedVariables false
structure Bst where
 C:Cch
 dead:Bool
 n:Nat
def bopen (C:Cch) (ks:List Bool):Int×Cch:=copen (wld2 C ks) C.was
def bcrash (S:Bst) (ks:List Bool):Int×Bst:=((bopen S.C ks).1,⟨(bopen S.C ks).2,decide ((bopen S.C ks).1≠0),S.n⟩)
def bact (S:Bst) (kind kd l N:Int) (data:By) (ks:List Bool):Int×By×Bst:=
 if kind=1 then(if S.dead then(8,[],S)else((cdo S.C kd l data).1,(cdo S.C kd l data).2.1,⟨(cdo S.C kd l data).2.2,false,S.n⟩))
 else if kind=2 then(0,[],⟨S.C.wld (S.C.W.fuse N),S.dead,S.n⟩)
 else if kind=3 then((bcrash S ks).1,[],(bcrash S ks).2)
 else if kind=5 then(0,[],⟨S.C,S.dead,S.n+1⟩)
 else if kind=7 then(0,[],⟨S.C.wld (S.C.W.ref (N !=0)),S.dead,S.n⟩)
 else(1,[],S)
structure Rs (S S':Bst) (k t:Nat):Prop where
 dead:S.dead=S'.dead
 rel:∃D,Rel S.C S'.C D k t
 tw:S.dead=false->S.C.tw
 cnt:S.n=S'.n/\S.n<=t
theorem Rs.mono {S S':Bst}{k t k' t':Nat}(h:Rs S S' k t) (hk:k<=k') (ht:t<=t'):Rs S S' k' t':=by
 obtain⟨D,r⟩:=h.rel
 exact⟨h.dead,⟨D,r.mono hk ht⟩,h.tw,h.cnt.1,Nat.le_trans h.cnt.2 ht⟩
theorem Eqv.tw {A B:Cch}(h:Eqv A B) (ht:A.tw):B.tw:=fun h2=>by
 have:=ht (by rw[h.kys];exact h2)
 rw[h.M,h.pow]at this
 exact this
theorem Rs.cin {S S':Bst}{k t:Nat}(h:Rs S S' k t) (hd:S.dead=false):Cin S.C k t/\Cin S'.C k t:=by
 obtain⟨D,r⟩:=h.rel
 exact⟨⟨r.ca,h.tw hd,r.dok⟩,⟨r.cb,r.eqv.tw (h.tw hd),by rw[<-r.eqv.dsk];exact r.dok⟩⟩
theorem Rs.act {S S':Bst}{k t:Nat}(h:Rs S S' k t) (hk:k<=600000) (ht:16<=t) (kind kd l N:Int) (data:By) (ks:List Bool):
 (bact S kind kd l N data ks).1=(bact S' kind kd l N data ks).1/\(bact S kind kd l N data ks).2.1=(bact S' kind kd l N data ks).2.1/\Rs (bact S kind kd l N data ks).2.2 (bact S' kind kd l N data ks).2.2 (k+140) (t+1):=by
 have hm:Rs S S' (k+140) (t+1):=h.mono (by omega) (by omega)
 have hn:S.n=S'.n/\S.n<=t+1:=hm.cnt
 obtain⟨D,r⟩:=h.rel
 have hw:∀{C:Cch}(W':Wld),Per C D->W'.kys=C.W.kys->W'.lk=C.W.lk->W'.slots=C.W.slots->W'.cnt=C.W.cnt->W'.ssd=C.W.ssd->Per (C.wld W') D:=fun W' hp e1 e2 e3 e4 e5=>
  hp.wld (fun x hx=>by rw[e1];exact hx) (by rw[e1]) e2 e3 e4 e5
 unfold bact
 by_cases k1:kind=1
 ·rw[if_pos k1,if_pos k1,<-h.dead]
  cases hd:S.dead with
  |true=>
   rw[if_pos rfl,if_pos rfl]
   exact⟨rfl,rfl,hm⟩
  |false=>
   rw[if_neg (by simp),if_neg (by simp)]
   obtain⟨e1,e2,D',_,r'⟩:=r.do_ (by omega) (h.tw hd) kd l data
   refine⟨e1,e2,rfl,⟨D',r'⟩,fun _=>?_,hn⟩
   exact((h.cin hd).1.do_ (by omega) kd l data).tw
 rw[if_neg k1,if_neg k1]
 by_cases k2:kind=2
 ·rw[if_pos k2,if_pos k2]
  refine⟨rfl,rfl,h.dead,⟨D,⟨⟨r.eqv.sl,?_,r.eqv.dsk,r.eqv.cnt,r.eqv.kys,r.eqv.M,r.eqv.now,r.eqv.was,r.eqv.age,r.eqv.T,r.eqv.pois⟩,hw _ r.pa rfl rfl rfl rfl rfl,hw _ r.pb rfl rfl rfl rfl rfl,?_,?_,r.dok⟩⟩,fun hd=>h.tw hd,hn⟩
  ·show S.C.W.pow.fused N=S'.C.W.pow.fused N
   rw[r.eqv.pow]
  ·have f:=r.ca.fit.mono (j:=k+140) (by omega)
   exact(r.ca.wld (W:=S.C.W.fuse N) (k':=k+140) ⟨f.geo,f.size,f.ssd,f.dsk,f.lk,f.cnt,f.kys,f.wts⟩ r.ca.good rfl r.ca.ka).mono (Nat.le_refl _) (by omega)
  ·have f:=r.cb.fit.mono (j:=k+140) (by omega)
   exact(r.cb.wld (W:=S'.C.W.fuse N) (k':=k+140) ⟨f.geo,f.size,f.ssd,f.dsk,f.lk,f.cnt,f.kys,f.wts⟩ r.cb.good rfl r.cb.ka).mono (Nat.le_refl _) (by omega)
 rw[if_neg k2,if_neg k2]
 by_cases k3:kind=3
 ·rw[if_pos k3,if_pos k3]
  obtain⟨e,r',tw⟩:=(r.start (by omega) ks).finish (by omega)
  have e':(bopen S.C ks).1=(bopen S'.C ks).1:=e
  refine⟨e,rfl,?_,⟨D,r'.mono (by omega) (by omega)⟩,fun hd=>tw ?_,hn⟩
  ·show decide ((bopen S.C ks).1≠0)=decide ((bopen S'.C ks).1≠0)
   rw[e']
  ·have hd':decide ((bopen S.C ks).1≠0)=false:=hd
   have h0:(bopen S.C ks).1=0:=by simpa using hd'
   exact h0
 rw[if_neg k3,if_neg k3]
 by_cases k5:kind=5
 ·rw[if_pos k5,if_pos k5];exact⟨rfl,rfl,h.dead,⟨D,r.mono (by omega) (by omega)⟩,h.tw,by show S.n+1=S'.n+1;rw[h.cnt.1],by show S.n+1<=t+1;have:=h.cnt.2;omega⟩
 rw[if_neg k5,if_neg k5]
 by_cases k7:kind=7
 ·rw[if_pos k7,if_pos k7]
  refine⟨rfl,rfl,h.dead,⟨D,⟨⟨r.eqv.sl,r.eqv.pow,?_,r.eqv.cnt,r.eqv.kys,r.eqv.M,r.eqv.now,r.eqv.was,r.eqv.age,r.eqv.T,r.eqv.pois⟩,hw _ r.pa rfl rfl rfl rfl rfl,hw _ r.pb rfl rfl rfl rfl rfl,?_,?_,r.dok⟩⟩,fun hd=>h.tw hd,hn⟩
  ·show(⟨S.C.W.dsk.lasts,S.C.W.dsk.waits,N !=0,S.C.W.dsk.cnt⟩:Dsk)=⟨S'.C.W.dsk.lasts,S'.C.W.dsk.waits,N !=0,S'.C.W.dsk.cnt⟩
   rw[r.eqv.dsk]
  ·have f:=r.ca.fit.mono (j:=k+140) (by omega)
   exact(r.ca.wld (W:=S.C.W.ref (N !=0)) (k':=k+140) ⟨f.geo,f.size,f.ssd,f.dsk,f.lk,f.cnt,f.kys,f.wts⟩ r.ca.good rfl r.ca.ka).mono (Nat.le_refl _) (by omega)
  ·have f:=r.cb.fit.mono (j:=k+140) (by omega)
   exact(r.cb.wld (W:=S'.C.W.ref (N !=0)) (k':=k+140) ⟨f.geo,f.size,f.ssd,f.dsk,f.lk,f.cnt,f.kys,f.wts⟩ r.cb.good rfl r.cb.ka).mono (Nat.le_refl _) (by omega)
 rw[if_neg k7,if_neg k7]
 exact⟨rfl,rfl,hm⟩
theorem newC_per (n seed:Nat) (i:Bool) (hV:V n):Per (newC n seed i) (fun _=>nought):=by
 obtain⟨e1,e2,e3,e4⟩:=newC_same n seed i
 have ew:(newC n seed i).was=List.replicate n Lf.no:=(cstart_same _ _).2.1
 have hno:∀s,(List.replicate n Lf.no).getD s Lf.no=Lf.no:=fun s=>by
  rw[List.getD_eq_getElem?_getD,List.getElem?_replicate]
  split<;>rfl
 have hl:∀s,(newC n seed i).lf s=Lf.no:=fun s=>by unfold Cch.lf;rw[e1];exact hno s
 have hw:∀s,(newC n seed i).wf s=Lf.no:=fun s=>by unfold Cch.wf;rw[ew];exact hno s
 refine⟨fun s hs=>?_,fun s hs=>?_,fun s=>by simp[nought],⟨1,?_,.inl ⟨?_,?_⟩⟩,fun s=>by rw[hw];exact Lf.no_ok _,?_,fun s s' a=>?_,fun s s' a=>?_,?_⟩
 ·rw[hl]at hs;cases hs
 ·rw[hw]at hs;cases hs
 ·rw[e2,newW_bot];simp[Kys.es]
 ·rw[e2,newW_bot]
 ·rw[ew,e2,newW_bot]
 ·rw[ew,e2,newW_bot,List.length_replicate]
 ·rw[hl]at a;exact absurd rfl a
 ·rw[hw]at a;exact absurd rfl a
 ·rw[e3,e2,newW_bot]
theorem new_rs (n seed:Nat) (i j:Bool) (hV:V n):Rs ⟨newC n seed i,false,0⟩ ⟨newC n seed j,false,0⟩ 1 16:=by
 have ci:=newC_cin n seed i hV
 have cj:=newC_cin n seed j hV
 have e:∀b,(newC n seed b).W=(newW n seed b).bot:=fun b=>(newC_same n seed b).2.1
 have hat:=ctouchs_eqv (A:=⟨(newW n seed i).bot,⟨(newW n seed i).bot.cnt.boots,0⟩,List.replicate n Lf.no,List.replicate n Lf.no,[],0,false⟩) (B:=⟨(newW n seed j).bot,⟨(newW n seed j).bot.cnt.boots,0⟩,List.replicate n Lf.no,List.replicate n Lf.no,[],0,false⟩) (fun s=>rfl) rfl rfl (List.replicate n Lf.no).length
 refine⟨rfl,⟨fun _=>nought,⟨⟨?_,?_,?_,?_,?_,?_,?_,?_,hat.1,hat.2,?_⟩,newC_per n seed i hV,newC_per n seed j hV,ci.cok,cj.cok,ci.dok⟩⟩,fun _=>ci.tw,rfl,Nat.zero_le _⟩
 ·rw[e,e,newW_bot,newW_bot]
 ·rw[e,e,newW_bot,newW_bot]
 ·rw[e,e,newW_bot,newW_bot]
 ·rw[e,e,newW_bot,newW_bot]
 ·rw[e,e,newW_bot,newW_bot]
 ·show(newC n seed i).M=(newC n seed j).M
  rw[(newC_same n seed i).2.2.1,(newC_same n seed j).2.2.1]
 ·show(newC n seed i).now.map strip=(newC n seed j).now.map strip
  rw[(newC_same n seed i).1,(newC_same n seed j).1]
 ·show(newC n seed i).was.map strip=(newC n seed j).was.map strip
  unfold newC
  rw[(cstart_same _ _).2.1,(cstart_same _ _).2.1]
 ·show(newC n seed i).pois=(newC n seed j).pois
  rw[(newC_same n seed i).2.2.2,(newC_same n seed j).2.2.2]
end Go.Proofs.YtggmdjdflaglpaaGreat
namespace Go.Proofs.YtggmdjdflaglpaaGreat
open Go.RowKit Go.Proofs.YtggmdjdflaglpaaGreat.geo
set_option linter.unusedVariables false
theorem BoxR.keep {ρ ρ':Rl}{w w':World}{bx:Nat}{a:Ads}{cc m ag:Nat}{sv:Value}{C:Cch}(h:BoxR ρ w bx a cc m ag sv C) (hs:w.heap.size<=w'.heap.size) (hk:∀b,b<w.heap.size->ρ b≠0->w'.heap[b]? =w.heap[b]? /\ρ' b=ρ b):BoxR ρ' w' bx a cc m ag sv C:=by
 have k:=hk bx h.1.lt (by rw[h.2.1];decide)
 exact⟨k.1.trans h.1,k.2.trans h.2.1,h.2.2.keep hs (fun b hb e=>hk b hb (by unfold rsC at e;omega))⟩
theorem BoxR.put {ρ ρ':Rl}{w w':World}{bx:Nat}{a:Ads}{cc m ag ag':Nat}{sv:Value}{C C':Cch}(h:BoxR ρ w bx a cc m ag sv C) (hC:CchR ρ' w' a cc m ag' C') (hs:Ste rtC ρ w ρ' w'):BoxR ρ' w' bx a cc m ag' sv C':=
 ⟨(hs.ch.keep bx h.1.lt (by rw[h.2.1];unfold rtC;decide)).trans h.1,(hs.old bx h.1.lt).trans h.2.1,hC⟩
def TolB (ρ:Rl) (bx:Nat) (a:Ads) (cc m:Nat) (sv:Value) (er:Int) (b:By) (C:Cch) (w:World) (e:Ending) (w':World):Prop:=
 ∃v,e=.returned (.agg #[.int .i64 er,v])/\∃ρ' ag',HasP (ρ' · =0) w' v b/\BoxR ρ' w' bx a cc m ag' sv C/\Ste rtC ρ w ρ' w'
theorem bend {ρ ρ':Rl}{w w':World}{a:Ads}{bx cc m ag g:Nat}{sv:Value}{C:Cch}{x y v:Value}{b:By}(hB:Blk w' g 38 #[x,y]) (hz:ρ' g=rTmp) (hg:w.heap.size<=g) (hC:BoxR ρ' w' bx a cc m ag sv C) (hs:Ste rtC ρ w ρ' w') (hv:HasP (ρ' · =0) w' v b) (er:Int):
 TolB ρ bx a cc m sv er b C w (.returned (.agg [.int .i64 er,v].toArray)) ((w'.setCell ⟨g,0,none⟩ (.int .i64 er)).setCell ⟨g,1,none⟩ v)/\Blk ((w'.setCell ⟨g,0,none⟩ (.int .i64 er)).setCell ⟨g,1,none⟩ v) g 38 [.int .i64 er,v].toArray:=by
 obtain⟨h1,h2,h3,h4⟩:=tend hB hz hg hC.2.2 hs (.int .i64 er) v
 refine⟨⟨_,rfl,ρ',ag,hv.keep h4.size (fun i hi e=>h4.block i hi (fun c=>by injection c with c;rw[c,hz]at e;exact absurd e (by decide))),⟨(h4.block bx hC.1.lt (fun c=>by injection c with c;have:=hC.2.1;rw[c,hz]at this;exact absurd this (by decide))).trans hC.1,hC.2.1,h2⟩,h3⟩,h1⟩
theorem s4b {w:World}{bx g:Nat}{x0 x1 x2 y0 y1 y2:Value}(b:Blk w bx 59 #[x0,x1,x2]) (b2:Blk w g 34 #[y0,y1,y2]):w.cell? ⟨bx,1,none⟩=some x1/\w.cell? ⟨g,0,none⟩=some y0/\w.cell? ⟨g,1,none⟩=some y1/\w.cell? ⟨g,2,none⟩=some y2:=⟨b.cell_ 1 rfl,b2.cell_ 0 rfl,b2.cell_ 1 rfl,b2.cell_ 2 rfl⟩
set_option maxHeartbeats 4000000 in
set_option maxRecDepth 100000 in
theorem bcall_ok (HO:OpenOk) (HS:SumOk) (HT:ShutOk) (ρ:Rl) (bx:Nat) (a:Ads) (cc m ag:Nat) (sv:Value) (C:Cch) (k t:Nat) (kd l:Int) (data:By) (vd:Value) (w:World) (hf:Fresh ρ w) (h:BoxR ρ w bx a cc m ag sv C) (hC:Cin C k t) (hk6:k<=300000) (ht:t<=900) (hv:HasD (fun b=>¬rtC (ρ b)) w vd data):
 Calls Tryz.prog 17 #[.pointer (some ⟨bx,0,none⟩),.agg #[.int .i64 kd,.int .i64 l,vd]] w (TolB ρ bx a cc m sv (cdo C kd l data).1 (cdo C kd l data).2.1 (cdo C kd l data).2.2 w):=by
 have hvv:=hv
 obtain⟨Av,c,rfl⟩:=hv.slice
 obtain⟨q1,b1,b2⟩:=boxes w kd l (.slice Av data.length c)
 obtain⟨W1,hW1⟩:∃W1,W1=(w.alloc (.cells #[.int .i64 kd,.int .i64 l,.slice Av data.length c] 34)).alloc (.cells #[.int .i64 0,.slice none 0 0] 38):=⟨_,rfl⟩
 rw[<-hW1]at q1 b1 b2
 have b2l:=b2.lt
 obtain⟨ρ1,hρ1⟩:∃ρ1,ρ1=ρ.set (w.heap.size+1) rTmp:=⟨_,rfl⟩
 have st1:Ste rtC ρ w ρ1 W1:=by rw[hρ1];exact(Ste.of_below q1 hf).label (by omega) b2l
 have hz:ρ1 (w.heap.size+1)=rTmp:=by rw[hρ1];exact Rl.set_same _ _ _
 have h1:BoxR ρ1 W1 bx a cc m ag sv C:=h.keep q1.size (fun b hb e=>⟨q1.block b hb,by rw[hρ1];exact Rl.set_other _ (by omega)⟩)
 have hv1:HasD (fun b=>¬rtC (ρ1 b)) W1 (.slice Av data.length c) data:=(hvv.below_ q1).weakB (fun b hb e=>by
  rw[hρ1]
  by_cases hb2:b=w.heap.size+1
  ·rw[hb2,Rl.set_same];unfold rtC;decide
  ·rw[Rl.set_other _ hb2];exact e)
 have hcd:=fun W (hq:Below W1.heap.size W1 W)=>cdo_ok HO HS HT ρ1 a cc m ag C k t kd l data (.slice Av data.length c) W (fun i hi=>st1.fresh i (Nat.le_trans hq.size hi)) (h1.2.2.below_ hq) hC.cok hk6 ht hC.tw (hv1.below_ hq)
 obtain⟨R,hR⟩:∃R,R=cdo C kd l data:=⟨_,rfl⟩
 rw[<-hR]at hcd ⊢
 obtain⟨er,bb,C'⟩:=R
 simp only at hcd ⊢
 have b0:=h1.1
 have b00:=h.1
 have k0:=b00.cell_ 1 rfl
 have lk0:=b00.lt
 have c0:=b0.cell_ 1 rfl
 have lc:=b0.lt
 have d0:=b1.cell_ 0 rfl
 have d1:=b1.cell_ 1 rfl
 have d2:=b1.cell_ 2 rfl
 have ld:=b1.lt
 have hb0:bx≠w.heap.size+1:=by omega
 have hb1:w.heap.size≠w.heap.size+1:=by omega
 have r0:¬rtC (ρ1 bx):=by rw[h1.2.1];unfold rtC;decide
 have r1:¬rtC (ρ1 w.heap.size):=by rw[hρ1,Rl.set_other _ hb1,hf _ (Nat.le_refl _)];exact rtC0
 have r2:¬rtC (ρ1 (w.heap.size+1)):=by rw[hz];unfold rtC;decide
 have HW:=Lib.hid hW1
 have H:=Lib.hid (And.intro hz (And.intro h1 st1))
 have b2g:=b2
 have HC:=Lib.hid hcd
 have HR:=Lib.hid (And.intro r0 (And.intro r1 r2))
 clear h h1 hW1 hρ1 st1 hz hR hC hk6 ht hvv hv1 hv q1 hcd b00 b2 r0 r1 r2
 go_enter Tryz.func17,Tryz.ntmps17
 go_wp2_with fail
 rw[<-HW.out]
 go_region_held3 (fun w'=>w'.cell? ⟨bx,1,none⟩=some (.pointer (some ⟨cc,0,none⟩))/\w'.cell? ⟨w.heap.size,0,none⟩=some (.int .i64 kd)/\w'.cell? ⟨w.heap.size,1,none⟩=some (.int .i64 l)/\w'.cell? ⟨w.heap.size,2,none⟩=some (.slice Av data.length c))
  (first|(with_reducible exact s4b b0 b1)|(with_reducible exact s4b b0.drew b1.drew)|(with_reducible exact s4b ((b0.far hb0 _).far hb0 _) ((b1.far hb1 _).far hb1 _)))
  (first
    |(go_at_call 44;(with_reducible refine(HC.out W1.drew ((Below.refl _ _).drew)).mono ?_);rintro e w2 ⟨v,rfl,ρ2,ag2,hv2,h2,s2⟩;obtain⟨A5,z5,rfl⟩:=hv2.slice;obtain⟨nb,hnb⟩:∃nb,nb=bb.length:=⟨_,rfl⟩;rw[<-hnb]at hv2 ⊢;have HNB:=Lib.hid hnb;clear hnb;
       obtain⟨r0,r1,r2⟩:=HR.out;replace b0:=Blk.ste b0.drew s2 r0;replace b1:=Blk.ste b1.drew s2 r1;replace b2g:=Blk.ste b2g.drew s2 r2;have e0:=b2g.cell_ 0 rfl;have e1:=b2g.cell_ 1 rfl;have f0:=b2g.frozen 0;have f1:=b2g.frozen 1;have le2:=b2g.lt;have b2h:=b2g.set_to 0 (.int .i64 er) (cs':=#[.int .i64 er,.slice none 0 0]) rfl;have e2:=b2h.cell_ 1 rfl;have f2:=b2h.frozen 1;have le3:=b2h.lt;
       have HE:=Lib.hid (And.intro hv2 (And.intro h2 s2));clear hv2 h2 s2 r0 r1 r2)
    |fail)
 go_wp2_with fail
 obtain⟨hz,h1,st1⟩:=H.out
 obtain⟨hv2,h2,s2⟩:=HE.out
 have s2':Ste rtC ρ1 W1 ρ2 w2:=(Ste.of_below ((Below.refl _ _).drew) st1.fresh).trans s2
 obtain⟨hB,hT⟩:=bend b2g ((s2'.old _ b2l).trans hz) (by omega) (h1.put h2 s2') (st1.trans s2') hv2 er
 exact ret_cell 4 38 (by rfl) (w.heap.size+1) 0 (by rfl) [.int .i64 er,.slice A5 nb z5] _ hT.range Tryz.underlying38 rfl sz38 rfl hB
end Go.Proofs.YtggmdjdflaglpaaGreat
namespace Go.Proofs.YtggmdjdflaglpaaGreat
open Go.RowKit Go.Proofs.YtggmdjdflaglpaaGreat.geo
set_option linter.unusedVariables false
theorem boxesA (w:World) (cs:Array Value):Below w.heap.size w ((w.alloc (.cells cs 36)).alloc (.cells #[.int .i64 0,.slice none 0 0] 38))/\Blk ((w.alloc (.cells cs 36)).alloc (.cells #[.int .i64 0,.slice none 0 0] 38)) w.heap.size 36 cs/\
 Blk ((w.alloc (.cells cs 36)).alloc (.cells #[.int .i64 0,.slice none 0 0] 38)) (w.heap.size+1) 38 #[.int .i64 0,.slice none 0 0]:=by
 refine⟨((Below.refl _ _).alloc (Nat.le_refl _) _).alloc (by simp) _,(Blk.new w 36 _).alloc _,?_⟩
 have:=Blk.new (w.alloc (.cells cs 36)) 38 #[.int .i64 0,.slice none 0 0]
 rw[World.size_alloc]at this
 exact this
set_option maxHeartbeats 4000000 in
set_option maxRecDepth 100000 in
theorem bdo_call (HO:OpenOk) (HS:SumOk) (HT:ShutOk) (ρ:Rl) (bx:Nat) (a:Ads) (cc m ag:Nat) (sv:Value) (C:Cch) (k t:Nat) (kd l N F:Int) (data:By) (vd:Value) (D K:Option Addr) (dn kn:Nat) (dc kc:Nat) (w:World) (hf:Fresh ρ w) (h:BoxR ρ w bx a cc m ag sv C) (hC:Cin C k t) (hk6:k<=300000) (ht:t<=900) (hv:HasD (fun b=>¬rtC (ρ b)) w vd data):
 Calls Tryz.prog 9 #[.pointer (some ⟨bx,0,none⟩),.agg #[.int .i64 1,.int .i64 kd,.int .i64 l,vd,.int .i64 N,.int .i64 F,.slice D dn dc,.slice K kn kc]] w (TolB ρ bx a cc m sv (cdo C kd l data).1 (cdo C kd l data).2.1 (cdo C kd l data).2.2 w):=by
 have hvv:=hv
 obtain⟨Av,c,rfl⟩:=hv.slice
 obtain⟨q1,b1,b2⟩:=boxesA w #[.int .i64 1,.int .i64 kd,.int .i64 l,.slice Av data.length c,.int .i64 N,.int .i64 F,.slice D dn dc,.slice K kn kc]
 obtain⟨W1,hW1⟩:∃W1,W1=(w.alloc (.cells #[.int .i64 1,.int .i64 kd,.int .i64 l,.slice Av data.length c,.int .i64 N,.int .i64 F,.slice D dn dc,.slice K kn kc] 36)).alloc (.cells #[.int .i64 0,.slice none 0 0] 38):=⟨_,rfl⟩
 rw[<-hW1]at q1 b1 b2
 have b2l:=b2.lt
 obtain⟨ρ1,hρ1⟩:∃ρ1,ρ1=ρ.set (w.heap.size+1) rTmp:=⟨_,rfl⟩
 have st1:Ste rtC ρ w ρ1 W1:=by rw[hρ1];exact(Ste.of_below q1 hf).label (by omega) b2l
 have hz:ρ1 (w.heap.size+1)=rTmp:=by rw[hρ1];exact Rl.set_same _ _ _
 have h1:BoxR ρ1 W1 bx a cc m ag sv C:=h.keep q1.size (fun b hb e=>⟨q1.block b hb,by rw[hρ1];exact Rl.set_other _ (by omega)⟩)
 have hv1:HasD (fun b=>¬rtC (ρ1 b)) W1 (.slice Av data.length c) data:=(hvv.below_ q1).weakB (fun b hb e=>by
  rw[hρ1]
  by_cases hb2:b=w.heap.size+1
  ·rw[hb2,Rl.set_same];unfold rtC;decide
  ·rw[Rl.set_other _ hb2];exact e)
 have hcd:=bcall_ok HO HS HT ρ1 bx a cc m ag sv C k t kd l data (.slice Av data.length c) W1 st1.fresh h1 hC hk6 ht hv1
 obtain⟨R,hR⟩:∃R,R=cdo C kd l data:=⟨_,rfl⟩
 rw[<-hR]at hcd ⊢
 obtain⟨er,bb,C'⟩:=R
 simp only at hcd ⊢
 have d0:=b1.cell_ 0 rfl
 have d1:=b1.cell_ 1 rfl
 have d2:=b1.cell_ 2 rfl
 have d3:=b1.cell_ 3 rfl
 have ld:=b1.lt
 have HW:=Lib.hid hW1
 have r2:¬rtC (ρ1 (w.heap.size+1)):=by rw[hz];unfold rtC;decide
 have H:=Lib.hid (And.intro hz (And.intro b2 (And.intro st1 r2)))
 clear h h1 hW1 hρ1 st1 hz hR hC hk6 ht hvv hv1 hv q1 b2 r2 b1
 go_enter Tryz.func9,Tryz.ntmps9
 go_wp2_with fail
 rw[<-HW.out]
 refine hcd.mono ?_
 rintro e w2 ⟨v,rfl,ρ2,ag2,hv2,h2,s2⟩
 clear hcd
 obtain⟨A5,z5,rfl⟩:=hv2.slice
 obtain⟨nb,hnb⟩:∃nb,nb=bb.length:=⟨_,rfl⟩
 rw[<-hnb]at hv2 ⊢
 obtain⟨hz,b2,st1,r2⟩:=H.out
 have b3:=b2.ste s2 r2
 have HE:=Lib.hid (And.intro hv2 (And.intro h2 (And.intro s2 (And.intro b3 ((s2.old _ b2l).trans hz)))))
 have HNB:=Lib.hid hnb
 have e0:=b3.cell_ 0 rfl
 have e1:=b3.cell_ 1 rfl
 have f0:=b3.frozen 0
 have f1:=b3.frozen 1
 have le:=b3.lt
 clear hv2 h2 s2 hnb b3 b2 hz st1 r2
 go_wp2_with fail
 obtain⟨hz,b2,st1,r2⟩:=H.out
 obtain⟨hv2,h2,s2,b3,hz2⟩:=HE.out
 obtain⟨hB,hT⟩:=bend b3 hz2 (by omega) h2 (st1.trans s2) hv2 er
 exact ret_cell 4 38 (by rfl) (w.heap.size+1) 0 (by rfl) [.int .i64 er,.slice A5 nb z5] _ hT.range Tryz.underlying38 rfl sz38 rfl hB
theorem s4r {w:World}{bx g wl d:Nat}{N:Int}{x1 x2 y0 y1 y2 y3 y5 y6 y7 z0 z1 z2 z4 z5 z6:Value}(b:Blk w bx 59 #[.pointer (some ⟨wl,0,none⟩),x1,x2]) (b2:Blk w wl 70 #[z0,z1,z2,.pointer (some ⟨d,0,none⟩),z4,z5,z6]) (b3:Blk w g 36 #[y0,y1,y2,y3,.int .i64 N,y5,y6,y7]):
 w.cell? ⟨bx,0,none⟩=some (.pointer (some ⟨wl,0,none⟩))/\w.cell? ⟨wl,3,none⟩=some (.pointer (some ⟨d,0,none⟩))/\w.cell? ⟨g,4,none⟩=some (.int .i64 N):=⟨b.cell_ 0 rfl,b2.cell_ 3 rfl,b3.cell_ 4 rfl⟩
set_option maxHeartbeats 4000000 in
set_option maxRecDepth 100000 in
theorem bdo_refuse (ρ:Rl) (bx:Nat) (a:Ads) (cc m ag:Nat) (sv:Value) (C:Cch) (kd l N F:Int) (V D K:Option Addr) (vn dn kn:Nat) (vc dc kc:Nat) (w:World) (hf:Fresh ρ w) (h:BoxR ρ w bx a cc m ag sv C):
 Calls Tryz.prog 9 #[.pointer (some ⟨bx,0,none⟩),.agg #[.int .i64 7,.int .i64 kd,.int .i64 l,.slice V vn vc,.int .i64 N,.int .i64 F,.slice D dn dc,.slice K kn kc]] w (TolB ρ bx a cc m sv 0 [] (C.wld (C.W.ref (N !=0))) w):=by
 obtain⟨q1,b1,b2⟩:=boxesA w #[.int .i64 7,.int .i64 kd,.int .i64 l,.slice V vn vc,.int .i64 N,.int .i64 F,.slice D dn dc,.slice K kn kc]
 obtain⟨W1,hW1⟩:∃W1,W1=(w.alloc (.cells #[.int .i64 7,.int .i64 kd,.int .i64 l,.slice V vn vc,.int .i64 N,.int .i64 F,.slice D dn dc,.slice K kn kc] 36)).alloc (.cells #[.int .i64 0,.slice none 0 0] 38):=⟨_,rfl⟩
 rw[<-hW1]at q1 b1 b2
 have b2l:=b2.lt
 obtain⟨ρ1,hρ1⟩:∃ρ1,ρ1=ρ.set (w.heap.size+1) rTmp:=⟨_,rfl⟩
 have st1:Ste rtC ρ w ρ1 W1:=by rw[hρ1];exact(Ste.of_below q1 hf).label (by omega) b2l
 have hz:ρ1 (w.heap.size+1)=rTmp:=by rw[hρ1];exact Rl.set_same _ _ _
 have h1:BoxR ρ1 W1 bx a cc m ag sv C:=h.keep q1.size (fun b hb e=>⟨q1.block b hb,by rw[hρ1];exact Rl.set_other _ (by omega)⟩)
 have hcd:=fun b=>wref_ok ρ1 a C.W b W1.drew st1.fresh (h1.2.2.wld.drew)
 have b0:=h1.1
 have bw:=h1.2.2.wld.1
 have c0:=b0.cell_ 0 rfl
 have lb:=b0.lt
 have cw:=bw.cell_ 3 rfl
 have lw:=bw.lt
 have d0:=b1.cell_ 0 rfl
 have d4:=b1.cell_ 4 rfl
 have ld:=b1.lt
 have HW:=Lib.hid hW1
 have r0:¬ρ1 bx=rDsk:=by rw[h1.2.1];decide
 have rw_:¬ρ1 a.wl=rDsk:=by rw[h1.2.2.wld.2.1];decide
 have r1:¬ρ1 w.heap.size=rDsk:=by rw[hρ1,Rl.set_other _ (by omega),hf _ (Nat.le_refl _)];decide
 have HR:=Lib.hid (And.intro r0 (And.intro rw_ r1))
 have H:=Lib.hid (And.intro hz (And.intro b2 (And.intro st1 h1)))
 have HC:=Lib.hid hcd
 obtain⟨B,hB⟩:∃B,B=(N !=0):=⟨_,rfl⟩
 rw[<-hB]
 have HB:=Lib.hid hB
 clear h h1 hW1 hρ1 st1 hz q1 b2 hcd hB r0 rw_ r1
 go_enter Tryz.func9,Tryz.ntmps9
 go_wp2_with fail
 rw[<-HW.out]
 go_region_held3 (fun w'=>w'.cell? ⟨bx,0,none⟩=some (.pointer (some ⟨a.wl,0,none⟩))/\w'.cell? ⟨a.wl,3,none⟩=some (.pointer (some ⟨a.d,0,none⟩))/\w'.cell? ⟨w.heap.size,4,none⟩=some (.int .i64 N))
  (first|(with_reducible exact s4r b0 bw b1)|(with_reducible exact s4r b0.drew bw.drew b1.drew))
  (first
    |(go_at_call 23;(with_reducible refine(HC.out _).mono ?_);rintro e w2 ⟨rfl,h2,s2⟩;
       obtain⟨r0,rw_,r1⟩:=HR.out;replace b0:=Blk.ste b0.drew s2 r0;replace bw:=Blk.ste bw.drew s2 rw_;replace b1:=Blk.ste b1.drew s2 r1;
       have HE:=Lib.hid (And.intro h2 s2);clear h2 s2 r0 rw_ r1)
    |fail)
 obtain⟨h2,s2⟩:=HE.out
 obtain⟨hz,b2,st1,h1⟩:=H.out
 have h2':WldR ρ1 w2 a (C.W.ref B):=by rw[HB.out];exact h2
 have b3:=Blk.ste b2.drew s2 (by rw[hz];decide)
 have s2':Ste (fun r=>r=rDsk) ρ1 W1 ρ1 w2:=(Ste.of_below ((Below.refl _ _).drew) st1.fresh).trans s2
 have h3:BoxR ρ1 w2 bx a cc m ag sv (C.wld (C.W.ref B)):=h1.put (h1.2.2.put_wld h2' (s2'.mono (fun r e=>by rw[e];unfold rtW;decide))) (s2'.mono (fun r e=>by rw[e];unfold rtC;decide))
 have HE2:=Lib.hid (And.intro hz (And.intro b3 (And.intro h3 (st1.trans (s2'.mono (fun r e=>by rw[e];unfold rtC;decide))))))
 have e0:=b3.cell_ 0 rfl
 have e1:=b3.cell_ 1 rfl
 have f0:=b3.frozen 0
 have f1:=b3.frozen 1
 have le:=b3.lt
 clear h2 s2 hz b2 st1 h1 h2' b3 s2' h3
 go_wp2_with fail
 obtain⟨hz,b3,h3,st3⟩:=HE2.out
 obtain⟨hB,hT⟩:=bend (b:=[]) b3 hz (by omega) h3 st3 (.inl ⟨rfl,rfl⟩) 0
 exact ret_cell 4 38 (by rfl) (w.heap.size+1) 0 (by rfl) [.int .i64 0,.slice none 0 0] _ hT.range Tryz.underlying38 rfl sz38 rfl hB
end Go.Proofs.YtggmdjdflaglpaaGreat
