/- play.Box.crash. play.Box.Do: a fuse, a crash, a disk that refuses, what is no act. play.Box.Do: a call, with a cache and without. play.Box.Do: the foe takes a copy. lockboxtop: call, block. -/
import Derived.Test.YtggmdjdflaglpaaGreatR38
namespace Go.Proofs.YtggmdjdflaglpaaGreat
open Go.RowKit Go.Proofs.YtggmdjdflaglpaaGreat.geo
set_option linter.unusedVariables false
abbrev rSnp:Nat:=25
def rtX (r:Nat):Prop:=rtC r\/r=rBox\/r=rSnp
theorem rtC.x {r:Nat}(h:rtC r):rtX r:=.inl h
def SnpR (ρ:Rl) (w:World) (sv:Value) (n:Nat):Prop:=∃xs,w.ownsRow 0 32 1 sv n xs/\(∀b,sv.ownBlock=some b->ρ b=rSnp)
def BstR (ρ:Rl) (w:World) (bx:Nat) (a:Ads) (S:Bst):Prop:=
 ∃A sv,Blk w bx 59 #[.pointer (some ⟨a.wl,0,none⟩),.pointer A,sv]/\ρ bx=rBox/\WldR ρ w a S.C.W/\SnpR ρ w sv S.n/\
  ((S.dead=true/\A=none)\/(S.dead=false/\∃cc m ag,A=some ⟨cc,0,none⟩/\CchR ρ w a cc m ag S.C))
theorem SnpR.keep {ρ ρ':Rl}{w w':World}{sv:Value}{n:Nat}(h:SnpR ρ w sv n) (hk:∀b,b<w.heap.size->ρ b=rSnp->w'.heap[b]? =w.heap[b]? /\ρ' b=ρ b):SnpR ρ' w' sv n:=by
 obtain⟨xs,h1,h2⟩:=h
 have hlt:∀b,sv.ownBlock=some b->b<w.heap.size:=fun b hb=>row_lt h1 hb
 exact⟨xs,row_keep h1 (fun b hb hb'=>(hk b hb (h2 b hb')).1),fun b hb=>(hk b (hlt b hb) (h2 b hb)).2.trans (h2 b hb)⟩
theorem BstR.keep {ρ ρ':Rl}{w w':World}{bx:Nat}{a:Ads}{S:Bst}(h:BstR ρ w bx a S) (hs:w.heap.size<=w'.heap.size) (hk:∀b,b<w.heap.size->ρ b≠0->w'.heap[b]? =w.heap[b]? /\ρ' b=ρ b):BstR ρ' w' bx a S:=by
 obtain⟨A,sv,h1,h2,h3,h4,h5⟩:=h
 have k:=hk bx h1.lt (by rw[h2];decide)
 refine⟨A,sv,k.1.trans h1,k.2.trans h2,h3.keep hs (fun b hb e=>hk b hb (by unfold rsW at e;omega)),h4.keep (fun b hb e=>hk b hb (by rw[e];decide)),?_⟩
 rcases h5 with h5|⟨h5,cc,m,ag,h6,h7⟩
 ·exact .inl h5
 ·exact .inr ⟨h5,cc,m,ag,h6,h7.keep hs (fun b hb e=>hk b hb (by unfold rsC at e;omega))⟩
theorem BstR.below_ {ρ:Rl}{w w':World}{bx:Nat}{a:Ads}{S:Bst}(h:BstR ρ w bx a S) (hb:Below w.heap.size w w'):BstR ρ w' bx a S:=h.keep hb.size (fun b hx _=>⟨hb.block b hx,rfl⟩)
theorem load_per (HO:OpenOk) (HS:SumOk) {C:Cch}{D:Nat->By}{k t:Nat}(h:Per C D) (hC:Cok C k t) (hk:k<=600000) (ks:List Bool) (a:Ads) (ρ1:Rl) (w1:World) (hf:Fresh ρ1 w1) (hw:WldR ρ1 w1 a (wop C ks)):
 Calls Tryz.prog 37 #[.pointer (some ⟨a.wl,0,none⟩)] w1 (LdP ρ1 a 0 C.was (wld2 C ks) w1):=by
 obtain⟨s1,s2,s3,s4,s5,s6,s7⟩:=wop_same C ks
 have hfit:(wop C ks).fit (k+1):=(hC.fit.crash ks).bot
 have hv:(wop C ks).cnt.value=C.W.cnt.value:=by rw[s4];rfl
 rcases h.com_ hC ks with⟨e1,e2⟩|⟨e1,e2⟩
 ·have hV:=hC.fit.geo
  have:=load_zero ρ1 a (wop C ks) w1 hf hw s7.1 (hv.trans e1) (by rw[s1];unfold V at hV;omega)
  have e3:wld2 C ks=wop C ks:=by unfold wld2 loadW;rw[if_pos (hv.trans e1)]
  rw[e3,e2,<-s1]
  exact this
 ·have:=load_com HO HS ρ1 a (wop C ks) C.was w1 hf hw (hfit.mono (by omega)) s7.1 (by rw[hv];exact e1) (by rw[s1];exact h.wl) (fun i l hl=>h.wokn i l hl) e2
  have e3:wld2 C ks=(wop C ks).lck (bldL (wop C ks).lk (C.was.map leafB)):=by unfold wld2 loadW;rw[if_neg (by rw[hv];exact e1)]
  rw[e3]
  exact this
theorem OpP.one {ρ:Rl}{a:Ads}{R:Int×Cch}{w w':World}{e:Ending}(h:OpP ρ a R w e w'):∃A,e=.returned (.tuple #[.pointer A,.int .i64 R.1])/\∃ρ',WldR ρ' w' a R.2.W/\Ste rtC ρ w ρ' w'/\((R.1≠0/\A=none)\/(R.1=0/\∃cc m ag,A=some ⟨cc,0,none⟩/\CchR ρ' w' a cc m ag R.2)):=by
 rcases h with⟨h1,cc,m,rfl,ρ',ag,h2,h3⟩|⟨h1,rfl,ρ',h2,h3⟩
 ·exact⟨_,by rw[h1],ρ',h2.wld,h3,.inr ⟨h1,cc,m,ag,rfl,h2⟩⟩
 ·exact⟨_,rfl,ρ',h2,h3,.inl ⟨h1,rfl⟩⟩
set_option maxHeartbeats 4000000 in
set_option maxRecDepth 100000 in
theorem crash_ok (HO:OpenOk) (HS:SumOk) (HT:ShutOk) (ρ:Rl) (bx:Nat) (a:Ads) (S:Bst) (D:Nat->By) (k t:Nat) (kv:Value) (ks:List Bool) (w:World) (hf:Fresh ρ w) (h:BstR ρ w bx a S) (hP:Per S.C D) (hC:Cok S.C k t) (hk:k<=200000) (hkv:HasK (fun b=>¬rtX (ρ b)) w kv ks) (hkl:ks.length<=1000):
 Calls Tryz.prog 19 #[.pointer (some ⟨bx,0,none⟩),kv] w fun e w'=>e=.returned (.int .i64 (bcrash S ks).1)/\∃ρ',BstR ρ' w' bx a (bcrash S ks).2/\Ste rtX ρ w ρ' w':=by
 obtain⟨A0,sv,b0,r0,hw,hsn,_⟩:=h
 have hcr:=wcrash_ok ρ a S.C.W w kv ks hf hw (hC.fit.mono (by omega)) (hkv.weakB (fun b hb e c=>e (.inl c.c))) hkl
 have hop:=fun w1 hf1 h1=>open_ok HO HS HT ρ a (S.C.W.crash ks) (wld2 S.C ks) S.C.was k w1 hf1 h1 rfl (by exact(show(S.C.W.crash ks).pow.on from⟨rfl,rfl⟩).spend.1) (hC.fit.crash ks) (by omega)
  (fun ρ1 w1 hf1 h1=>load_per HO HS hP hC (by omega) ks a ρ1 w1 hf1 h1) ((wld2_fit hC ks hP.wl).mono (by omega)) ((wld2_same S.C ks).2.2.2.2.2.2.2 hC.good) (by rw[(wld2_same S.C ks).2.1];exact hC.ka) (by rw[(wld2_same S.C ks).1];exact hP.wl) (fun i l hl=>hP.wokn i l hl)
 obtain⟨R,hR⟩:∃R,R=bopen S.C ks:=⟨_,rfl⟩
 have hR':copen (wld2 S.C ks) S.C.was=R:=hR.symm
 rw[hR']at hop
 have hbc:bcrash S ks=(R.1,⟨R.2,decide (R.1≠0),S.n⟩):=by unfold bcrash;rw[<-hR]
 rw[hbc]
 obtain⟨R1,RC⟩:=R
 simp only
 obtain⟨A2,c2,hkvs⟩:∃A c,kv=.slice A ks.length c:=by obtain⟨A,c,e,_⟩:=hkv;exact⟨A,c,e⟩
 obtain⟨nk,hnk⟩:∃nk,nk=ks.length:=⟨_,rfl⟩
 rw[hkvs,<-hnk]at hcr ⊢
 have b00:=b0
 have cw:=b0.cell_ 0 rfl
 have lb:=b0.lt
 have H:=Lib.hid (And.intro b00 (And.intro r0 hsn))
 clear hw hsn hkv hkvs hnk hP hC hk hR hR' hbc b0 b00
 go_enter Tryz.func19,Tryz.ntmps19
 go_wp2_with fail
 refine hcr.mono ?_
 rintro e w1 ⟨rfl,h1,s1⟩
 clear hcr
 obtain⟨b0,r0,hsn⟩:=H.out
 have b1:=Blk.ste b0 s1 (by rw[r0];unfold rtW;decide)
 have hop1:=hop w1 s1.fresh h1
 have HS1:=Lib.hid (And.intro b1 s1)
 have cw1:=b1.cell_ 0 rfl
 have lb1:=b1.lt
 clear h1 s1 hop cw lb b0 hsn b1
 go_wp2_with fail
 refine hop1.mono ?_
 intro e w2 hE
 clear hop1
 obtain⟨A,rfl,ρ2,hw2,s2,hA⟩:=hE.one
 clear hE
 obtain⟨b1,s1⟩:=HS1.out
 have b2:=Blk.ste b1 s2 (by rw[r0];unfold rtC;decide)
 have HE:=Lib.hid (And.intro hw2 (And.intro s2 (And.intro hA b2)))
 have k1:=b2.cell_ 1 rfl
 have f1:=b2.frozen 1
 have lb2:=b2.lt
 clear hw2 s2 hA b1 s1 b2 cw1
 go_wp2_with fail
 go_ret
 obtain⟨hw2,s2,hA,b2⟩:=HE.out
 obtain⟨b1,s1⟩:=HS1.out
 obtain⟨b0,r0,hsn⟩:=H.out
 have st:Ste rtX ρ w ρ2 w2:=(s1.mono (fun r e=>.inl e.c)).trans (s2.mono (fun r e=>.inl e))
 have r2:ρ2 bx=rBox:=(st.old bx b0.lt).trans r0
 have hg:w2.grownBy (w2.setCell ⟨bx,1,none⟩ (.pointer A)) (some bx):=only_setCell (only_refl _ _) (.inl rfl) _
 have hkp:∀b,b<w2.heap.size->ρ2 b≠rBox->(w2.setCell ⟨bx,1,none⟩ (.pointer A)).heap[b]? =w2.heap[b]? /\ρ2 b=ρ2 b:=fun b hb e=>⟨hg.block b hb (fun c=>e (by injection c with c;rw[c];exact r2)),rfl⟩
 have hsn2:SnpR ρ2 w2 sv S.n:=(hsn.keep (fun b hb e=>⟨s1.ch.keep b hb (by rw[e];unfold rtW;decide),s1.old b hb⟩)).keep (fun b hb e=>⟨s2.ch.keep b hb (by rw[e];unfold rtC;decide),s2.old b hb⟩)
 refine⟨rfl,ρ2,⟨A,sv,b2.set_to 1 (.pointer A) rfl,r2,hw2.keep hg.size (fun b hb e=>hkp b hb (by show ρ2 b≠23;unfold rsW at e;omega)),hsn2.keep (fun b hb e=>hkp b hb (by rw[e];decide)),?_⟩,st.trans (Ste.of_grown hg (by rw[r2];exact .inr (.inl rfl)) st.fresh)⟩
 rcases hA with⟨e1,e2⟩|⟨e1,cc,m,ag,e2,e3⟩
 ·exact .inl ⟨by simpa using e1,e2⟩
 ·exact .inr ⟨by simpa using e1,cc,m,ag,e2,e3.keep hg.size (fun b hb e=>hkp b hb (by show ρ2 b≠23;unfold rsC at e;omega))⟩
end Go.Proofs.YtggmdjdflaglpaaGreat
namespace Go.Proofs.YtggmdjdflaglpaaGreat
open Go.RowKit Go.Proofs.YtggmdjdflaglpaaGreat.geo
set_option linter.unusedVariables false
def ToS (ρ:Rl) (bx:Nat) (a:Ads) (er:Int) (b:By) (S:Bst) (w:World) (e:Ending) (w':World):Prop:=
 ∃v,e=.returned (.agg #[.int .i64 er,v])/\∃ρ',HasP (ρ' · =0) w' v b/\BstR ρ' w' bx a S/\Ste rtX ρ w ρ' w'
theorem BstR.put_wld {ρ ρ':Rl}{w w':World}{bx:Nat}{a:Ads}{S:Bst}(h:BstR ρ w bx a S) {W:Wld}(hW:WldR ρ' w' a W) (hs:Ste rtW ρ w ρ' w'):BstR ρ' w' bx a ⟨S.C.wld W,S.dead,S.n⟩:=by
 obtain⟨A,sv,h1,h2,h3,h4,h5⟩:=h
 refine⟨A,sv,Blk.ste h1 hs (by rw[h2];unfold rtW;decide),(hs.old bx h1.lt).trans h2,hW,h4.keep (fun b hb e=>⟨hs.ch.keep b hb (by rw[e];unfold rtW;decide),hs.old b hb⟩),?_⟩
 rcases h5 with h5|⟨h5,cc,m,ag,h6,h7⟩
 ·exact .inl h5
 ·exact .inr ⟨h5,cc,m,ag,h6,h7.put_wld hW hs⟩
theorem send {ρ ρ':Rl}{w w':World}{a:Ads}{bx g:Nat}{S:Bst}{x y v:Value}{b:By}(hB:Blk w' g 38 #[x,y]) (hz:ρ' g=rTmp) (hg:w.heap.size<=g) (hS:BstR ρ' w' bx a S) (hs:Ste rtX ρ w ρ' w') (hv:HasP (ρ' · =0) w' v b) (er:Int):
 ToS ρ bx a er b S w (.returned (.agg [.int .i64 er,v].toArray)) ((w'.setCell ⟨g,0,none⟩ (.int .i64 er)).setCell ⟨g,1,none⟩ v)/\Blk ((w'.setCell ⟨g,0,none⟩ (.int .i64 er)).setCell ⟨g,1,none⟩ v) g 38 [.int .i64 er,v].toArray:=by
 have h2:=only_set2 w' g 0 1 (.int .i64 er) v
 have hne:∀r,r≠rTmp->∀i,i<w'.heap.size->ρ' i=r->((w'.setCell ⟨g,0,none⟩ (.int .i64 er)).setCell ⟨g,1,none⟩ v).heap[i]? =w'.heap[i]? :=fun r hr i hi e=>h2.block i hi (fun c=>hr (by injection c with c;rw[<-e,c,hz]))
 refine⟨⟨v,rfl,ρ',hv.keep h2.size (fun i hi e=>hne 0 (by decide) i hi e),?_,⟨hs.ch.then_only h2 hg,hs.old,fun i hi=>hs.fresh i (Nat.le_trans h2.size hi)⟩⟩,(hB.set_to 0 (.int .i64 er) (cs':=#[.int .i64 er,y]) rfl).set_to 1 v rfl⟩
 obtain⟨A,sv,h3,h4,h5,h6,h7⟩:=hS
 refine⟨A,sv,(hne 23 (by decide) bx h3.lt h4).trans h3,h4,h5.keep h2.size (fun i hi e=>⟨hne _ (by intro c;rw[c]at e;exact absurd e.2 (by decide)) i hi rfl,rfl⟩),h6.keep (fun i hi e=>⟨hne _ (by rw[e];decide) i hi rfl,rfl⟩),?_⟩
 rcases h7 with h7|⟨h7,cc,m,ag,h8,h9⟩
 ·exact .inl h7
 ·exact .inr ⟨h7,cc,m,ag,h8,h9.keep h2.size (fun i hi e=>⟨hne _ (by intro c;rw[c]at e;exact absurd e.2 (by decide)) i hi rfl,rfl⟩)⟩
theorem rtX0:¬rtX 0:=by unfold rtX rtC;decide
theorem rtXz {ρ':Rl}{g:Nat}(h:ρ' g=rTmp):¬rtX (ρ' g):=by rw[h];unfold rtX rtC;decide
theorem boxesT (w:World) (cs:Array Value) (er:Int):Below w.heap.size w ((w.alloc (.cells cs 36)).alloc (.cells #[.int .i64 er,.slice none 0 0] 38))/\Blk ((w.alloc (.cells cs 36)).alloc (.cells #[.int .i64 er,.slice none 0 0] 38)) (w.heap.size+1) 38 [.int .i64 er,.slice none 0 0].toArray:=by
 refine⟨((Below.refl _ _).alloc (Nat.le_refl _) _).alloc (by simp) _,?_⟩
 have:=Blk.new (w.alloc (.cells cs 36)) 38 #[.int .i64 er,.slice none 0 0]
 rw[World.size_alloc]at this
 exact this
theorem s4refuse {w:World}{bx g wl d:Nat}{N:Int}{x1 x2 y0 y1 y2 y3 y5 y6 y7 z0 z1 z2 z4 z5 z6:Value}(b:Blk w bx 59 #[.pointer (some ⟨wl,0,none⟩),x1,x2]) (b2:Blk w wl 70 #[z0,z1,z2,.pointer (some ⟨d,0,none⟩),z4,z5,z6]) (b3:Blk w g 36 #[y0,y1,y2,y3,.int .i64 N,y5,y6,y7]):
 w.cell? ⟨bx,0,none⟩=some (.pointer (some ⟨wl,0,none⟩))/\w.cell? ⟨wl,3,none⟩=some (.pointer (some ⟨d,0,none⟩))/\w.cell? ⟨g,4,none⟩=some (.int .i64 N):=⟨b.cell_ 0 rfl,b2.cell_ 3 rfl,b3.cell_ 4 rfl⟩
set_option maxHeartbeats 4000000 in
set_option maxRecDepth 100000 in
theorem bs_refuse (ρ:Rl) (bx:Nat) (a:Ads) (S:Bst) (kd l N F:Int) (V D K:Option Addr) (vn dn kn:Nat) (vc dc kc:Nat) (w:World) (hf:Fresh ρ w) (h:BstR ρ w bx a S):
 Calls Tryz.prog 9 #[.pointer (some ⟨bx,0,none⟩),.agg #[.int .i64 7,.int .i64 kd,.int .i64 l,.slice V vn vc,.int .i64 N,.int .i64 F,.slice D dn dc,.slice K kn kc]] w (ToS ρ bx a 0 [] ⟨S.C.wld (S.C.W.ref (N !=0)),S.dead,S.n⟩ w):=by
 obtain⟨q1,b1,b2⟩:=boxesA w #[.int .i64 7,.int .i64 kd,.int .i64 l,.slice V vn vc,.int .i64 N,.int .i64 F,.slice D dn dc,.slice K kn kc]
 obtain⟨W1,hW1⟩:∃W1,W1=(w.alloc (.cells #[.int .i64 7,.int .i64 kd,.int .i64 l,.slice V vn vc,.int .i64 N,.int .i64 F,.slice D dn dc,.slice K kn kc] 36)).alloc (.cells #[.int .i64 0,.slice none 0 0] 38):=⟨_,rfl⟩
 rw[<-hW1]at q1 b1 b2
 have b2l:=b2.lt
 obtain⟨ρ1,hρ1⟩:∃ρ1,ρ1=ρ.set (w.heap.size+1) rTmp:=⟨_,rfl⟩
 have st1:Ste rtX ρ w ρ1 W1:=by rw[hρ1];exact(Ste.of_below q1 hf).label (by omega) b2l
 have hz:ρ1 (w.heap.size+1)=rTmp:=by rw[hρ1];exact Rl.set_same _ _ _
 have h1:BstR ρ1 W1 bx a S:=h.keep q1.size (fun b hb e=>⟨q1.block b hb,by rw[hρ1];exact Rl.set_other _ (by omega)⟩)
 obtain⟨A,sv,b0,rb,hwl,_⟩:=id h1
 have hcd:=fun b=>(wref_ok ρ1 a S.C.W b W1.drew st1.fresh (hwl.drew)).mono (fun e w2 hh=>(⟨hh.1,hh.2.1,hh.2.2.mono (fun r e=>by rw[e];unfold rtW;decide)⟩:e=.returned (.tuple #[])/\WldR ρ1 w2 a (S.C.W.ref b)/\Ste rtW ρ1 W1.drew ρ1 w2))
 have bw:=hwl.1
 have c0:=b0.cell_ 0 rfl
 have lb:=b0.lt
 have cw:=bw.cell_ 3 rfl
 have lw:=bw.lt
 have d0:=b1.cell_ 0 rfl
 have d4:=b1.cell_ 4 rfl
 have ld:=b1.lt
 have HW:=Lib.hid hW1
 have r0:¬rtW (ρ1 bx):=by rw[rb];unfold rtW;decide
 have rw_:¬rtW (ρ1 a.wl):=by rw[hwl.2.1];unfold rtW;decide
 have r1:¬rtW (ρ1 w.heap.size):=by rw[hρ1,Rl.set_other _ (by omega),hf _ (Nat.le_refl _)];unfold rtW;decide
 have HR:=Lib.hid (And.intro r0 (And.intro rw_ r1))
 have H:=Lib.hid (And.intro hz (And.intro b2 (And.intro st1 h1)))
 have HC:=Lib.hid hcd
 clear h h1 hW1 hρ1 st1 hz q1 b2 hcd r0 rw_ r1 rb hwl
 go_enter Tryz.func9,Tryz.ntmps9
 go_wp2_with fail
 rw[<-HW.out]
 go_region_held3 (fun w'=>w'.cell? ⟨bx,0,none⟩=some (.pointer (some ⟨a.wl,0,none⟩))/\w'.cell? ⟨a.wl,3,none⟩=some (.pointer (some ⟨a.d,0,none⟩))/\w'.cell? ⟨w.heap.size,4,none⟩=some (.int .i64 N))
  (first|(with_reducible exact s4refuse b0 bw b1)|(with_reducible exact s4refuse b0.drew bw.drew b1.drew))
  (first
    |(go_at_call 23;(with_reducible refine(HC.out _).mono ?_);rintro e w2 ⟨rfl,h2,s2⟩;
       obtain⟨r0,rw_,r1⟩:=HR.out;replace b0:=Blk.ste b0.drew s2 r0;replace bw:=Blk.ste bw.drew s2 rw_;replace b1:=Blk.ste b1.drew s2 r1;
       have HE:=Lib.hid (And.intro h2 s2);clear h2 s2 r0 rw_ r1)
    |fail)
 obtain⟨h2,s2⟩:=HE.out
 obtain⟨hz,b2,st1,h1⟩:=H.out
 have b3:=Blk.ste b2.drew s2 (by rw[hz];unfold rtW;decide)
 have s2':Ste rtW ρ1 W1 ρ1 w2:=(Ste.of_below ((Below.refl _ _).drew) st1.fresh).trans s2
 have h3:=h1.put_wld h2 s2'
 have HE2:=Lib.hid (And.intro hz (And.intro b3 (And.intro h3 (st1.trans (s2'.mono (fun r e=>.inl e.c))))))
 have e0:=b3.cell_ 0 rfl
 have e1:=b3.cell_ 1 rfl
 have f0:=b3.frozen 0
 have f1:=b3.frozen 1
 have le:=b3.lt
 clear h2 s2 hz b2 st1 h1 b3 s2' h3
 go_wp2_with fail
 obtain⟨hz,b3,h3,st3⟩:=HE2.out
 obtain⟨hB,hT⟩:=send (b:=[]) b3 hz (by omega) h3 st3 (.inl ⟨rfl,rfl⟩) 0
 exact ret_cell 4 38 (by rfl) (w.heap.size+1) 0 (by rfl) [.int .i64 0,.slice none 0 0] _ hT.range Tryz.underlying38 rfl sz38 rfl hB
theorem s4fuse {w:World}{bx g wl d:Nat}{N:Int}{x1 x2 y0 y1 y2 y3 y5 y6 y7 z0 z2 z3 z4 z5 z6:Value}(b:Blk w bx 59 #[.pointer (some ⟨wl,0,none⟩),x1,x2]) (b2:Blk w wl 70 #[z0,.pointer (some ⟨d,0,none⟩),z2,z3,z4,z5,z6]) (b3:Blk w g 36 #[y0,y1,y2,y3,.int .i64 N,y5,y6,y7]):
 w.cell? ⟨bx,0,none⟩=some (.pointer (some ⟨wl,0,none⟩))/\w.cell? ⟨wl,1,none⟩=some (.pointer (some ⟨d,0,none⟩))/\w.cell? ⟨g,4,none⟩=some (.int .i64 N):=⟨b.cell_ 0 rfl,b2.cell_ 1 rfl,b3.cell_ 4 rfl⟩
set_option maxHeartbeats 4000000 in
set_option maxRecDepth 100000 in
theorem bs_fuse (ρ:Rl) (bx:Nat) (a:Ads) (S:Bst) (kd l N F:Int) (V D K:Option Addr) (vn dn kn:Nat) (vc dc kc:Nat) (w:World) (hf:Fresh ρ w) (h:BstR ρ w bx a S) (hN:N<=9223372036854775807):
 Calls Tryz.prog 9 #[.pointer (some ⟨bx,0,none⟩),.agg #[.int .i64 2,.int .i64 kd,.int .i64 l,.slice V vn vc,.int .i64 N,.int .i64 F,.slice D dn dc,.slice K kn kc]] w (ToS ρ bx a 0 [] ⟨S.C.wld (S.C.W.fuse N),S.dead,S.n⟩ w):=by
 obtain⟨q1,b1,b2⟩:=boxesA w #[.int .i64 2,.int .i64 kd,.int .i64 l,.slice V vn vc,.int .i64 N,.int .i64 F,.slice D dn dc,.slice K kn kc]
 obtain⟨W1,hW1⟩:∃W1,W1=(w.alloc (.cells #[.int .i64 2,.int .i64 kd,.int .i64 l,.slice V vn vc,.int .i64 N,.int .i64 F,.slice D dn dc,.slice K kn kc] 36)).alloc (.cells #[.int .i64 0,.slice none 0 0] 38):=⟨_,rfl⟩
 rw[<-hW1]at q1 b1 b2
 have b2l:=b2.lt
 obtain⟨ρ1,hρ1⟩:∃ρ1,ρ1=ρ.set (w.heap.size+1) rTmp:=⟨_,rfl⟩
 have st1:Ste rtX ρ w ρ1 W1:=by rw[hρ1];exact(Ste.of_below q1 hf).label (by omega) b2l
 have hz:ρ1 (w.heap.size+1)=rTmp:=by rw[hρ1];exact Rl.set_same _ _ _
 have h1:BstR ρ1 W1 bx a S:=h.keep q1.size (fun b hb e=>⟨q1.block b hb,by rw[hρ1];exact Rl.set_other _ (by omega)⟩)
 obtain⟨A,sv,b0,rb,hwl,_⟩:=id h1
 have hcd:=fun(u:N<=9223372036854775807)=>(wfuse_ok ρ1 a S.C.W W1.drew N st1.fresh (hwl.drew) (by have:=u;omega))
 have bw:=hwl.1
 have c0:=b0.cell_ 0 rfl
 have lb:=b0.lt
 have cw:=bw.cell_ 1 rfl
 have lw:=bw.lt
 have d0:=b1.cell_ 0 rfl
 have d4:=b1.cell_ 4 rfl
 have ld:=b1.lt
 have HW:=Lib.hid hW1
 have r0:¬rtW (ρ1 bx):=by rw[rb];unfold rtW;decide
 have rw_:¬rtW (ρ1 a.wl):=by rw[hwl.2.1];unfold rtW;decide
 have r1:¬rtW (ρ1 w.heap.size):=by rw[hρ1,Rl.set_other _ (by omega),hf _ (Nat.le_refl _)];unfold rtW;decide
 have HR:=Lib.hid (And.intro r0 (And.intro rw_ r1))
 have H:=Lib.hid (And.intro hz (And.intro b2 (And.intro st1 h1)))
 have HC:=Lib.hid hcd
 clear h h1 hW1 hρ1 st1 hz q1 b2 hcd r0 rw_ r1 rb hwl
 go_enter Tryz.func9,Tryz.ntmps9
 go_wp2_with fail
 rw[<-HW.out]
 go_region_held3 (fun w'=>w'.cell? ⟨bx,0,none⟩=some (.pointer (some ⟨a.wl,0,none⟩))/\w'.cell? ⟨a.wl,1,none⟩=some (.pointer (some ⟨a.p,0,none⟩))/\w'.cell? ⟨w.heap.size,4,none⟩=some (.int .i64 N))
  (first|(with_reducible exact s4fuse b0 bw b1)|(with_reducible exact s4fuse b0.drew bw.drew b1.drew))
  (first
    |(go_at_call 18;(with_reducible refine(HC.out hN).mono ?_);rintro e w2 ⟨rfl,h2,s2⟩;
       obtain⟨r0,rw_,r1⟩:=HR.out;replace b0:=Blk.ste b0.drew s2 r0;replace bw:=Blk.ste bw.drew s2 rw_;replace b1:=Blk.ste b1.drew s2 r1;
       have HE:=Lib.hid (And.intro h2 s2);clear h2 s2 r0 rw_ r1)
    |fail)
 obtain⟨h2,s2⟩:=HE.out
 obtain⟨hz,b2,st1,h1⟩:=H.out
 have b3:=Blk.ste b2.drew s2 (by rw[hz];unfold rtW;decide)
 have s2':Ste rtW ρ1 W1 ρ1 w2:=(Ste.of_below ((Below.refl _ _).drew) st1.fresh).trans s2
 have h3:=h1.put_wld h2 s2'
 have HE2:=Lib.hid (And.intro hz (And.intro b3 (And.intro h3 (st1.trans (s2'.mono (fun r e=>.inl e.c))))))
 have e0:=b3.cell_ 0 rfl
 have e1:=b3.cell_ 1 rfl
 have f0:=b3.frozen 0
 have f1:=b3.frozen 1
 have le:=b3.lt
 clear h2 s2 hz b2 st1 h1 b3 s2' h3
 go_wp2_with fail
 obtain⟨hz,b3,h3,st3⟩:=HE2.out
 obtain⟨hB,hT⟩:=send (b:=[]) b3 hz (by omega) h3 st3 (.inl ⟨rfl,rfl⟩) 0
 exact ret_cell 4 38 (by rfl) (w.heap.size+1) 0 (by rfl) [.int .i64 0,.slice none 0 0] _ hT.range Tryz.underlying38 rfl sz38 rfl hB
set_option maxHeartbeats 4000000 in
set_option maxRecDepth 100000 in
theorem bs_none (ρ:Rl) (bx:Nat) (a:Ads) (S:Bst) (kind kd l N F:Int) (V D K:Option Addr) (vn dn kn:Nat) (vc dc kc:Nat) (w:World) (hf:Fresh ρ w) (h:BstR ρ w bx a S) (hk:kind<1\/7<kind):
 Calls Tryz.prog 9 #[.pointer (some ⟨bx,0,none⟩),.agg #[.int .i64 kind,.int .i64 kd,.int .i64 l,.slice V vn vc,.int .i64 N,.int .i64 F,.slice D dn dc,.slice K kn kc]] w (ToS ρ bx a 1 [] S w):=by
 have n1:¬kind=1:=by omega
 have n2:¬kind=2:=by omega
 have n3:¬kind=3:=by omega
 have n4:¬kind=4:=by omega
 have n5:¬kind=5:=by omega
 have n6:¬kind=6:=by omega
 have n7:¬kind=7:=by omega
 have lb:bx<w.heap.size:=by obtain⟨_,_,hb,_⟩:=h;exact hb.lt
 go_enter Tryz.func9,Tryz.ntmps9
 go_wp2_with fail
 obtain⟨q,hB⟩:=boxesT w #[.int .i64 kind,.int .i64 kd,.int .i64 l,.slice V vn vc,.int .i64 N,.int .i64 F,.slice D dn dc,.slice K kn kc] 1
 exact ret_cell 4 38 (by rfl) (w.heap.size+1) 0 (by rfl) [.int .i64 1,.slice none 0 0] _ hB.range Tryz.underlying38 rfl sz38 rfl ⟨_,rfl,ρ,.inl ⟨rfl,rfl⟩,h.below_ q,Ste.of_below q hf⟩
set_option maxHeartbeats 4000000 in
set_option maxRecDepth 100000 in
theorem bs_crash (HO:OpenOk) (HS:SumOk) (HT:ShutOk) (ρ:Rl) (bx:Nat) (a:Ads) (S:Bst) (E:Nat->By) (k t:Nat) (kd l N F:Int) (V D K:Option Addr) (vn dn:Nat) (vc dc kc:Nat) (ks:List Bool) (w:World) (hf:Fresh ρ w) (h:BstR ρ w bx a S) (hP:Per S.C E) (hC:Cok S.C k t) (hk:k<=200000) (hkv:HasK (fun b=>¬rtX (ρ b)) w (.slice K ks.length kc) ks) (hkl:ks.length<=1000):
 Calls Tryz.prog 9 #[.pointer (some ⟨bx,0,none⟩),.agg #[.int .i64 3,.int .i64 kd,.int .i64 l,.slice V vn vc,.int .i64 N,.int .i64 F,.slice D dn dc,.slice K ks.length kc]] w (ToS ρ bx a (bcrash S ks).1 [] (bcrash S ks).2 w):=by
 obtain⟨q1,b1,b2⟩:=boxesA w #[.int .i64 3,.int .i64 kd,.int .i64 l,.slice V vn vc,.int .i64 N,.int .i64 F,.slice D dn dc,.slice K ks.length kc]
 obtain⟨W1,hW1⟩:∃W1,W1=(w.alloc (.cells #[.int .i64 3,.int .i64 kd,.int .i64 l,.slice V vn vc,.int .i64 N,.int .i64 F,.slice D dn dc,.slice K ks.length kc] 36)).alloc (.cells #[.int .i64 0,.slice none 0 0] 38):=⟨_,rfl⟩
 rw[<-hW1]at q1 b1 b2
 have b2l:=b2.lt
 obtain⟨ρ1,hρ1⟩:∃ρ1,ρ1=ρ.set (w.heap.size+1) rTmp:=⟨_,rfl⟩
 have st1:Ste rtX ρ w ρ1 W1:=by rw[hρ1];exact(Ste.of_below q1 hf).label (by omega) b2l
 have hz:ρ1 (w.heap.size+1)=rTmp:=by rw[hρ1];exact Rl.set_same _ _ _
 have h1:BstR ρ1 W1 bx a S:=h.keep q1.size (fun b hb e=>⟨q1.block b hb,by rw[hρ1];exact Rl.set_other _ (by omega)⟩)
 have hkv1:HasK (fun b=>¬rtX (ρ1 b)) W1 (.slice K ks.length kc) ks:=(hkv.below_ q1).weakB (fun b hb e=>by
  rw[hρ1]
  by_cases hb2:b=w.heap.size+1
  ·rw[hb2,Rl.set_same];unfold rtX rtC;decide
  ·rw[Rl.set_other _ hb2];exact e)
 have hcd:=crash_ok HO HS HT ρ1 bx a S E k t (.slice K ks.length kc) ks W1 st1.fresh h1 hP hC hk hkv1 hkl
 obtain⟨R,hR⟩:∃R,R=bcrash S ks:=⟨_,rfl⟩
 rw[<-hR]at hcd ⊢
 obtain⟨er,S'⟩:=R
 simp only at hcd ⊢
 obtain⟨nk,hnk⟩:∃nk,nk=ks.length:=⟨_,rfl⟩
 rw[<-hnk]at hcd hW1 b1 ⊢
 have d0:=b1.cell_ 0 rfl
 have d5:=b1.cell_ 7 rfl
 have ld:=b1.lt
 have HW:=Lib.hid hW1
 have H:=Lib.hid (And.intro hz (And.intro b2 st1))
 clear h h1 hW1 hρ1 st1 hz q1 b2 b1 hkv hkv1 hP hC hk hkl hR hnk
 go_enter Tryz.func9,Tryz.ntmps9
 go_wp2_with fail
 rw[<-HW.out]
 refine hcd.mono ?_
 rintro e w2 ⟨rfl,ρ2,h2,s2⟩
 clear hcd
 obtain⟨hz,b2,st1⟩:=H.out
 have b3:=Blk.ste b2 s2 (rtXz hz)
 have HE:=Lib.hid (And.intro ((s2.old _ b2l).trans hz) (And.intro b3 (And.intro h2 (st1.trans s2))))
 have e0:=b3.cell_ 0 rfl
 have e1:=b3.cell_ 1 rfl
 have f0:=b3.frozen 0
 have f1:=b3.frozen 1
 have le:=b3.lt
 clear h2 s2 b3 hz b2 st1
 go_wp2_with fail
 obtain⟨hz,b3,h3,st3⟩:=HE.out
 obtain⟨hB,hT⟩:=send (b:=[]) b3 hz (by omega) h3 st3 (.inl ⟨rfl,rfl⟩) er
 exact ret_cell 4 38 (by rfl) (w.heap.size+1) 0 (by rfl) [.int .i64 er,.slice none 0 0] _ hT.range Tryz.underlying38 rfl sz38 rfl hB
end Go.Proofs.YtggmdjdflaglpaaGreat
namespace Go.Proofs.YtggmdjdflaglpaaGreat
open Go.RowKit Go.Proofs.YtggmdjdflaglpaaGreat.geo
set_option linter.unusedVariables false
theorem boxesC (w:World) (cs:Array Value) (er:Int):Below w.heap.size w ((w.alloc (.cells cs 34)).alloc (.cells #[.int .i64 er,.slice none 0 0] 38))/\Blk ((w.alloc (.cells cs 34)).alloc (.cells #[.int .i64 er,.slice none 0 0] 38)) (w.heap.size+1) 38 [.int .i64 er,.slice none 0 0].toArray:=by
 refine⟨((Below.refl _ _).alloc (Nat.le_refl _) _).alloc (by simp) _,?_⟩
 have:=Blk.new (w.alloc (.cells cs 34)) 38 #[.int .i64 er,.slice none 0 0]
 rw[World.size_alloc]at this
 exact this
set_option maxHeartbeats 4000000 in
set_option maxRecDepth 100000 in
theorem call_none (bx:Nat) (x0 x2:Value) (kd l:Int) (A:Option Addr) (n c:Nat) (w:World) (hb:Blk w bx 59 #[x0,.pointer none,x2]):
 Calls Tryz.prog 17 #[.pointer (some ⟨bx,0,none⟩),.agg #[.int .i64 kd,.int .i64 l,.slice A n c]] w fun e w'=>e=.returned (.agg #[.int .i64 8,.slice none 0 0])/\Below w.heap.size w w':=by
 have c1:=hb.cell_ 1 rfl
 have lb:=hb.lt
 clear hb
 go_enter Tryz.func17,Tryz.ntmps17
 go_wp2_with fail
 obtain⟨q,hB⟩:=boxesC w #[.int .i64 kd,.int .i64 l,.slice A n c] 8
 exact ret_cell 4 38 (by rfl) (w.heap.size+1) 0 (by rfl) [.int .i64 8,.slice none 0 0] _ hB.range Tryz.underlying38 rfl sz38 rfl ⟨rfl,q⟩
set_option maxHeartbeats 4000000 in
set_option maxRecDepth 100000 in
theorem bs_dead (ρ:Rl) (bx:Nat) (a:Ads) (S:Bst) (kd l N F:Int) (V D K:Option Addr) (vn dn kn:Nat) (vc dc kc:Nat) (w:World) (hf:Fresh ρ w) (h:BstR ρ w bx a S) (hd:S.dead=true):
 Calls Tryz.prog 9 #[.pointer (some ⟨bx,0,none⟩),.agg #[.int .i64 1,.int .i64 kd,.int .i64 l,.slice V vn vc,.int .i64 N,.int .i64 F,.slice D dn dc,.slice K kn kc]] w (ToS ρ bx a 8 [] S w):=by
 obtain⟨q1,b1,b2⟩:=boxesA w #[.int .i64 1,.int .i64 kd,.int .i64 l,.slice V vn vc,.int .i64 N,.int .i64 F,.slice D dn dc,.slice K kn kc]
 obtain⟨W1,hW1⟩:∃W1,W1=(w.alloc (.cells #[.int .i64 1,.int .i64 kd,.int .i64 l,.slice V vn vc,.int .i64 N,.int .i64 F,.slice D dn dc,.slice K kn kc] 36)).alloc (.cells #[.int .i64 0,.slice none 0 0] 38):=⟨_,rfl⟩
 rw[<-hW1]at q1 b1 b2
 have b2l:=b2.lt
 have h1:=h.below_ q1
 have hcl:Calls Tryz.prog 17 #[.pointer (some ⟨bx,0,none⟩),.agg #[.int .i64 kd,.int .i64 l,.slice V vn vc]] W1 fun e w'=>e=.returned (.agg #[.int .i64 8,.slice none 0 0])/\Below W1.heap.size W1 w':=by
  obtain⟨A,sv,b0,_,_,_,hA⟩:=h1
  rcases hA with⟨_,rfl⟩|⟨c,_⟩
  ·exact call_none bx _ _ kd l V vn vc W1 b0
  ·rw[hd]at c;cases c
 have d0:=b1.cell_ 0 rfl
 have d1:=b1.cell_ 1 rfl
 have d2:=b1.cell_ 2 rfl
 have d3:=b1.cell_ 3 rfl
 have ld:=b1.lt
 have HW:=Lib.hid hW1
 have H:=Lib.hid (And.intro b2 (And.intro q1 h))
 clear h h1 hW1 q1 b2 b1
 go_enter Tryz.func9,Tryz.ntmps9
 go_wp2_with fail
 rw[<-HW.out]
 refine hcl.mono ?_
 rintro e w2 ⟨rfl,q2⟩
 clear hcl
 obtain⟨b2,q1,h⟩:=H.out
 have b3:=b2.below_ q2
 have HE:=Lib.hid (And.intro b3 (And.intro (q1.trans (q2.mono q1.size)) h))
 have e0:=b3.cell_ 0 rfl
 have e1:=b3.cell_ 1 rfl
 have f0:=b3.frozen 0
 have f1:=b3.frozen 1
 have le:=b3.lt
 clear b3 q2 b2 q1 h
 go_wp2_with fail
 obtain⟨b3,q,h⟩:=HE.out
 have h2:=only_set2 w2 (w.heap.size+1) 0 1 (.int .i64 8) (.slice none 0 0)
 have hB:Blk ((w2.setCell ⟨w.heap.size+1,0,none⟩ (.int .i64 8)).setCell ⟨w.heap.size+1,1,none⟩ (.slice none 0 0)) (w.heap.size+1) 38 [.int .i64 8,.slice none 0 0].toArray:=(b3.set_to 0 (.int .i64 8) (cs':=#[.int .i64 8,.slice none 0 0]) rfl).set_to 1 (.slice none 0 0) rfl
 have q3:Below w.heap.size w ((w2.setCell ⟨w.heap.size+1,0,none⟩ (.int .i64 8)).setCell ⟨w.heap.size+1,1,none⟩ (.slice none 0 0)):=below_only q h2 q.size (by omega)
 exact ret_cell 4 38 (by rfl) (w.heap.size+1) 0 (by rfl) [.int .i64 8,.slice none 0 0] _ hB.range Tryz.underlying38 rfl sz38 rfl ⟨_,rfl,ρ,.inl ⟨rfl,rfl⟩,h.below_ q3,Ste.of_below q3 hf⟩
theorem bs_call (HO:OpenOk) (HS:SumOk) (HT:ShutOk) (ρ:Rl) (bx:Nat) (a:Ads) (S:Bst) (k t:Nat) (kd l N F:Int) (data:By) (vd:Value) (D K:Option Addr) (dn kn:Nat) (dc kc:Nat) (w:World) (hf:Fresh ρ w) (h:BstR ρ w bx a S) (hd:S.dead=false) (hC:Cin S.C k t) (hk6:k<=300000) (ht:t<=900) (hv:HasD (fun b=>¬rtX (ρ b)) w vd data):
 Calls Tryz.prog 9 #[.pointer (some ⟨bx,0,none⟩),.agg #[.int .i64 1,.int .i64 kd,.int .i64 l,vd,.int .i64 N,.int .i64 F,.slice D dn dc,.slice K kn kc]] w (ToS ρ bx a (cdo S.C kd l data).1 (cdo S.C kd l data).2.1 ⟨(cdo S.C kd l data).2.2,false,S.n⟩ w):=by
 obtain⟨A,sv,h1,h2,h3,h4,h5⟩:=h
 rcases h5 with⟨c,_⟩|⟨_,cc,m,ag,rfl,h7⟩
 ·rw[hd]at c;cases c
 ·refine(bdo_call HO HS HT ρ bx a cc m ag sv S.C k t kd l N F data vd D K dn kn dc kc w hf ⟨h1,h2,h7⟩ hC hk6 ht (hv.weakB (fun b hb e c=>e (.inl c)))).mono ?_
  rintro e w' ⟨v,rfl,ρ',ag',hv',hb,hs⟩
  exact⟨v,rfl,ρ',hv',⟨_,sv,hb.1,hb.2.1,hb.2.2.wld,h4.keep (fun b hb e=>⟨hs.ch.keep b hb (by rw[e];unfold rtC;decide),hs.old b hb⟩),.inr ⟨rfl,cc,m,ag',rfl,hb.2.2⟩⟩,hs.mono (fun r e=>.inl e)⟩
end Go.Proofs.YtggmdjdflaglpaaGreat
namespace Go.Proofs.YtggmdjdflaglpaaGreat
open Go.RowKit Go.Proofs.YtggmdjdflaglpaaGreat.geo
set_option linter.unusedVariables false
theorem snap_end {ρ1:Rl}{W1 w3 w2:World}{bx g:Nat}{a:Ads}{A As:Option Addr}{n cs cap2:Nat}{A2:Option Addr}{S:Bst}{x y u:Value}{xs:List Value}(hf:Fresh ρ1 W1) (rb:ρ1 bx=rBox) (lb:bx<W1.heap.size) (hwl:WldR ρ1 W1 a S.C.W)
 (hA:(S.dead=true/\A=none)\/(S.dead=false/\∃cc m ag,A=some ⟨cc,0,none⟩/\CchR ρ1 W1 a cc m ag S.C)) (b2:Blk W1 g 38 #[x,y]) (hz:ρ1 g=rTmp) (r2:∀b,(Value.slice As n cs).ownBlock=some b->ρ1 b=rSnp) (hB:Below W1.heap.size W1 w3)
 (hgrow2:(w3.alloc (.cells #[u] 32)).grownBy w2 (Value.slice As n cs).ownBlock) (hown2:w2.ownsRow 0 32 1 (.slice A2 (n+1) cap2) (n+1) (xs++[u])) (hor2:(Value.slice A2 (n+1) cap2).ownBlock=(Value.slice As n cs).ownBlock\/(Value.slice A2 (n+1) cap2).ownBlock=some (w3.alloc (.cells #[u] 32)).heap.size)
 (hS2:Blk w2 bx 59 #[.pointer (some ⟨a.wl,0,none⟩),.pointer A,.slice As n cs]) (hn:n=S.n):
 ∃ρ',BstR ρ' (w2.setCell ⟨bx,2,none⟩ (.slice A2 (n+1) cap2)) bx a ⟨S.C,S.dead,S.n+1⟩/\Ste rtX ρ1 W1 ρ' (w2.setCell ⟨bx,2,none⟩ (.slice A2 (n+1) cap2))/\Blk (w2.setCell ⟨bx,2,none⟩ (.slice A2 (n+1) cap2)) g 38 #[x,y]/\ρ' g=rTmp:=by
 have hBa:Below W1.heap.size W1 (w3.alloc (.cells #[u] 32)):=hB.alloc hB.size _
 have hfa:Fresh ρ1 (w3.alloc (.cells #[u] 32)):=fun i hi=>hf i (Nat.le_trans hBa.size hi)
 obtain⟨ρ4,q1,q2,q3,q4⟩:=role_push (r:=rSnp) (by decide) r2 hown2 hgrow2 hor2 hfa
 have hold:∀i,i<W1.heap.size->ρ4 i=ρ1 i:=fun i hi=>by
  by_cases e:ρ4 i=ρ1 i
  ·exact e
  ·have:=q2 i e
   have:=hBa.size
   omega
 have hch:Ch (fun i=>rtX (ρ1 i)) W1 (w2.setCell ⟨bx,2,none⟩ (.slice A2 (n+1) cap2)):=by
  refine((Ch.of_below hBa).trans ⟨hgrow2.os,hgrow2.tape,hgrow2.output,hgrow2.size,fun i hi hn=>hgrow2.block i hi (fun e=>hn ?_)⟩).trans (Ch.set_ (S:=fun i=>rtX (ρ1 i)) (p:=⟨bx,2,none⟩) ?_ _ _)
  ·rw[r2 i e.symm];exact .inr (.inr rfl)
  ·simp only;rw[rb];exact .inr (.inl rfl)
 have hst:Ste rtX ρ1 W1 ρ4 (w2.setCell ⟨bx,2,none⟩ (.slice A2 (n+1) cap2)):=⟨hch,hold,fun i hi=>q3 i (by simpa[World.setCell]using hi)⟩
 have hk:∀b,b<W1.heap.size->ρ1 b≠rSnp->ρ1 b≠rBox->(w2.setCell ⟨bx,2,none⟩ (.slice A2 (n+1) cap2)).heap[b]? =W1.heap[b]? /\ρ4 b=ρ1 b:=fun b hb e1 e2=>by
  refine⟨?_,hold b hb⟩
  rw[Below.heap_setCell _ _ _ _ (by simp only;intro c;rw[c,rb]at e2;exact e2 rfl),hgrow2.block b (Nat.lt_of_lt_of_le hb hBa.size) (fun c=>e1 (r2 b c.symm▸rfl))]
  exact hBa.block b hb
 have r4:ρ4 bx=rBox:=(hold bx lb).trans rb
 have hrow:(w2.setCell ⟨bx,2,none⟩ (.slice A2 (n+1) cap2)).ownsRow 0 32 1 (.slice A2 (n+1) cap2) (n+1) (xs++[u]):=row_keep hown2 (fun b hb e=>Below.heap_setCell _ _ _ _ (by
  simp only
  intro c
  have:=q4 b e
  rw[c,r4]at this
  exact absurd this (by decide)))
 refine⟨ρ4,⟨A,_,hS2.set_to 2 _ rfl,r4,hwl.keep hch.size (fun b hb e=>hk b hb (by intro c;rw[c]at e;exact absurd e.2 (by decide)) (by intro c;rw[c]at e;exact absurd e.2 (by decide))),⟨_,by rw[<-hn];exact hrow,q4⟩,?_⟩,hst,(hk g b2.lt (by rw[hz];decide) (by rw[hz];decide)).1.trans b2,(hold g b2.lt).trans hz⟩
 rcases hA with hA|⟨h7,cc,m,ag,h8,h9⟩
 ·exact .inl hA
 ·exact .inr ⟨h7,cc,m,ag,h8,h9.keep hch.size (fun b hb e=>hk b hb (by intro c;rw[c]at e;exact absurd e.2 (by decide)) (by intro c;rw[c]at e;exact absurd e.2 (by decide)))⟩
set_option maxHeartbeats 4000000 in
set_option maxRecDepth 100000 in
theorem bs_snap (ρ:Rl) (bx:Nat) (a:Ads) (S:Bst) (kd l N F:Int) (V D K:Option Addr) (vn dn kn:Nat) (vc dc kc:Nat) (w:World) (hf:Fresh ρ w) (h:BstR ρ w bx a S) (hfit:S.C.W.fit 900000) (hn:S.n<=1000):
 Calls Tryz.prog 9 #[.pointer (some ⟨bx,0,none⟩),.agg #[.int .i64 5,.int .i64 kd,.int .i64 l,.slice V vn vc,.int .i64 N,.int .i64 F,.slice D dn dc,.slice K kn kc]] w (ToS ρ bx a 0 [] ⟨S.C,S.dead,S.n+1⟩ w):=by
 obtain⟨q1,b1,b2⟩:=boxesA w #[.int .i64 5,.int .i64 kd,.int .i64 l,.slice V vn vc,.int .i64 N,.int .i64 F,.slice D dn dc,.slice K kn kc]
 obtain⟨W1,hW1⟩:∃W1,W1=(w.alloc (.cells #[.int .i64 5,.int .i64 kd,.int .i64 l,.slice V vn vc,.int .i64 N,.int .i64 F,.slice D dn dc,.slice K kn kc] 36)).alloc (.cells #[.int .i64 0,.slice none 0 0] 38):=⟨_,rfl⟩
 rw[<-hW1]at q1 b1 b2
 have b2l:=b2.lt
 obtain⟨ρ1,hρ1⟩:∃ρ1,ρ1=ρ.set (w.heap.size+1) rTmp:=⟨_,rfl⟩
 have st1:Ste rtX ρ w ρ1 W1:=by rw[hρ1];exact(Ste.of_below q1 hf).label (by omega) b2l
 have hz:ρ1 (w.heap.size+1)=rTmp:=by rw[hρ1];exact Rl.set_same _ _ _
 have h1:BstR ρ1 W1 bx a S:=h.keep q1.size (fun b hb e=>⟨q1.block b hb,by rw[hρ1];exact Rl.set_other _ (by omega)⟩)
 obtain⟨A,sv,b0,rb,hwl,⟨xs,r1,r2⟩,hA⟩:=id h1
 obtain⟨As,cs,rfl⟩:=row_form r1
 have hne:S.C.W.ssd.lasts≠[]:=fun e=>by have:=hfit.size;rw[e]at this;simp at this
 have hcn:S.C.W.ssd.cnt<=1000000:=Nat.le_trans hfit.ssd (by omega)
 have hcl:=fun W (hq:Below W1.heap.size W1 W)=>snap_ok ρ1 a.p a.s S.C.W.ssd W (hwl.below_ hq).2.2.2.2.1 hne hcn
 have bw:=hwl.1
 have lb:=b0.lt
 have lw:=bw.lt
 have d0:=b1.cell_ 0 rfl
 have ld:=b1.lt
 have HW:=Lib.hid hW1
 have H:=Lib.hid (And.intro hz (And.intro b2 (And.intro st1 (And.intro hwl (And.intro hA rb)))))
 obtain⟨i0,hi,hz0,hz1,hz2⟩:=info_parts info32
 obtain⟨n,hnn⟩:∃n,n=S.n:=⟨_,rfl⟩
 rw[<-hnn]at r1 r2 hn b0
 have HN:=Lib.hid hnn
 have HCL:=Lib.hid hcl
 have bwl:bx≠w.heap.size+1:=fun e=>by rw[e,hz]at rb;exact absurd rb (by decide)
 have b2g:=b2
 clear h h1 hW1 hρ1 st1 hz q1 b2 hcl hwl hA rb hnn hne hcn hfit
 go_enter Tryz.func9,Tryz.ntmps9
 go_wp2_with fail
 rw[<-HW.out]
 have hB:Below W1.heap.size W1 W1.drew:=(Below.refl _ _).drew
 replace b0:=b0.drew
 replace bw:=bw.drew
 have c0:=b0.cell_ 0 rfl
 have c2:=b0.cell_ 2 rfl
 have cw:=bw.cell_ 2 rfl
 replace r1:W1.drew.ownsRow 0 32 1 (.slice As n cs) n xs:=r1
 go_region_law
  (first
    |(refine step_append_own (by rfl) _ _ _ (by rfl) 0 32 i0 _ 1 24 Tryz.underlying57 hi hz0 hz1 hz2 rfl (by omega) _ n xs (by rfl) (World.ownsRow.alloc r1 _) ⟨w3.heap.size,0,none⟩ 1 1 [.slice A1 nb c1] (by rfl) (by simp) (cell_one_new _ _ _) (fun v hv=>by simp at hv;rcases hv with rfl;rfl) (by unfold maxLen;omega) (by omega) (by omega) ?_;intro v2 w2 hown2 hgrow2 hor2;obtain⟨A2,cap2,rfl⟩:=row_form hown2;have hS2':=(b0.alloc (.cells #[.slice A1 nb c1] 32)).grown hgrow2 (fun e=>by have:=r2 bx e.symm;rw[H.out.2.2.2.2.2]at this;exact absurd this (by decide));have g2:=hS2'.cell_ 2 rfl;have f2:=hS2'.frozen 2;have k2:=hS2'.lt)
    |(go_simp;go_at_call 21;refine(HCL.out _ hB).mono ?_;rintro e w3 ⟨v1,rfl,o1,l1⟩;replace hB0:=hB;obtain⟨A1,c1,rfl⟩:=o1.has.slice;obtain⟨nb,hnb⟩:∃nb,nb=(snap S.C.W.ssd).length:=⟨_,rfl⟩;rw[<-hnb];replace b0:=b0.below_ l1;replace bw:=bw.below_ l1;replace r1:=row_keep r1 (fun b hb _=>l1.block b hb);replace hB:=hB.trans (l1.mono hB.size);replace c0:=b0.cell_ 0 rfl;replace c2:=b0.cell_ 2 rfl;replace cw:=bw.cell_ 2 rfl;replace lb:=b0.lt;replace lw:=bw.lt;clear o1 hnb))
 all_goals
  obtain⟨hz,b2,st1,hwl,hA,rb⟩:=H.out
  obtain⟨ρ4,h4,s4,b4,z4⟩:=snap_end st1.fresh rb (by obtain h:=b0.lt;exact Nat.lt_of_lt_of_le (Nat.lt_of_not_le (fun c=>by have:=st1.fresh bx c;rw[rb]at this;exact absurd this (by decide))) (Nat.le_refl _)) hwl hA b2 hz r2 hB hgrow2 hown2 hor2 hS2' HN.out
  have e0:=b4.cell_ 0 rfl
  have e1:=b4.cell_ 1 rfl
  have f0:=b4.frozen 0
  have f1:=b4.frozen 1
  have le:=b4.lt
  have HE:=Lib.hid (And.intro z4 (And.intro b4 (And.intro h4 (st1.trans s4))))
  clear h4 s4 b4 z4 hz b2 st1 hwl hA rb hgrow2 hown2 hor2 hS2' g2 f2 k2 b2g
  obtain⟨w5,hw5⟩:∃w5,w5=w2.setCell ⟨bx,2,none⟩ (.slice A2 (n+1) cap2):=⟨_,rfl⟩
  rw[<-hw5]at HE e0 e1 f0 f1 le ⊢
  clear hw5
  go_wp2_with fail
  obtain⟨hz,b3,h3,st3⟩:=HE.out
  obtain⟨hT,hB⟩:=send (b:=[]) b3 hz (by omega) h3 st3 (.inl ⟨rfl,rfl⟩) 0
  exact ret_cell 4 38 (by rfl) (w.heap.size+1) 0 (by rfl) [.int .i64 0,.slice none 0 0] _ hB.range Tryz.underlying38 rfl sz38 rfl hT
end Go.Proofs.YtggmdjdflaglpaaGreat
namespace Go.Proofs.YtggmdjdflaglpaaGreat
open Go.RowKit Go.Proofs.YtggmdjdflaglpaaGreat.geo
set_option linter.unusedVariables false
theorem sz36:(Tryz.prog.info? 36).map (·.size)=some 8:=by kernel_rfl
set_option maxHeartbeats 2000000 in
set_option maxRecDepth 100000 in
theorem tcall_ok (kd l:Int) (V:Option Addr) (vn vc:Nat) (w:World):
 Calls Tryz.prog 10 #[.int .i64 kd,.int .i64 l,.slice V vn vc] w fun e w'=>e=.returned (.agg #[.int .i64 1,.int .i64 kd,.int .i64 l,.slice V vn vc,.int .i64 0,.int .i64 0,.slice none 0 0,.slice none 0 0])/\Below w.heap.size w w':=by
 go_enter Tryz.func10,Tryz.ntmps10
 go_wp2_with fail
 have hB:=Blk.new w 36 #[.int .i64 1,.int .i64 kd,.int .i64 l,.slice V vn vc,.int .i64 0,.int .i64 0,.slice none 0 0,.slice none 0 0]
 exact ret_cell 6 36 (by rfl) w.heap.size 0 (by rfl) [.int .i64 1,.int .i64 kd,.int .i64 l,.slice V vn vc,.int .i64 0,.int .i64 0,.slice none 0 0,.slice none 0 0] _ hB.range Tryz.underlying36 rfl sz36 rfl ⟨rfl,(Below.refl _ _).alloc (Nat.le_refl _) _⟩
def fillB (u:UInt8) (i:Nat):By:=List.replicate i u++List.replicate (32-i) 0
theorem fillB_len (u:UInt8) (i:Nat) (h:i<=32):(fillB u i).length=32:=by simp[fillB];omega
theorem fillB_set (u:UInt8) (i:Nat) (h:i<32):(fillB u i).set i u=fillB u (i+1):=by
 unfold fillB
 have e:32-i=(32-(i+1))+1:=by omega
 rw[List.set_append_right _ _ (by simp),List.length_replicate,Nat.sub_self,e,List.replicate_succ,List.set_cons_zero,List.replicate_succ',List.append_assoc]
 rfl
theorem fillB_set' (u:UInt8) (i:Nat) (h:i<32):(bvals (fillB u i)).toArray.setIfInBounds i (.int .u8 (u.toNat:Int))=(bvals (fillB u (i+1))).toArray:=by
 rw[<-fillB_set u i h]
 unfold bvals
 rw[List.map_set]
 simp
set_option maxHeartbeats 2000000 in
set_option maxRecDepth 100000 in
theorem tblock_ok (u:UInt8) (w:World):
 Calls Tryz.prog 24 #[.int .u8 (u.toNat:Int)] w fun e w'=>e=.returned (.slice (some ⟨w.heap.size,0,none⟩) 32 32)/\Blk w' w.heap.size 5 (bvals (fillB u 32)).toArray/\Below w.heap.size w w':=by
 have hm:∀W:World,(Instr.makeSlice 32 (.int .i64 32) (.int .i64 32)).run Tryz.prog W=.ok (.slice (some ⟨W.heap.size,0,none⟩) 32 32) (W.alloc (.cells (bvals (fillB u 0)).toArray 5)):=fun W=>make_bytes 32 (by omega) W
 have hB:=Blk.new w 5 (bvals (fillB u 0)).toArray
 have q:Below w.heap.size w (w.alloc (.cells (bvals (fillB u 0)).toArray 5)):=(Below.refl _ _).alloc (Nat.le_refl _) _
 obtain⟨W1,hW1⟩:∃W1,W1=w.alloc (.cells (bvals (fillB u 0)).toArray 5):=⟨_,rfl⟩
 rw[<-hW1]at hB q
 have HW:=Lib.hid hW1
 obtain⟨n,hn⟩:∃n:Nat,n=32:=⟨_,rfl⟩
 have HN:=Lib.hid hn
 clear hW1 hn
 have hb:=u.toNat_lt
 obtain⟨b,hbb⟩:∃b:Int,b=(u.toNat:Int):=⟨_,rfl⟩
 have HB:=Lib.hid hbb
 rw[<-hbb]
 clear hbb
 go_enter Tryz.func24,Tryz.ntmps24
 go_wp2_with fail
 rw[<-HW.out]
 go_loopw [4] (fun t wr=>∃i:Nat,t=.int .i64 i/\i<=32/\Blk wr w.heap.size 5 (bvals (fillB u i)).toArray/\Below w.heap.size w wr) (fun t _=>32-(intOf t).toNat)
 case atStart=>exact⟨0,rfl,by omega,hB,q⟩
 case round=>
  obtain⟨i,rfl,hi,hBr,hqr⟩:=hrel
  clear hB q
  by_cases hlt:i<32
  ·have m0:(0:Int)<=(i:Int):=by omega
   have m1:(i:Int)<32:=by omega
   have hli:i<(bvals (fillB u i)).toArray.size:=by rw[List.size_toArray,bvals_len,fillB_len u i hi];exact hlt
   obtain⟨x0,hx0⟩:∃x:UInt8,(fillB u i)[i]? =some x:=⟨_,List.getElem?_eq_getElem (by rw[fillB_len u i hi];exact hlt)⟩
   have c0:wr.cell? ⟨w.heap.size,i,none⟩=some (.int .u8 (x0.toNat:Int)):=hBr.cell_ i (by rw[List.getElem?_toArray,bvals_at,hx0];rfl)
   have HX:=Lib.hid hx0
   clear hx0 hli
   have f0:=hBr.frozen i
   have lb:=hBr.lt
   have HR:=Lib.hid (And.intro hBr hqr)
   clear hBr hqr
   go_wp2_with fail
   obtain⟨hBr,hqr⟩:=HR.out
   go_roundw
   case rel=>exact⟨i+1,by go_num,by omega,hBr.set_to i _ (by rw[HB.out];exact fillB_set' u i hlt),hqr.setCell (Nat.le_refl _) _⟩
   case measure=>simp[intOf];omega
  ·have hin:i=32:=by omega
   subst hin
   have HR:=Lib.hid (And.intro hBr hqr)
   clear hBr hqr
   go_wp2_with fail
   go_ret
   exact⟨rfl,HR.out.1,HR.out.2⟩
end Go.Proofs.YtggmdjdflaglpaaGreat
