/- commit.Do: the walk. Reads of the two devices, and of the power, said of the world; the lock's Open. Either lock: what is sealed is opened, and stays so; what was summed stays so (no walk). commit.Do: what its plain function does to sizes, the lock, the power (no walk). wire: Get, Pair. -/
import Derived.Test.YtggmdjdflaglpaaGreatR22
import Derived.Test.YtggmdjdflaglpaaGreatR09
import Derived.Test.YtggmdjdflaglpaaGreatR16
namespace Go.Proofs.YtggmdjdflaglpaaGreat
open Go.RowKit Go.Proofs.YtggmdjdflaglpaaGreat.geo
set_option linter.unusedVariables false
theorem Blk.far5 {w:World}{g t:Nat}{cs:Array Value}(h:Blk w g t cs) {x:Nat}(hx:g≠x) (u v y z s:Value):Blk (((((w.setCell ⟨x,0,none⟩ u).setCell ⟨x,1,none⟩ v).setCell ⟨x,2,none⟩ y).setCell ⟨x,3,none⟩ z).setCell ⟨x,4,none⟩ s) g t cs:=
 ((h.far3 hx u v y).far (p:=⟨x,3,none⟩) hx z).far (p:=⟨x,4,none⟩) hx s
theorem awr_u {W:Wld}{k j:Nat}{ls:List Lf}(h:W.fit j) (hj:j<=800000) (hn:ls.length<=16):U2 (awr W k ls).1:=by
 have hz:U2 ((0,0):Two):=by unfold U2 U64;decide
 unfold awr
 split
 ·split
  ·unfold bldN
   exact nd2_u h.lk (by rw[List.length_map];exact hn) (by omega) _ _ (by rw[List.length_map];omega)
  ·exact hz
 ·exact hz
theorem only_set5 (w:World) (g:Nat) (u v y z s:Value):w.grownBy (((((w.setCell ⟨g,0,none⟩ u).setCell ⟨g,1,none⟩ v).setCell ⟨g,2,none⟩ y).setCell ⟨g,3,none⟩ z).setCell ⟨g,4,none⟩ s) (some g):=by
 have g3:=only_set3 w g u v y
 have g4:=only_setCell g3 (p:=⟨g,3,none⟩) (.inl rfl) z
 exact only_setCell g4 (p:=⟨g,4,none⟩) (.inl rfl) s
theorem Blk.set5 {w:World}{g t:Nat}{a b c d e:Value}(h:Blk w g t #[a,b,c,d,e]) (u v y z s:Value):Blk (((((w.setCell ⟨g,0,none⟩ u).setCell ⟨g,1,none⟩ v).setCell ⟨g,2,none⟩ y).setCell ⟨g,3,none⟩ z).setCell ⟨g,4,none⟩ s) g t #[u,v,y,z,s]:=by
 have h1:=h.set_to 0 u (cs':=#[u,b,c,d,e]) rfl
 have h2:=h1.set_to 1 v (cs':=#[u,v,c,d,e]) rfl
 have h3:=h2.set_to 2 y (cs':=#[u,v,y,d,e]) rfl
 have h4:=h3.set_to 3 z (cs':=#[u,v,y,z,e]) rfl
 exact h4.set_to 4 s rfl
theorem s4of {w:World}{wl ka n m g:Nat}{x1 x2 x3 x4 x6:Value}{ta tb:Int}(hn:n=m) (b:Blk w wl 70 #[.int .i64 m,x1,x2,x3,x4,.pointer (some ⟨ka,0,none⟩),x6]) (b2:Blk w g 101 #[.int .u64 ta,.int .u64 tb]):
 w.cell? ⟨wl,0,none⟩=some (.int .i64 n)/\w.cell? ⟨wl,5,none⟩=some (.pointer (some ⟨ka,0,none⟩))/\w.cell? ⟨g,0,none⟩=some (.int .u64 ta)/\w.cell? ⟨g,1,none⟩=some (.int .u64 tb):=⟨by rw[hn];exact b.cell_ 0 rfl,b.cell_ 5 rfl,b2.cell_ 0 rfl,b2.cell_ 1 rfl⟩
set_option maxHeartbeats 8000000 in
set_option maxRecDepth 100000 in
theorem cmt_ok (HS:SumOk) (HT:ShutOk) (ρ:Rl) (a:Ads) (W:Wld) (m:Nat) (M:Mk) (v:Value) (ls:List Lf) (w:World) (hf:Fresh ρ w) (h:WldR ρ w a W) (hm:MkR ρ w m M) (hfit:W.fit 600000)
 (hv:LvsP (fun b=>¬rtW (ρ b)) w v ls) (hn:ls.length=W.slots) (hok:∀(i:Nat) (l:Lf),ls[i]? =some l->l.ok i):
 Calls Tryz.prog 145 #[.pointer (some ⟨a.wl,0,none⟩),.pointer (some ⟨m,0,none⟩),v] w fun e w'=>
  e=.returned (.int .i64 (cmt W M ls).1)/\∃ρ',WldR ρ' w' a (cmt W M ls).2.1/\MkR ρ' w' m (cmt W M ls).2.2/\Ste rtLog ρ w ρ' w':=by
 obtain⟨c,hc⟩:∃c,c=W.cnt.value+1:=⟨_,rfl⟩
 have hcb:c<=600001:=by rw[hc];have:=hfit.cnt.1;omega
 have haw:=awr_ok HS ρ a W (c%2) v ls w hf h (hfit.mono (by omega)) (by omega) hv hn hok
 have hvl:=value_ok a.p a.c W.cnt w h.2.2.2.2.2.2.1
 have haf:=awr_fit hfit (k:=c%2) (by omega) hn
 have has:=awr_slots W (c%2) ls
 have hcm:cmt W M ls=if(awr W (c%2) ls).2.1≠0 then((awr W (c%2) ls).2.1,(awr W (c%2) ls).2.2,M)
  else if(spend (awr W (c%2) ls).2.2.pow).2=false then(7,(awr W (c%2) ls).2.2.sbar,M)
  else if(lgput (awr W (c%2) ls).2.2.sbar M c (awr W (c%2) ls).1).1≠0 then lgput (awr W (c%2) ls).2.2.sbar M c (awr W (c%2) ls).1
  else if(spend (lgput (awr W (c%2) ls).2.2.sbar M c (awr W (c%2) ls).1).2.1.pow).2=false then(7,(lgput (awr W (c%2) ls).2.2.sbar M c (awr W (c%2) ls).1).2.1.sbar,(lgput (awr W (c%2) ls).2.2.sbar M c (awr W (c%2) ls).1).2.2)
  else((if(spend (lgput (awr W (c%2) ls).2.2.sbar M c (awr W (c%2) ls).1).2.1.sbar.pow).2 then 0 else 7),(lgput (awr W (c%2) ls).2.2.sbar M c (awr W (c%2) ls).1).2.1.sbar.bmp,(lgput (awr W (c%2) ls).2.2.sbar M c (awr W (c%2) ls).1).2.2):=by rw[hc];rfl
 have hV:((W.cnt.value:Int)+1)=(c:Int):=by rw[hc];simp
 obtain⟨A,hA⟩:∃A,A=awr W (c%2) ls:=⟨_,rfl⟩
 rw[<-hA]at haw haf has hcm
 obtain⟨top,err,W1⟩:=A
 simp only at haw haf has hcm
 obtain⟨R,hR⟩:∃R,R=cmt W M ls:=⟨_,rfl⟩
 rw[<-hR]at hcm ⊢
 have c4:=h.1.cell_ 4 rfl
 have lw:=h.1.lt
 obtain⟨vc,hvc⟩:∃vc,vc=W.cnt.value:=⟨_,rfl⟩
 rw[<-hvc]at hvl hV
 have vb:(vc:Int)<=600000:=by rw[hvc];have:=hfit.cnt.1;omega
 have v0:(0:Int)<=(vc:Int):=by omega
 have hmod:(((c:Int)%2)=((c%2:Nat):Int)):=by omega
 rw[<-hmod]at haw
 have HH:=Lib.hid (And.intro h (And.intro hm (And.intro hfit (And.intro haf (And.intro has (And.intro hcm (And.intro hc (And.intro hvc (And.intro hn hA)))))))))
 have HV:=Lib.hid hV
 rw[<-hV]at haw
 clear h hm hfit haf has hcm hc hvc hn hA hR hV hv hok hmod
 go_enter Tryz.func145,Tryz.ntmps145
 go_wp2_with fail
 refine hvl.mono ?_
 rintro e w1 ⟨rfl,rfl⟩
 go_wp2_with fail
 refine haw.mono ?_
 rintro e w2 ⟨rfl,ρ2,h2,s2⟩
 clear haw hvl c4 lw
 have hmk2:=HH.out.2.1.ste s2 rtWm
 unfold pv
 obtain⟨ta,tb⟩:=top
 by_cases he:err=0
 ·subst he
  have hfit2:=HH.out.2.2.2.1
  have hz2:ρ2 w2.heap.size=0:=s2.fresh _ (Nat.le_refl _)
  have q2:Below w2.heap.size w2 (w2.alloc (.cells #[.int .u64 ta,.int .u64 tb] 101)):=(Below.refl _ _).alloc (Nat.le_refl _) _
  have hT:Blk (w2.alloc (.cells #[.int .u64 ta,.int .u64 tb] 101)) w2.heap.size 101 #[.int .u64 ta,.int .u64 tb]:=Blk.new w2 101 _
  have hf2:Fresh ρ2 (w2.alloc (.cells #[.int .u64 ta,.int .u64 tb] 101)):=fun i hi=>s2.fresh i (Nat.le_trans q2.size hi)
  have hne2:W1.ssd.lasts≠[]:=fun e=>by have hsz:=hfit2.size;rw[e]at hsz;simp at hsz
  have hsb:=wsbar_ok ρ2 a W1 _ hf2 (h2.below_ q2) (Nat.le_trans hfit2.ssd (by omega)) hne2
  have c2:=h2.1.cell_ 2 rfl
  have l2:=h2.1.lt
  obtain⟨g2,hg2⟩:∃g2,g2=w2.heap.size:=⟨_,rfl⟩
  have hst2:Ste rtLog ρ w ρ2 (w2.alloc (.cells #[.int .u64 ta,.int .u64 tb] 101)):=(s2.mono (fun r e=>.inl e)).trans (Ste.of_below q2 s2.fresh)
  have HS2:=Lib.hid (And.intro (hmk2.below_ q2) (And.intro hst2 (And.intro hT hz2)))
  obtain⟨b1,hb1⟩:∃b1,b1=(spend W1.pow).2:=⟨_,rfl⟩
  rw[<-hb1]at hsb
  have HB1:=Lib.hid hb1
  clear h2 s2 hmk2 hfit2 hz2 q2 hT hf2 hne2 hst2 hb1 hg2
  cases b1
  ·go_wp2_with fail
   refine hsb.mono ?_
   rintro e w3 ⟨rfl,ρ3,h3,s3⟩
   have HE:=Lib.hid (And.intro h3 s3)
   clear hsb h3 s3
   go_wp2_with fail
   go_ret
   obtain⟨h3,s3⟩:=HE.out
   obtain⟨_,_,_,_,_,hcm,_⟩:=HH.out
   rw[if_neg (by simp),if_pos HB1.out.symm]at hcm
   rw[hcm]
   exact⟨rfl,ρ3,h3,HS2.out.1.ste s3 rtWm,HS2.out.2.1.trans (s3.mono (fun r e=>.inl e))⟩
  ·go_wp2_with fail
   refine hsb.mono ?_
   rintro e w3 ⟨rfl,ρ3,h3,s3⟩
   clear hsb
   have hT3:=HS2.out.2.2.1.ste s3 (nrw0 HS2.out.2.2.2)
   have hsl:W.slots=W1.sbar.slots:=HH.out.2.2.2.2.1.1.symm
   obtain⟨n,hn⟩:∃n,n=W.slots:=⟨_,rfl⟩
   have HN:=Lib.hid (And.intro hn (hn.trans hsl))
   have hcu:=fun W' hh=>current_ok ρ3 a.p a.k W1.sbar.kys W' hh
   have hb0:=h3.1
   have hk3d:=h3.drew.2.2.2.2.2.2.2.2.1
   have hk3a:=(h3.alloc (.cells #[.int .u64 0,.int .u32 0,.int .i64 0,.int .u64 0,.int .u64 0] 139)).drew.2.2.2.2.2.2.2.2.1
   have hnn:n=W1.sbar.slots:=HN.out.2
   have HNN:=Lib.hid hnn
   have hf3:Fresh ρ3 w3:=s3.fresh
   have H3:=Lib.hid (And.intro h3 s3)
   have hwl:=h3.1.lt
   clear h3 s3 hsl hn hnn
   go_wp2_with fail
   go_region_held3 (fun w'=>w'.cell? ⟨a.wl,0,none⟩=some (.int .i64 n)/\w'.cell? ⟨a.wl,5,none⟩=some (.pointer (some ⟨a.k,0,none⟩))/\w'.cell? ⟨w2.heap.size,0,none⟩=some (.int .u64 ta)/\w'.cell? ⟨w2.heap.size,1,none⟩=some (.int .u64 tb))
    (first|(with_reducible exact s4of HNN.out hb0 hT3)|(with_reducible exact s4of HNN.out hb0.drew hT3.drew)|(with_reducible exact s4of HNN.out (hb0.alloc _) (hT3.alloc _))|(with_reducible exact s4of HNN.out (hb0.alloc _).drew (hT3.alloc _).drew)|(with_reducible exact s4of HNN.out (hb0.far5 hx0 _ _ _ _ _) (hT3.far5 hx1 _ _ _ _ _)))
    (first
     |(go_at_call 111;(with_reducible refine(hcu w3.drew hk3d).mono ?_);rintro e w4 ⟨rfl,q4⟩;replace hb0:=hb0.drew.below_ q4;replace hT3:=hT3.drew.below_ q4;have r4:Below w3.heap.size w3 w4:=(Below.refl _ _).drew.trans q4)
     |(go_at_call 111;(with_reducible refine(hcu (w3.alloc (.cells #[.int .u64 0,.int .u32 0,.int .i64 0,.int .u64 0,.int .u64 0] 139)).drew hk3a).mono ?_);rintro e w4 ⟨rfl,q4⟩;have hx0:a.wl≠w3.heap.size:=Nat.ne_of_lt hb0.lt;have hx1:w2.heap.size≠w3.heap.size:=Nat.ne_of_lt hT3.lt;replace hb0:=(hb0.alloc _).drew.below_ q4;replace hT3:=(hT3.alloc _).drew.below_ q4;have r4:Below w3.heap.size w3 w4:=((Below.refl _ _).alloc (Nat.le_refl _) (.cells #[.int .u64 0,.int .u32 0,.int .i64 0,.int .u64 0,.int .u64 0] 139)).drew.trans (q4.mono (by simp));have bX:=(Blk.new w3 139 #[.int .u64 0,.int .u32 0,.int .i64 0,.int .u64 0,.int .u64 0]).drew.below_ q4;have x0:=bX.cell_ 0 rfl;have x1:=bX.cell_ 1 rfl;have x2:=bX.cell_ 2 rfl;have x3:=bX.cell_ 3 rfl;have x4:=bX.cell_ 4 rfl;have y0:=bX.frozen 0;have y1:=bX.frozen 1;have y2:=bX.frozen 2;have y3:=bX.frozen 3;have y4:=bX.frozen 4;have yl:=bX.lt))
   refine gen_world (F:=fun W4=>Below w3.heap.size w3 W4/\Blk W4 w4.heap.size 139 #[.int .u64 ((vc:Int)+1),.int .u32 W1.sbar.kys.cur,.int .i64 n,.int .u64 ta,.int .u64 tb]) (by exact⟨r4.alloc r4.size _,Blk.new w4 139 _⟩) ?_
   rotate_left 1
   refine gen_world (F:=fun W4=>Below w3.heap.size w3 W4/\Blk W4 w3.heap.size 139 #[.int .u64 ((vc:Int)+1),.int .u32 W1.sbar.kys.cur,.int .i64 n,.int .u64 ta,.int .u64 tb]) (by exact⟨below_only r4 (only_set5 w4 w3.heap.size _ _ _ _ _) r4.size (Nat.le_refl _),bX.set5 _ _ _ _ _⟩) ?_
   rotate_left 1
   all_goals
    clear hb0 hT3 hcu r4
    intro W4 hP
    have HP:=Lib.hid hP
    obtain⟨q5,bX5⟩:=hP
    obtain⟨h3,s3⟩:=H3.out
    have hfit3:=HH.out.2.2.2.1.sbar
    have htu:U2 (ta,tb):=by
     obtain⟨_,_,hfit,_,_,_,_,_,hn,hA⟩:=HH.out
     have:=awr_u (k:=c%2) (ls:=ls) hfit (by omega) (by have hV:=hfit.geo;rw[hn];unfold V at hV;omega)
     rw[<-hA]at this
     exact this
    have hlg:=lg_ok HT ρ3 a W1.sbar m M c (ta,tb) W4 (fun i hi=>hf3 i (Nat.le_trans q5.size hi)) (h3.below_ q5) ((HS2.out.1.ste s3 rtWm).below_ q5) (hfit3.mono (by omega)) (by omega) htu
    rw[<-HV.out,<-HNN.out]at hlg
    have hst5:Ste rtLog ρ w ρ3 W4:=(HS2.out.2.1.trans (s3.mono (fun r e=>.inl e))).trans (Ste.of_below q5 s3.fresh)
    have x0':=bX5.cell_ 0 rfl
    have x1':=bX5.cell_ 1 rfl
    have x2':=bX5.cell_ 2 rfl
    have x3':=bX5.cell_ 3 rfl
    have x4':=bX5.cell_ 4 rfl
    have xl':=bX5.lt
    have HG:=Lib.hid (And.intro hst5 (lgput_fit (M:=M) (c:=c) (t:=(ta,tb)) hfit3 (by omega)))
    obtain⟨G,hG⟩:∃G,G=lgput W1.sbar M c (ta,tb):=⟨_,rfl⟩
    rw[<-hG]at hlg
    have HGG:=Lib.hid hG
    clear hG hfit3 htu hst5 q5 bX5 h3 s3
    obtain⟨ge,gw,gm⟩:=G
    simp only at hlg
    go_wp2_with fail
    refine hlg.mono ?_
    rintro e w6 ⟨rfl,ρ6,h6,m6,s6⟩
    clear hlg x0' x1' x2' x3' x4' xl'
    have hm6:=m6
    obtain⟨_,_,_,_,_,hcm,_⟩:=HH.out
    rw[if_neg (by simp),if_neg (by rw[<-HB1.out];simp)]at hcm
    have HCM:=Lib.hid hcm
    clear hcm
    have hst6:=HG.out.1.trans s6
    have hgf:=HG.out.2
    rw[<-HGG.out]at hgf
    simp only at hgf
    by_cases hge:ge=0
    ·subst hge
     have hcm:=HCM.out
     rw[<-HGG.out]at hcm
     rw[if_neg (by simp)]at hcm
     simp only at hcm
     have hneG:gw.ssd.lasts≠[]:=fun e=>by have hsz:=hgf.size;rw[e]at hsz;simp at hsz
     have hsb:=wsbar_ok ρ6 a gw w6 s6.fresh h6 (Nat.le_trans hgf.ssd (by omega)) hneG
     have c2:=h6.1.cell_ 2 rfl
     have l2:=h6.1.lt
     obtain⟨b2,hb2⟩:∃b2,b2=(spend gw.pow).2:=⟨_,rfl⟩
     rw[<-hb2]at hsb hcm
     have HC2:=Lib.hid (And.intro hcm (And.intro hst6 (And.intro hm6 (And.intro hgf hb2))))
     clear hcm hst6 hm6 hgf hb2 hneG h6 m6 s6
     cases b2
     ·go_wp2_with fail
      refine hsb.mono ?_
      rintro e w7 ⟨rfl,ρ7,h7,s7⟩
      have HE:=Lib.hid (And.intro h7 s7)
      clear hsb h7 s7
      go_wp2_with fail
      go_ret
      obtain⟨h7,s7⟩:=HE.out
      obtain⟨hcm,hst6,hm6,hgf,hb2⟩:=HC2.out
      rw[if_pos (by simp)]at hcm
      rw[hcm]
      exact⟨rfl,ρ7,h7,hm6.ste s7 rtWm,hst6.trans (s7.mono (fun r e=>.inl e))⟩
     ·go_wp2_with fail
      refine hsb.mono ?_
      rintro e w7 ⟨rfl,ρ7,h7,s7⟩
      clear hsb c2 l2
      have hbp:=wbump_ok ρ7 a gw.sbar w7 s7.fresh h7 (by have:=HC2.out.2.2.2.1.cnt.1;show gw.cnt.value<_;omega)
      have c4':=h7.1.cell_ 4 rfl
      have l4':=h7.1.lt
      have H7:=Lib.hid (And.intro h7 s7)
      obtain⟨b3,hb3⟩:∃b3,b3=(spend gw.sbar.pow).2:=⟨_,rfl⟩
      rw[<-hb3]at hbp
      have HB3:=Lib.hid hb3
      clear h7 s7 hb3
      cases b3
      all_goals
       go_wp2_with fail
       refine hbp.mono ?_
       rintro e w8 ⟨rfl,ρ8,h8,s8⟩
       have HE:=Lib.hid (And.intro h8 s8)
       clear hbp h8 s8 c4' l4'
       go_wp2_with fail
       go_ret
       obtain⟨h8,s8⟩:=HE.out
       obtain⟨h7,s7⟩:=H7.out
       obtain⟨hcm,hst6,hm6,hgf,hb2⟩:=HC2.out
       rw[if_neg (by simp),<-HB3.out]at hcm
       rw[hcm]
       exact⟨rfl,ρ8,h8,(hm6.ste s7 rtWm).ste s8 rtWm,(hst6.trans (s7.mono (fun r e=>.inl e))).trans (s8.mono (fun r e=>.inl e))⟩
    ·have t1:(ge == 0)=false:=by simpa using hge
     have t2:(ge !=0)=true:=by simpa using hge
     have hcm:=HCM.out
     rw[<-HGG.out]at hcm
     rw[if_pos hge]at hcm
     have HC2:=Lib.hid (And.intro hcm (And.intro h6 (And.intro hm6 hst6)))
     clear hge hcm h6 m6 s6 hm6 hst6 hgf
     go_wp2_with fail
     go_ret
     obtain⟨hcm,h6,hm6,hst6⟩:=HC2.out
     rw[hcm]
     exact⟨rfl,ρ6,h6,hm6,hst6⟩
 ·have t1:(err == 0)=false:=by simpa using he
  have t2:(err !=0)=true:=by simpa using he
  have HE:=Lib.hid he
  clear he
  go_wp2_with fail
  go_ret
  obtain⟨_,_,_,_,_,hcm,_⟩:=HH.out
  rw[if_pos HE.out]at hcm
  rw[hcm]
  have q:=(Below.refl _ w2).alloc (Nat.le_refl _) (.cells #[.int .u64 ta,.int .u64 tb] 101)
  exact⟨rfl,ρ2,h2.below_ q,hmk2.below_ q,(s2.mono (fun r e=>.inl e)).trans (Ste.of_below q s2.fresh)⟩
end Go.Proofs.YtggmdjdflaglpaaGreat
namespace Go.Proofs.YtggmdjdflaglpaaGreat
open Go.RowKit Go.Proofs.YtggmdjdflaglpaaGreat.geo
set_option linter.unusedVariables false
section
variable (ρ:Rl) (a:Ads) (W:Wld) (w:World)
theorem won_ok (h:WldR ρ w a W):Calls Tryz.prog 35 #[.pointer (some ⟨a.p,0,none⟩)] w fun e w'=>e=.returned (.bool (!W.pow.gone))/\w=w':=on_ok a.p W.pow w h.2.2.1
def Wld.sbytes (W:Wld) (off n:Nat):By:=((snap W.ssd).drop off).take n
theorem wsread_on (off n:Nat) (h:WldR ρ w a W) (hn:0<n) (hl:off+n<=W.ssd.lasts.length) (hc:W.ssd.cnt<=1000000) (hg:W.pow.gone=false):
 Calls Tryz.prog 96 #[.pointer (some ⟨a.s,0,none⟩),.int .i64 off,.int .i64 n] w fun e w'=>∃v,e=.returned (.tuple #[v,.bool true])/\HasP (w.heap.size<=·) w' v (W.sbytes off n)/\Below w.heap.size w w':=
 read_on ρ a.p a.s W.pow W.ssd off n w h.2.2.1 h.2.2.2.2.1 hn hl hc hg
theorem wsread_off (off n:Nat) (h:WldR ρ w a W) (hl:off+n<=W.ssd.lasts.length) (hg:W.pow.gone=true):
 Calls Tryz.prog 96 #[.pointer (some ⟨a.s,0,none⟩),.int .i64 off,.int .i64 n] w fun e w'=>e=.returned (.tuple #[.slice none 0 0,.bool false])/\w=w':=
 read_off ρ a.p a.s W.pow W.ssd off n w h.2.2.1 h.2.2.2.2.1 hl hg
theorem wdread_on (k:Nat) (h:WldR ρ w a W) (k1:k<32) (hg:W.pow.gone=false) (hc:W.dsk.cnt<=1000000):
 Calls Tryz.prog 115 #[.pointer (some ⟨a.d,0,none⟩),.int .i64 k] w fun e w'=>∃v,e=.returned (.tuple #[v,.bool true])/\OwnB w.heap.size w' v (dread W.dsk k)/\(dread W.dsk k).length=32/\Below w.heap.size w w':=
 dread_on ρ a.p a.d W.pow W.dsk k w h.2.2.1 h.2.2.2.2.2.1 k1 hg hc
theorem wdread_off (k:Nat) (h:WldR ρ w a W) (k1:k<32) (hg:W.pow.gone=true):
 Calls Tryz.prog 115 #[.pointer (some ⟨a.d,0,none⟩),.int .i64 k] w fun e w'=>e=.returned (.tuple #[.slice none 0 0,.bool false])/\w=w':=
 dread_off ρ a.p a.d W.pow W.dsk k w h.2.2.1 h.2.2.2.2.2.1 (by omega) (by omega) hg
theorem wopen_ok (HO:OpenOk) (p q:Nat->Prop) (key:Two) (n:Nce) (vh:Value) (head:By) (vb:Value) (b:By) (tag:Two) (h:WldR ρ w a W) (hk:U2 key) (hn:n.ok) (ht:U2 tag) (hh:HasP p w vh head) (hb:HasP q w vb b) (h1:head.length<=4000) (h2:b.length<=4000):
 Calls Tryz.prog 137 #[.pointer (some ⟨a.l,0,none⟩),pv key,nv n,vh,.agg #[vb,.int .u64 tag.1,.int .u64 tag.2]] w fun e w'=>
  ∃v,e=.returned (.tuple #[v,.bool (W.lk.opens key n head b tag).isSome])/\OwnB w.heap.size w' v ((W.lk.opens key n head b tag).getD [])/\Below w.heap.size w w':=
 HO ρ p q a.l W.lk key n vh head vb b tag w h.2.2.2.2.2.2.2.2.2 hk hn ht hh hb h1 h2
end
theorem lideal_lk (w:World) (ρ:Rl) (hf:Fresh ρ w):Calls Tryz.prog 29 #[] w fun e w'=>e=.returned (.pointer (some ⟨w.heap.size+2,0,none⟩))/\LkR (((ρ.set w.heap.size rSum).set (w.heap.size+1) rOrc).set (w.heap.size+2) rLck) w' (w.heap.size+2) (.ideal ⟨[],[],0⟩)/\w'.heap.size=w.heap.size+3/\Below w.heap.size w w':=by
 refine(lideal_ok w).mono ?_
 rintro e w1 ⟨rfl,h1,h2,h3⟩
 exact⟨rfl,⟨w.heap.size+1,h1 ρ⟩,h2,h3⟩
end Go.Proofs.YtggmdjdflaglpaaGreat
namespace Go.Proofs.YtggmdjdflaglpaaGreat
open Go.RowKit Go.Proofs.YtggmdjdflaglpaaGreat.geo
set_option linter.unusedVariables false
theorem spend_no {P:Pow}(h:(spend P).2=false):(spend P).1.gone=true:=by
 unfold spend at h ⊢
 by_cases h1:P.gone=true
 ·rw[if_pos h1];exact h1
 ·rw[if_neg h1]at h ⊢
  by_cases h2:(P.fuse&&P.left == 0)=true
  ·rw[if_pos h2]
  ·rw[if_neg h2]at h;simp at h
theorem spend_yes {P:Pow}(h:(spend P).2=true):(spend P).1.gone=false/\P.gone=false:=by
 unfold spend at h ⊢
 by_cases h1:P.gone=true
 ·rw[if_pos h1]at h;simp at h
 ·rw[if_neg h1]at h ⊢
  by_cases h2:(P.fuse&&P.left == 0)=true
  ·rw[if_pos h2]at h;simp at h
  ·rw[if_neg h2];simp only[Bool.not_eq_true]at h1;exact⟨h1,h1⟩
theorem spend_off {P:Pow}(h:P.gone=true):(spend P).1.gone=true/\(spend P).2=false:=by
 unfold spend;rw[if_pos h];exact⟨h,rfl⟩
def Lk.good:Lk->Prop
 |.ideal O=>∀(i:Nat) (x:Iss),O.iss[i]? =some x->x.num=(i:Int)+1/\x.data.length=32
 |.real=>True
def Lk.le:Lk->Lk->Prop
 |.ideal O,.ideal O'=>(∃I,O'.iss=O.iss++I)/\∃S,O'.sums=O.sums++S
 |.real,.real=>True
 |_,_=>False
theorem Lk.le_refl (L:Lk):L.le L:=by
 cases L with
 |ideal O=>exact⟨⟨[],by simp⟩,[],by simp⟩
 |real=>trivial
theorem Lk.le_trans {L M N:Lk}(h:L.le M) (k:M.le N):L.le N:=by
 cases L<;>cases M<;>cases N<;>first|trivial|exact h.elim|exact k.elim|skip
 obtain⟨⟨I,h1⟩,S,h2⟩:=h
 obtain⟨⟨J,k1⟩,T,k2⟩:=k
 exact⟨⟨I++J,by rw[k1,h1,List.append_assoc]⟩,S++T,by rw[k2,h2,List.append_assoc]⟩
theorem Lk.le_shutd (L:Lk) (key:Two) (n:Nce) (head data:By):L.le (L.shutd key n head data):=by
 cases L with
 |ideal O=>exact⟨⟨_,rfl⟩,[],by simp[oseal]⟩
 |real=>trivial
theorem Lk.le_summed (L:Lk) (s:By):L.le (L.summed s):=by
 cases L with
 |ideal O=>
  refine⟨⟨[],by simp[osum]⟩,?_⟩
  show ∃S,sumsOf O.sums s=O.sums++S
  unfold sumsOf
  split
  ·exact⟨[],by simp⟩
  ·exact⟨_,rfl⟩
 |real=>trivial
theorem Lk.good_shutd {L:Lk}(h:L.good) (key:Two) (n:Nce) (head data:By) (hd:data.length=32):(L.shutd key n head data).good:=by
 cases L with
 |ideal O=>
  intro i x hx
  have hx:(O.iss++[iseal O key n head data])[i]? =some x:=hx
  by_cases hi:i<O.iss.length
  ·rw[List.getElem?_append_left hi]at hx
   exact h i x hx
  ·rw[List.getElem?_append_right (by omega)]at hx
   have hz:i-O.iss.length=0:=by
    have:=(List.getElem?_eq_some_iff.1 hx).1
    rw[List.length_singleton]at this
    omega
   rw[hz]at hx
   simp at hx
   subst hx
   exact⟨by show(O.iss.length:Int)+1=_;omega,hd⟩
 |real=>trivial
theorem Lk.good_summed {L:Lk}(h:L.good) (s:By):(L.summed s).good:=by
 cases L with
 |ideal O=>exact h
 |real=>trivial
theorem Lk.opens_len {L:Lk}(h:L.good) {key:Two}{n:Nce}{head b:By}{tag:Two}{d:By}(hb:b.length=32) (ho:L.opens key n head b tag=some d):d.length=32:=by
 cases L with
 |ideal O=>
  have ho:(O.iss.find? (isIss key n head b tag)).map (·.data)=some d:=ho
  rw[Option.map_eq_some_iff]at ho
  obtain⟨x,hx,rfl⟩:=ho
  obtain⟨i,hi⟩:=List.getElem?_of_mem (List.mem_of_find?_eq_some hx)
  exact(h i x hi).2
 |real=>
  have ho:gopen key n head b tag=some d:=ho
  unfold gopen at ho
  split at ho
  ·injection ho with ho
   rw[<-ho]
   simp[fxor,fbytes_len,hb]
  ·cases ho
theorem Lk.opens_le {L L':Lk}(h:L.le L') {key:Two}{n:Nce}{head b:By}{tag:Two}{d:By}(ho:L.opens key n head b tag=some d):L'.opens key n head b tag=some d:=by
 cases L<;>cases L'<;>first|exact h.elim|exact ho|skip
 rename_i O O'
 obtain⟨⟨I,h1⟩,_⟩:=h
 have ho:(O.iss.find? (isIss key n head b tag)).map (·.data)=some d:=ho
 rw[Option.map_eq_some_iff]at ho
 obtain⟨x,hx,hd⟩:=ho
 show(O'.iss.find? (isIss key n head b tag)).map (·.data)=some d
 rw[h1,List.find?_append,hx]
 simpa using hd
theorem xor_back (x y:UInt8):(x ^^^ y) ^^^ y=x:=by
 rw[UInt8.xor_assoc,UInt8.xor_self,UInt8.xor_zero]
theorem fxor_back:∀(a k:By),a.length<=k.length->fxor (fxor a k) k=a
 |[],k,_=>by simp[fxor]
 |a::l,[],h=>by simp at h
 |a::l,k::ks,h=>by
  have ih:=fxor_back l ks (by simpa using h)
  unfold fxor at ih ⊢
  rw[List.zipWith_cons_cons,List.zipWith_cons_cons,ih,xor_back]
theorem Lk.opens_shut {L:Lk}(h:L.good) (key:Two) (n:Nce) (head data:By) (hd:data.length=32):
 (L.shutd key n head data).opens key n head (L.shut key n head data).1 (L.shut key n head data).2=some data:=by
 cases L with
 |ideal O=>
  show((O.iss++[iseal O key n head data]).find? (isIss key n head (oout (O.iss.length+1)) (kSeal,(O.iss.length:Int)+1))).map (·.data)=some data
  have hno:O.iss.find? (isIss key n head (oout (O.iss.length+1)) (kSeal,(O.iss.length:Int)+1))=none:=by
   rw[List.find?_eq_none]
   intro x hx c
   obtain⟨i,hi⟩:=List.getElem?_of_mem hx
   have h1:=(h i x hi).1
   have h2:=(List.getElem?_eq_some_iff.1 hi).1
   unfold isIss at c
   simp only[Bool.and_eq_true,decide_eq_true_eq]at c
   have h3:=c.1.1.2
   injection h3 with _ h3
   omega
  rw[List.find?_append,hno]
  have hy:isIss key n head (oout (O.iss.length+1)) (kSeal,(O.iss.length:Int)+1) (iseal O key n head data)=true:=by
   simp[isIss,iseal]
  simp[hy]
  rfl
 |real=>
  show gopen key n head (gseal key n head data).1 (gseal key n head data).2=some data
  unfold gopen gseal
  simp only[if_true]
  have hl:(fxor data (fbytes (fsub key n) data.length)).length=data.length:=by simp[fxor,fbytes_len]
  rw[hl,fxor_back _ _ (by rw[fbytes_len];omega)]
theorem lfL_le (L:Lk) (R:List By):∀i,L.le (lfL L R i)
 |0=>Lk.le_refl _
 |i+1=>Lk.le_trans (lfL_le L R i) (Lk.le_summed _ _)
theorem nd2_le (L:Lk) (R:List By):∀j,L.le (nd2 L R j).1
 |0=>lfL_le _ _ _
 |j+1=>Lk.le_trans (nd2_le L R j) (Lk.le_summed _ _)
theorem lfL_good {L:Lk}(h:L.good) (R:List By):∀i,(lfL L R i).good
 |0=>h
 |i+1=>Lk.good_summed (lfL_good h R i) _
theorem nd2_good {L:Lk}(h:L.good) (R:List By):∀j,(nd2 L R j).1.good
 |0=>lfL_good h _ _
 |j+1=>Lk.good_summed (nd2_good h R j) _
theorem bldL_le (L:Lk) (R:List By):L.le (bldL L R):=nd2_le _ _ _
theorem bldL_good {L:Lk}(h:L.good) (R:List By):(bldL L R).good:=nd2_good h _ _
end Go.Proofs.YtggmdjdflaglpaaGreat
namespace Go.Proofs.YtggmdjdflaglpaaGreat
open Go.RowKit Go.Proofs.YtggmdjdflaglpaaGreat.geo
set_option linter.unusedVariables false
theorem swr_same (W:Wld) (o:Int) (b:By):(W.swr o b).slots=W.slots/\(W.swr o b).kys=W.kys/\(W.swr o b).dsk=W.dsk/\(W.swr o b).cnt=W.cnt/\(W.swr o b).lk=W.lk/\(W.swr o b).pow=(spend W.pow).1:=⟨rfl,rfl,rfl,rfl,rfl,rfl⟩
theorem spend_keep {P:Pow}(h:P.gone=true):(spend P).1.gone=true:=(spend_off h).1
theorem awr_lk (W:Wld) (k:Nat) (ls:List Lf):(awr W k ls).2.2.lk=bldL W.lk (ls.map leafB):=by
 unfold awr
 split
 ·split<;>rfl
 ·rfl
theorem awr_err (W:Wld) (k:Nat) (ls:List Lf):((awr W k ls).2.1=0/\(awr W k ls).2.2=aw3 W k ls/\(awr W k ls).1=bldN W.lk (ls.map leafB) 1/\(awr W k ls).2.2.pow.gone=false/\(spend W.pow).2=true/\(spend (aw2 W k ls).pow).2=true)\/((awr W k ls).2.1=7/\(awr W k ls).2.2.pow.gone=true):=by
 unfold awr
 split
 ·rename_i h1
  split
  ·rename_i h2
   exact .inl ⟨rfl,rfl,rfl,(spend_yes h2).1,h1,h2⟩
  ·rename_i h2
   exact .inr ⟨rfl,spend_no (P:=(aw2 W k ls).pow) (Bool.eq_false_iff.2 h2)⟩
 ·rename_i h1
  exact .inr ⟨rfl,spend_no (P:=W.pow) (Bool.eq_false_iff.2 h1)⟩
theorem awr_gone {W:Wld}(h:W.pow.gone=true) (k:Nat) (ls:List Lf):(awr W k ls).2.2.pow.gone=true:=by
 unfold awr
 rw[if_neg (by rw[(spend_off h).2];simp)]
 exact spend_keep h
theorem lgput_same (W:Wld) (M:Mk) (c:Nat) (t:Two):(lgput W M c t).2.1.slots=W.slots/\(lgput W M c t).2.1.kys=W.kys/\(lgput W M c t).2.1.dsk=W.dsk/\(lgput W M c t).2.1.cnt=W.cnt/\W.lk.le (lgput W M c t).2.1.lk/\(W.lk.good->(lgput W M c t).2.1.lk.good):=by
 unfold lgput
 split
 ·exact⟨rfl,rfl,rfl,rfl,Lk.le_refl _,id⟩
 ·exact⟨rfl,rfl,rfl,rfl,Lk.le_shutd _ _ _ _ _,fun h=>Lk.good_shutd h _ _ _ _ (rootB_len _ _ _ _)⟩
theorem lgput_err (W:Wld) (M:Mk) (c:Nat) (t:Two):(M.n=100/\lgput W M c t=(6,W,M))\/(M.n≠100/\(lgput W M c t).1=0/\(lgput W M c t).2.2=M.up/\(lgput W M c t).2.1=(rlck W M c t).swr (roff W c) (rrec W M c t)/\(spend W.pow).2=true/\(lgput W M c t).2.1.pow.gone=false)\/(M.n≠100/\(lgput W M c t).1=7/\(lgput W M c t).2.2=M.up/\(lgput W M c t).2.1.pow.gone=true):=by
 unfold lgput
 by_cases h:M.n=100
 ·rw[if_pos h];exact .inl ⟨h,rfl⟩
 ·rw[if_neg h]
  refine .inr ?_
  cases hs:(spend W.pow).2 with
  |true=>exact .inl ⟨h,rfl,rfl,rfl,rfl,(spend_yes hs).1⟩
  |false=>exact .inr ⟨h,rfl,rfl,spend_no hs⟩
theorem lgput_gone {W:Wld}(h:W.pow.gone=true) (M:Mk) (c:Nat) (t:Two):(lgput W M c t).2.1.pow.gone=true:=by
 unfold lgput
 split
 ·exact h
 ·exact spend_keep h
theorem mod2_lt (n:Nat):n%2<2:=Nat.mod_lt _ (by decide)
section
variable (W:Wld) (M:Mk) (ls:List Lf)
def cA:Two×Int×Wld:=awr W ((W.cnt.value+1)%2) ls
def cG:Int×Wld×Mk:=lgput (cA W ls).2.2.sbar M (W.cnt.value+1) (cA W ls).1
theorem cmt_eq:cmt W M ls=if(cA W ls).2.1≠0 then((cA W ls).2.1,(cA W ls).2.2,M)else if(spend (cA W ls).2.2.pow).2=false then(7,(cA W ls).2.2.sbar,M)
 else if(cG W M ls).1≠0 then cG W M ls else if(spend (cG W M ls).2.1.pow).2=false then(7,(cG W M ls).2.1.sbar,(cG W M ls).2.2)
 else((if(spend (cG W M ls).2.1.sbar.pow).2 then 0 else 7),(cG W M ls).2.1.sbar.bmp,(cG W M ls).2.2):=rfl
theorem cmt_same:(cmt W M ls).2.1.slots=W.slots/\(cmt W M ls).2.1.kys=W.kys/\(cmt W M ls).2.1.dsk=W.dsk/\W.lk.le (cmt W M ls).2.1.lk/\(W.lk.good->(cmt W M ls).2.1.lk.good):=by
 have h1:=awr_slots W ((W.cnt.value+1)%2) ls
 have h2:=awr_lk W ((W.cnt.value+1)%2) ls
 have h3:=lgput_same (cA W ls).2.2.sbar M (W.cnt.value+1) (cA W ls).1
 have a1:W.lk.le (cA W ls).2.2.lk:=by unfold cA;rw[h2];exact bldL_le _ _
 have a2:W.lk.good->(cA W ls).2.2.lk.good:=fun h=>by unfold cA;rw[h2];exact bldL_good h _
 have b1:(cG W M ls).2.1.slots=W.slots:=h3.1.trans h1.1
 have b2:(cG W M ls).2.1.kys=W.kys:=h3.2.1.trans h1.2.2.1
 have b3:(cG W M ls).2.1.dsk=W.dsk:=h3.2.2.1.trans h1.2.2.2
 have b4:W.lk.le (cG W M ls).2.1.lk:=Lk.le_trans a1 h3.2.2.2.2.1
 have b5:W.lk.good->(cG W M ls).2.1.lk.good:=fun h=>h3.2.2.2.2.2 (a2 h)
 rw[cmt_eq]
 split
 ·exact⟨h1.1,h1.2.2.1,h1.2.2.2,a1,a2⟩
 ·split
  ·exact⟨h1.1,h1.2.2.1,h1.2.2.2,a1,a2⟩
  ·split
   ·exact⟨b1,b2,b3,b4,b5⟩
   ·split
    ·exact⟨b1,b2,b3,b4,b5⟩
    ·exact⟨b1,b2,b3,b4,b5⟩
theorem cmt_fit {k:Nat}(h:W.fit k) (hk:k<=900000) (hn:ls.length=W.slots):(cmt W M ls).2.1.fit (k+50):=by
 have f1:(cA W ls).2.2.fit (k+40):=awr_fit h (mod2_lt _) hn
 have f2:=f1.sbar
 have f3:(cG W M ls).2.1.fit (k+45):=lgput_fit f2 (by omega)
 have f4:=f3.sbar
 have f5:=f4.bmp
 rw[cmt_eq]
 split
 ·exact f1.mono (by omega)
 ·split
  ·exact f2.mono (by omega)
  ·split
   ·exact f3.mono (by omega)
   ·split
    ·exact f4.mono (by omega)
    ·exact f5.mono (by omega)
theorem cmt_mk:(cmt W M ls).2.2=M\/(M.n≠100/\(cmt W M ls).2.2=M.up):=by
 have hg:(cG W M ls).2.2=M\/(M.n≠100/\(cG W M ls).2.2=M.up):=by
  rcases lgput_err (cA W ls).2.2.sbar M (W.cnt.value+1) (cA W ls).1 with⟨_,h⟩|⟨h1,_,h,_⟩|⟨h1,_,h,_⟩
  ·left;unfold cG;rw[h]
  ·exact .inr ⟨h1,h⟩
  ·exact .inr ⟨h1,h⟩
 rw[cmt_eq]
 split
 ·exact .inl rfl
 ·split
  ·exact .inl rfl
  ·split
   ·exact hg
   ·split
    ·exact hg
    ·exact hg
theorem cmt_gone (h:W.pow.gone=true):(cmt W M ls).2.1.pow.gone=true:=by
 have a1:(cA W ls).2.2.pow.gone=true:=awr_gone h _ _
 have a2:(cA W ls).2.2.sbar.pow.gone=true:=spend_keep a1
 have a3:(cG W M ls).2.1.pow.gone=true:=lgput_gone a2 _ _ _
 have a4:(cG W M ls).2.1.sbar.pow.gone=true:=spend_keep a3
 have a5:(cG W M ls).2.1.sbar.bmp.pow.gone=true:=spend_keep a4
 rw[cmt_eq]
 split
 ·exact a1
 ·split
  ·exact a2
  ·split
   ·exact a3
   ·split
    ·exact a4
    ·exact a5
theorem cmt_err:((cmt W M ls).1=0/\(cmt W M ls).2.1.pow.gone=false/\M.n≠100/\(cmt W M ls).2.2=M.up/\cmt W M ls=(0,(cG W M ls).2.1.sbar.bmp,(cG W M ls).2.2)/\(spend (cA W ls).2.2.pow).2=true/\(spend (cG W M ls).2.1.pow).2=true/\(spend (cG W M ls).2.1.sbar.pow).2=true/\(cA W ls).2.1=0/\(cG W M ls).1=0)\/
 ((cmt W M ls).1=6/\(cmt W M ls).2.1.pow.gone=false/\M.n=100/\(cmt W M ls).2.2=M/\cmt W M ls=(6,(cA W ls).2.2.sbar,M)/\(spend (cA W ls).2.2.pow).2=true/\(cA W ls).2.1=0)\/((cmt W M ls).1=7/\(cmt W M ls).2.1.pow.gone=true):=by
 rw[cmt_eq]
 rcases awr_err W ((W.cnt.value+1)%2) ls with⟨e1,e2,e3,e4,_⟩|⟨e1,e2⟩
 ·rw[if_neg (by show ¬(cA W ls).2.1≠0;unfold cA;rw[e1];simp)]
  cases hs:(spend (cA W ls).2.2.pow).2 with
  |false=>rw[if_pos rfl];exact .inr (.inr ⟨rfl,spend_no hs⟩)
  |true=>
   rw[if_neg (by simp)]
   rcases lgput_err (cA W ls).2.2.sbar M (W.cnt.value+1) (cA W ls).1 with⟨h0,h⟩|⟨h1,h2,h,h3,_,h4⟩|⟨h1,h2,h,h3⟩
   ·have h':cG W M ls=(6,(cA W ls).2.2.sbar,M):=h
    rw[h',if_pos (by simp)]
    exact .inr (.inl ⟨rfl,(spend_yes hs).1,h0,rfl,rfl,rfl,e1⟩)
   ·have h2':(cG W M ls).1=0:=h2
    rw[if_neg (by rw[h2'];simp)]
    cases hs2:(spend (cG W M ls).2.1.pow).2 with
    |false=>rw[if_pos rfl];exact .inr (.inr ⟨rfl,spend_no hs2⟩)
    |true=>
     rw[if_neg (by simp)]
     cases hs3:(spend (cG W M ls).2.1.sbar.pow).2 with
     |false=>exact .inr (.inr ⟨rfl,spend_no hs3⟩)
     |true=>exact .inl ⟨rfl,(spend_yes hs3).1,h1,h,rfl,rfl,rfl,rfl,e1,h2'⟩
   ·have h2':(cG W M ls).1=7:=h2
    rw[if_pos (by rw[h2'];simp)]
    exact .inr (.inr ⟨h2',h3⟩)
 ·rw[if_pos (by show(cA W ls).2.1≠0;unfold cA;rw[e1];simp)]
  exact .inr (.inr ⟨e1,e2⟩)
end
end Go.Proofs.YtggmdjdflaglpaaGreat
namespace Go.Proofs.YtggmdjdflaglpaaGreat
open Go.RowKit
set_option linter.unusedVariables false
theorem or_low (x c:Int) (h0:0<=x) (h1:x<72057594037927936) (c0:0<=c) (c1:c<256):bits .or .u64 (x*256) c=x*256+c:=by
 obtain⟨n,rfl⟩:∃n:Nat,x=n:=⟨x.toNat,by omega⟩
 obtain⟨m,rfl⟩:∃m:Nat,c=m:=⟨c.toNat,by omega⟩
 have e:(BitVec.ofInt 64 ((n:Int)*256) ||| BitVec.ofInt 64 (m:Int)).toNat=n*256+m:=by
  rw[BitVec.toNat_or,BitVec.toNat_ofInt,BitVec.toNat_ofInt]
  have e1:(((n:Int)*256)%((2^64:Nat):Int)).toNat=2^8*n:=by omega
  have e2:((m:Int)%((2^64:Nat):Int)).toNat=m:=by omega
  rw[e1,e2,<-Nat.two_pow_add_eq_or_of_lt (by omega)]
  omega
 show IntKind.u64.wrap ((BitVec.ofInt 64 ((n:Int)*256) ||| BitVec.ofInt 64 (m:Int)).toNat:Int)=_
 rw[e,IntWalk.u64_in _ ⟨by omega,by omega⟩]
 omega
theorem be_snoc (l:By) (c:UInt8):be (l++[c])=be l*256+(c.toNat:Int):=by
 unfold be
 rw[List.foldl_append]
 rfl
theorem be_take (l:By) (i:Nat) (c:UInt8) (h:l[i]? =some c):be (l.take (i+1))=be (l.take i)*256+(c.toNat:Int):=by
 rw[List.take_add_one,h]
 exact be_snoc _ _
theorem be_bd:∀(n:Nat) (l:By),l.length=n->0<=be l/\be l<256^n
 |0,l,h=>by
  have:l=[]:=List.eq_nil_of_length_eq_zero h
  rw[this]
  decide
 |n+1,l,h=>by
  have hne:l≠[]:=fun e=>by rw[e]at h;simp at h
  obtain⟨t,c,rfl⟩:∃t c,l=t++[c]:=⟨l.dropLast,l.getLast hne,(List.dropLast_concat_getLast hne).symm⟩
  rw[be_snoc]
  have ht:t.length=n:=by simpa using h
  have ih:=be_bd n t ht
  have hc:=c.toNat_lt
  rw[Int.pow_succ]
  omega
theorem be_u (l:By) (h:l.length<=8):U64 (be l):=by
 have:=be_bd l.length l rfl
 have h2:l.length=0\/l.length=1\/l.length=2\/l.length=3\/l.length=4\/l.length=5\/l.length=6\/l.length=7\/l.length=8:=by omega
 unfold U64
 rcases h2 with e|e|e|e|e|e|e|e|e<;>rw[e]at this<;>simp at this<;>omega
theorem be_small (l:By) (h:l.length<=7):0<=be l/\be l<72057594037927936:=by
 have:=be_bd l.length l rfl
 have h2:l.length=0\/l.length=1\/l.length=2\/l.length=3\/l.length=4\/l.length=5\/l.length=6\/l.length=7:=by omega
 rcases h2 with e|e|e|e|e|e|e|e<;>rw[e]at this<;>simp at this<;>omega
set_option maxHeartbeats 2000000 in
set_option maxRecDepth 100000 in
theorem get_ok (b o cap:Nat) (l:By) (w:World) (h0:0<l.length) (h8:l.length<=8) (hb:b<w.heap.size) (hc:∀(j:Nat) (u:UInt8),l[j]? =some u->w.cell? ⟨b,o+j,none⟩=some (.int .u8 (u.toNat:Int))):
 Calls Tryz.prog 130 #[.slice (some ⟨b,o,none⟩) l.length cap] w fun e w'=>e=.returned (.tuple #[.int .u64 (be l),.bool true])/\w=w':=by
 obtain⟨n,hn⟩:∃n,n=l.length:=⟨_,rfl⟩
 obtain⟨r,hr⟩:∃r,r=be l:=⟨_,rfl⟩
 rw[<-hn]at h0 h8
 rw[<-hr,<-hn]
 have H:=Lib.hid (And.intro hn (And.intro hr hc))
 have t1:decide ((n:Int)<1)=false:=by simp;omega
 have t2:decide ((8:Int)<(n:Int))=false:=by simp;omega
 clear hn hr hc
 go_enter Tryz.func130,Tryz.ntmps130
 go_wp2_with fail
 go_loopw [4,17] (fun v t wr=>∃i:Nat,v=.int .u64 (be (l.take i))/\t=.int .i64 i/\i<=n/\w=wr) (fun _ t _=>n-(intOf t).toNat)
 case atStart=>exact⟨0,rfl,rfl,by omega,rfl⟩
 case round=>
  obtain⟨i,rfl,rfl,hi,rfl⟩:=hrel
  obtain⟨hn,hr,hc⟩:=H.out
  by_cases hlt:i<n
  ·have m0:(0:Int)<=(i:Int):=by omega
   have m1:(i:Int)<(n:Int):=by omega
   obtain⟨c,hci⟩:∃c,l[i]? =some c:=⟨_,List.getElem?_eq_getElem (by omega)⟩
   have hcell:=hc i c hci
   have hbe:=be_take l i c hci
   have hcn:=c.toNat_lt
   have hsm:=be_small (l.take i) (by rw[List.length_take];omega)
   obtain⟨x,hx⟩:∃x,x=be (l.take i):=⟨_,rfl⟩
   obtain⟨y,hy⟩:∃y:Int,y=(c.toNat:Int):=⟨_,rfl⟩
   rw[<-hx]at hsm hbe ⊢
   rw[<-hy]at hcell hbe
   have hor:=or_low x y hsm.1 hsm.2 (by omega) (by omega)
   have y0:0<=y:=by omega
   have y1:y<256:=by omega
   have HB:=Lib.hid hbe
   have HY:=Lib.hid (And.intro hx hy)
   clear hbe hx hy hci hn hr hc hcn
   go_wp2_with fail
   rw[<-HB.out]
   go_roundw
   case rel=>exact⟨i+1,rfl,by go_num,by omega,by first|rfl|trivial⟩
   case measure=>simp[intOf];omega
  ·have hin:i=n:=by omega
   subst hin
   have he:l.take i=l:=by rw[hn];exact List.take_length
   rw[he,<-hr]
   clear hc hr hn he
   go_wp2_with fail
   go_ret2
   exact⟨rfl,rfl⟩
theorem pairOf_u (l:By) (h:l.length=16):U2 (pairOf l):=⟨be_u _ (by rw[List.length_take];omega),be_u _ (by rw[List.length_drop];omega)⟩
set_option maxHeartbeats 2000000 in
set_option maxRecDepth 100000 in
theorem wpair_ok (p:Nat->Prop) (v:Value) (l:By) (w:World) (h:HasP p w v l) (hl:l.length=16):
 Calls Tryz.prog 89 #[v] w fun e w'=>e=.returned (.tuple #[pv (pairOf l),.bool true])/\Below w.heap.size w w':=by
 obtain⟨b,o,cap,rfl,_,hb,hc1,hc2,hc⟩:=h.eight hl (by decide)
 have t8:(l.take 8).length=8:=by rw[List.length_take];omega
 have d8:(l.drop 8).length=8:=by rw[List.length_drop];omega
 have g1:=fun W (hb':b<W.heap.size) (hk:W.heap[b]? =w.heap[b]?) c=>get_ok b o c (l.take 8) W (by omega) (by omega) hb' (fun j u hj=>by
  rw[List.getElem?_take]at hj
  split at hj
  ·rw[<-hc j u hj];simp only[World.cell?,hk]
  ·cases hj)
 have g2:=fun W (hb':b<W.heap.size) (hk:W.heap[b]? =w.heap[b]?) c=>get_ok b (o+8) c (l.drop 8) W (by omega) (by omega) hb' (fun j u hj=>by
  rw[List.getElem?_drop]at hj
  rw[Nat.add_assoc,<-hc (8+j) u hj];simp only[World.cell?,hk])
 have c8:8<=cap:=by omega
 have hcap:cap<=9223372036854775807:=by unfold maxLen at hc2;omega
 obtain⟨x,hx⟩:∃x,x=be (l.take 8):=⟨_,rfl⟩
 obtain⟨y,hy⟩:∃y,y=be (l.drop 8):=⟨_,rfl⟩
 rw[t8,<-hx]at g1
 rw[d8,<-hy]at g2
 have HX:=Lib.hid (And.intro hx hy)
 have HG:=Lib.hid (And.intro g1 g2)
 unfold pairOf pv
 simp only
 rw[<-hx,<-hy]
 clear hx hy g1 g2 hc t8 d8 h hl
 go_enter Tryz.func89,Tryz.ntmps89
 go_wp2_with fail
 refine(HG.out.1 _ (by simp;omega) (Below.heap_alloc w _ b hb) cap).mono ?_
 rintro e w1 ⟨rfl,rfl⟩
 go_wp2_with fail
 refine(HG.out.2 _ (by simp;omega) (Below.heap_alloc w _ b hb) _).mono ?_
 rintro e w1 ⟨rfl,rfl⟩
 go_wp2_with fail
 have hB:=Blk.new w 101 #[.int .u64 x,.int .u64 y]
 exact ret_cell_tmp 2 101 3 (by rfl) w.heap.size 0 (by rfl) (.bool true) (by rfl) [.int .u64 x,.int .u64 y] _ hB.range Tryz.underlying101 rfl sz101 rfl ⟨rfl,(Below.refl _ _).alloc (Nat.le_refl _) _⟩
end Go.Proofs.YtggmdjdflaglpaaGreat
