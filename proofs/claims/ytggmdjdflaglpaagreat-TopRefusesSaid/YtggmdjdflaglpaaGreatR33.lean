/- log.opened: a record's root. log.Get: a count's root. The cache: finish. world.New. commit.Load, of a world where nothing was committed; cache.Open. -/
import Derived.Test.YtggmdjdflaglpaaGreatR32
import Derived.Test.YtggmdjdflaglpaaGreatR28
import Derived.Test.YtggmdjdflaglpaaGreatR31
import Derived.Test.YtggmdjdflaglpaaGreatR08
import Derived.Test.YtggmdjdflaglpaaGreatR19
namespace Go.Proofs.YtggmdjdflaglpaaGreat
open Go.RowKit Go.Proofs.YtggmdjdflaglpaaGreat.geo
set_option linter.unusedVariables false
theorem l2k {w:World}{wl ka g:Nat}{x0 x1 x2 x3 x4 x6 y1 y2:Value}{ep:Int}(b:Blk w wl 70 #[x0,x1,x2,x3,x4,.pointer (some ⟨ka,0,none⟩),x6]) (b6:Blk w g 99 #[.int .u32 ep,y1,y2]):
 w.cell? ⟨wl,5,none⟩=some (.pointer (some ⟨ka,0,none⟩))/\w.cell? ⟨g,0,none⟩=some (.int .u32 ep):=⟨b.cell_ 5 rfl,b6.cell_ 0 rfl⟩
theorem l2b {w:World}{wl ca g:Nat}{x0 x1 x2 x3 x5 x6 y0 y1 y2:Value}(b:Blk w wl 70 #[x0,x1,x2,x3,.pointer (some ⟨ca,0,none⟩),x5,x6]) (b6:Blk w g 99 #[y0,y1,y2]):
 w.cell? ⟨wl,4,none⟩=some (.pointer (some ⟨ca,0,none⟩))/\w.cell? ⟨g,0,none⟩=some y0/\w.cell? ⟨g,1,none⟩=some y1/\w.cell? ⟨g,2,none⟩=some y2:=⟨b.cell_ 4 rfl,b6.cell_ 0 rfl,b6.cell_ 1 rfl,b6.cell_ 2 rfl⟩
theorem l2o {w:World}{wl la g g7 bx:Nat}{x0 x1 x2 x3 x4 x5 y0 y1 y2 z0 z1 z2 u0 u1:Value}(b:Blk w wl 70 #[x0,x1,x2,x3,x4,x5,.pointer (some ⟨la,0,none⟩)]) (b6:Blk w g 99 #[y0,y1,y2]) (b7:Blk w g7 157 #[z0,z1,z2]) (bX:Blk w bx 101 #[u0,u1]):
 w.cell? ⟨wl,6,none⟩=some (.pointer (some ⟨la,0,none⟩))/\w.cell? ⟨bx,0,none⟩=some u0/\w.cell? ⟨bx,1,none⟩=some u1/\w.cell? ⟨g,0,none⟩=some y0/\w.cell? ⟨g,1,none⟩=some y1/\w.cell? ⟨g,2,none⟩=some y2/\w.cell? ⟨g7,0,none⟩=some z0/\w.cell? ⟨g7,1,none⟩=some z1/\w.cell? ⟨g7,2,none⟩=some z2:=
 ⟨b.cell_ 6 rfl,bX.cell_ 0 rfl,bX.cell_ 1 rfl,b6.cell_ 0 rfl,b6.cell_ 1 rfl,b6.cell_ 2 rfl,b7.cell_ 0 rfl,b7.cell_ 1 rfl,b7.cell_ 2 rfl⟩
set_option maxHeartbeats 16000000 in
set_option maxRecDepth 100000 in
theorem opened_ok (HO:OpenOk) (ρ:Rl) (p:Nat->Prop) (a:Ads) (W:Wld) (v:Value) (ep bt nn:Nat) (b:By) (tag:Two) (c e2 n2:Int) (top:Two) (w:World) (h:WldR ρ w a W) (hv:HasP p w v (recB ep ((bt:Int)*4294967296+nn) b tag))
 (hep:ep<4294967296) (hbt:bt<4294967296) (hnn:nn<=100) (hb:b.length=32) (ht:U2 tag) (hk:ep∈W.kys.es) (hat:W.cnt.at_=bt) (hop:W.lk.opens (keyOf W.kys.seed ep) ⟨ep,65535,(bt:Int)*4294967296+nn⟩ [] b tag=some (rootB c e2 n2 top))
 (hc:U64 c) (he2:0<=e2/\e2<4294967296) (hn2:V n2) (htop:U2 top):
 Calls Tryz.prog 98 #[.pointer (some ⟨a.wl,0,none⟩),v] w fun e w'=>e=.returned (.tuple #[.agg #[.int .u64 c,.int .u32 e2,.int .i64 n2,.int .u64 top.1,.int .u64 top.2],.bool true])/\Below w.heap.size w w':=by
 have hbo:=fun W' x y=>nce.boot_ok (bt:Int) (nn:Int) x y W' (by omega) (by omega) (by omega) (by omega)
 obtain⟨ver,hver⟩:∃ver:Int,ver=(bt:Int)*4294967296+nn:=⟨_,rfl⟩
 rw[<-hver]at hv hop hbo
 have hvu:U64 ver:=by unfold U64;omega
 obtain⟨A,cp,hvs⟩:=hv.slice
 rw[recB_len _ _ _ _ hb]at hvs
 subst hvs
 have hno:(⟨(ep:Int),65535,ver⟩:Nce).ok:=⟨⟨by simp,by simp;omega⟩,⟨by simp,by simp⟩,hvu⟩
 have hrg:=fun W' (hq:Below w.heap.size w W')=>recget_ok p (.slice A 60 cp) ep ver b tag W' ⟨by omega,by omega⟩ hvu hb ht (hv.below_ hq)
 have hat2:=fun W' (hh:WldR ρ W' a W)=>at_ok a.p a.c W.cnt W' hh.2.2.2.2.2.2.1
 rw[hat]at hat2
 have hkey:=fun W' hh=>key_ok ρ a.p a.k W.kys ep W' hh hep
 have hkk:W.kys.key ep=keyOf W.kys.seed ep:=by unfold Kys.key;rw[if_pos hk]
 have hku:U2 (W.kys.key ep):=by rw[hkk];exact keyOf_u _ _ ⟨by omega,by omega⟩
 rw[<-hkk]at hop
 have hop2:=fun W' x (hh:WldR ρ W' a W) hx=>wopen_ok ρ a W W' HO (fun _=>True) (fun _=>True) (W.kys.key ep) ⟨ep,65535,ver⟩ (.slice none 0 0) [] x b tag hh hku hno ht (.inl ⟨rfl,rfl⟩) hx (by simp) (by rw[hb];omega)
 rw[hop]at hop2
 have hdk:decide (ep∈W.kys.es)=true:=decide_eq_true hk
 rw[hdk]at hkey
 obtain⟨K,hK⟩:∃K,K=W.kys.key ep:=⟨_,rfl⟩
 rw[<-hK]at hkey hop2
 obtain⟨ka,kb⟩:=K
 obtain⟨ta,tb⟩:=tag
 obtain⟨toa,tob⟩:=top
 obtain⟨e,he⟩:∃e:Int,e=ep:=⟨_,rfl⟩
 rw[<-he]at hrg hkey hop2
 unfold pv nv at hop2
 simp only[Option.isSome_some,Option.getD_some]at hop2 hkey hrg
 have e0:0<=e/\e<4294967296:=by omega
 obtain⟨z,hz⟩:∃z:Int,z=bt:=⟨_,rfl⟩
 rw[<-hz]at hbo hat2
 obtain⟨root,hroot⟩:∃r,r=rootB c e2 n2 (toa,tob):=⟨_,rfl⟩
 rw[<-hroot]at hop2
 obtain⟨w0,hw0⟩:∃w0,w0=w.alloc (.cells #[.int .u64 0,.int .u32 0,.int .i64 0,.int .u64 0,.int .u64 0] 139):=⟨_,rfl⟩
 have b4:Blk w0 w.heap.size 139 #[.int .u64 0,.int .u32 0,.int .i64 0,.int .u64 0,.int .u64 0]:=by rw[hw0];exact Blk.new w 139 _
 have q0:Below w.heap.size w w0:=by rw[hw0];exact(Below.refl _ _).alloc (Nat.le_refl _) _
 have hrg0:=hrg w0 q0
 have HR:=Lib.hid (And.intro h (And.intro q0 (And.intro b4 (And.intro hroot (And.intro hc (And.intro he2 (And.intro hn2 htop)))))))
 clear h hv hver hvu hno hrg hat hkk hku hop hdk hK he hz hroot hc he2 hn2 htop hk hep hbt hnn hb ht q0 b4
 go_enter Tryz.func98,Tryz.ntmps98
 go_wp2_with fail
 rw[<-hw0]
 clear hw0
 refine hrg0.mono ?_
 rintro e' w1 ⟨x,rfl,hx,q1⟩
 clear hrg0
 obtain⟨Ax,cx,hxs⟩:=hx.slice
 obtain⟨nb,hnb⟩:∃nb,nb=b.length:=⟨_,rfl⟩
 rw[<-hnb]at hxs
 subst hxs
 have H1:=Lib.hid (And.intro q1 (And.intro hx hnb))
 clear q1 hx hnb
 go_wp2_with fail
 obtain⟨q1,hx,hnb⟩:=H1.out
 obtain⟨h,q0,b4,_⟩:=HR.out
 obtain⟨w2,hw2⟩:∃w2,w2=(w1.alloc (.cells #[.int .u32 e,.int .u32 65535,.int .u64 ver] 99)).alloc (.cells #[.slice Ax nb cx,.int .u64 ta,.int .u64 tb] 157):=⟨_,rfl⟩
 rw[<-hw2]
 have b6:Blk w2 w1.heap.size 99 #[.int .u32 e,.int .u32 65535,.int .u64 ver]:=by rw[hw2];exact(Blk.new w1 99 _).alloc _
 have b7:Blk w2 (w1.heap.size+1) 157 #[.slice Ax nb cx,.int .u64 ta,.int .u64 tb]:=by
  have:=Blk.new (w1.alloc (.cells #[.int .u32 e,.int .u32 65535,.int .u64 ver] 99)) 157 #[.slice Ax nb cx,.int .u64 ta,.int .u64 tb]
  rw[World.size_alloc]at this
  rw[hw2];exact this
 have q2:Below w1.heap.size w1 w2:=by rw[hw2];exact((Below.refl _ _).alloc (Nat.le_refl _) _).alloc (by simp) _
 have hbw:Below w.heap.size w w2:=q0.trans ((q1.trans (q2.mono q1.size)).mono q0.size)
 have hx2:HasP (fun _=>True) w2 (.slice Ax nb cx) b:=hx.below_ q2
 have b42:=(b4.below_ q1).below_ q2
 have hw:=h.below_ hbw
 obtain⟨g6,hg6⟩:∃g,g=w1.heap.size:=⟨_,rfl⟩
 rw[<-hg6]at b6 b7 ⊢
 have hww:=hw.1
 have hb1:=b6
 have hwc:=hw
 have HB:=Lib.hid (And.intro hbw (And.intro hx2 (And.intro b42 (And.intro b7 b6))))
 have hk3d:=hw.drew.2.2.2.2.2.2.2.2.1
 have hk3a:=(hw.alloc (.cells #[.int .u64 0,.int .u64 0] 101)).drew.2.2.2.2.2.2.2.2.1
 clear hw2 hg6 b6 b7 q2 hbw hx2 b42 hw q1 hx hnb h q0 b4
 go_region_held3 (fun w'=>w'.cell? ⟨a.wl,5,none⟩=some (.pointer (some ⟨a.k,0,none⟩))/\w'.cell? ⟨g6,0,none⟩=some (.int .u32 e))
  (first|(with_reducible exact l2k hww hb1)|(with_reducible exact l2k hww.drew hb1.drew)|(with_reducible exact l2k (hww.alloc _) (hb1.alloc _))|(with_reducible exact l2k (hww.alloc _).drew (hb1.alloc _).drew)|(with_reducible exact l2k ((hww.far (p:=⟨w2.heap.size,0,none⟩) hx1 _).far (p:=⟨w2.heap.size,1,none⟩) hx1 _) ((hb1.far (p:=⟨w2.heap.size,0,none⟩) hx0 _).far (p:=⟨w2.heap.size,1,none⟩) hx0 _)))
  (first
   |(go_at_call 134;(with_reducible refine(hkey w2.drew hk3d).mono ?_);rintro e' w4 ⟨rfl,q4⟩;replace hb1:=hb1.drew.below_ q4;replace hww:=hww.drew.below_ q4;have r4:Below w2.heap.size w2 w4:=(Below.refl _ _).drew.trans q4)
   |(go_at_call 134;(with_reducible refine(hkey (w2.alloc (.cells #[.int .u64 0,.int .u64 0] 101)).drew hk3a).mono ?_);rintro e' w4 ⟨rfl,q4⟩;have hx0:g6≠w2.heap.size:=Nat.ne_of_lt hb1.lt;have hx1:a.wl≠w2.heap.size:=Nat.ne_of_lt hww.lt;replace hb1:=(hb1.alloc _).drew.below_ q4;replace hww:=(hww.alloc _).drew.below_ q4;have r4:Below w2.heap.size w2 w4:=((Below.refl _ _).alloc (Nat.le_refl _) (.cells #[.int .u64 0,.int .u64 0] 101)).drew.trans (q4.mono (by simp));have bX:=(Blk.new w2 101 #[.int .u64 0,.int .u64 0]).drew.below_ q4;have x0:=bX.cell_ 0 rfl;have x1:=bX.cell_ 1 rfl;have y0:=bX.frozen 0;have y1:=bX.frozen 1;have yl:=bX.lt)
   |fail)
 refine gen_world (F:=Vq w2 w4.heap.size ka kb) (by exact⟨r4.alloc r4.size _,Blk.new w4 101 _⟩) ?_
 obtain⟨bx,hbx⟩:∃bx,bx=w4.heap.size:=⟨_,rfl⟩
 rw[<-hbx]
 clear hbx
 rotate_left 1
 refine gen_world (F:=Vq w2 w2.heap.size ka kb) (by exact⟨below_only r4 (only_set2 w4 w2.heap.size 0 1 _ _) r4.size (Nat.le_refl _),(bX.set_to 0 (.int .u64 ka) (cs':=#[.int .u64 ka,.int .u64 0]) rfl).set_to 1 (.int .u64 kb) rfl⟩) ?_
 obtain⟨bx,hbx⟩:∃bx,bx=w2.heap.size:=⟨_,rfl⟩
 rw[<-hbx]
 clear hbx
 rotate_left 1
 all_goals
  clear hb1 hww hkey r4 hk3d hk3a
  intro W4 hP
  obtain⟨q5,bX5⟩:=hP
  obtain⟨hbw,hx2,b42,b7,b6⟩:=HB.out
  have hbw5:=hbw.trans (q5.mono hbw.size)
  have hw5:=HR.out.1.below_ hbw5
  have hx5:=hx2.below_ q5
  have b45:=b42.below_ q5
  have b75:=b7.below_ q5
  have b65:=b6.below_ q5
  have hww5:=hw5.1
  clear hbw hx2 b42 b7 b6 q5 hwc
  go_wp2_with fail
  go_region_held3 (fun w'=>w'.cell? ⟨a.wl,4,none⟩=some (.pointer (some ⟨a.c,0,none⟩))/\w'.cell? ⟨g6,0,none⟩=some (.int .u32 e)/\w'.cell? ⟨g6,1,none⟩=some (.int .u32 65535)/\w'.cell? ⟨g6,2,none⟩=some (.int .u64 ver))
   (first|(with_reducible exact l2b hww5 b65)|(with_reducible exact l2b hww5.drew b65.drew))
   (first
    |(go_at_call 135;(with_reducible refine(hbo _ _ _).mono ?_);rintro e' w6 ⟨rfl,q6⟩;replace hww5:=hww5.drew.below_ q6;replace b65:=b65.drew.below_ q6;replace hw5:=hw5.drew.below_ q6;replace hx5:=hx5.drew.below_ q6;replace b45:=b45.drew.below_ q6;replace b75:=b75.drew.below_ q6;replace bX5:=bX5.drew.below_ q6;replace hbw5:=hbw5.drew.trans (q6.mono (hbw5.drew).size))
    |(go_at_call 136;(with_reducible refine(hat2 _ hw5).mono ?_);rintro e' w7 ⟨rfl,rfl⟩)
    |fail)
  go_wp2_with fail
  go_region_held3 (fun w'=>w'.cell? ⟨a.wl,6,none⟩=some (.pointer (some ⟨a.l,0,none⟩))/\w'.cell? ⟨bx,0,none⟩=some (.int .u64 ka)/\w'.cell? ⟨bx,1,none⟩=some (.int .u64 kb)/\w'.cell? ⟨g6,0,none⟩=some (.int .u32 e)/\w'.cell? ⟨g6,1,none⟩=some (.int .u32 65535)/\w'.cell? ⟨g6,2,none⟩=some (.int .u64 ver)/\w'.cell? ⟨g6+1,0,none⟩=some (.slice Ax nb cx)/\w'.cell? ⟨g6+1,1,none⟩=some (.int .u64 ta)/\w'.cell? ⟨g6+1,2,none⟩=some (.int .u64 tb))
   (first|(with_reducible exact l2o hww5 b65 b75 bX5)|(with_reducible exact l2o hww5.drew b65.drew b75.drew bX5.drew))
   (first
    |(go_at_call 137;(with_reducible refine(hop2 _ _ hw5.drew hx5.drew).mono ?_);rintro e' w7 ⟨v7,rfl,o7,q7⟩;replace hww5:=hww5.drew.below_ q7;replace b65:=b65.drew.below_ q7;replace b75:=b75.drew.below_ q7;replace bX5:=bX5.drew.below_ q7;replace b45:=b45.drew.below_ q7;replace hbw5:=hbw5.drew.trans (q7.mono (hbw5.drew).size))
    |fail)
  obtain⟨nr,hnr⟩:∃nr,nr=root.length:=⟨_,rfl⟩
  obtain⟨A7,c7,hv7⟩:=o7.has.slice
  rw[<-hnr]at hv7
  subst hv7
  obtain⟨_,_,_,hroot,hc,he2,hn2,htop⟩:=HR.out
  have hrg:=rget_ok _ (.slice A7 nr c7) c e2 n2 (toa,tob) w7 hc he2 hn2 htop (hroot▸o7.has)
  simp only at hrg
  have HF:=Lib.hid (And.intro hbw5 b45)
  clear hnr o7 q7 hroot hc he2 hn2 htop hbw5 b45 hww5 b65 b75 bX5 hw5 hx5 hop2 hbo hat2
  go_wp2_with fail
  refine hrg.mono ?_
  rintro e' w8 ⟨rfl,q8⟩
  clear hrg
  obtain⟨hbw5,b45⟩:=HF.out
  have b48:=b45.below_ q8
  have d0:=b48.cell_ 0 rfl
  have d1:=b48.cell_ 1 rfl
  have d2:=b48.cell_ 2 rfl
  have d3:=b48.cell_ 3 rfl
  have d4:=b48.cell_ 4 rfl
  have f0:=b48.frozen 0
  have f1:=b48.frozen 1
  have f2:=b48.frozen 2
  have f3:=b48.frozen 3
  have f4:=b48.frozen 4
  have l4:=b48.lt
  have HG:=Lib.hid (And.intro (hbw5.trans (q8.mono hbw5.size)) b48)
  clear hbw5 b45 b48 q8
  go_wp2_with fail
  obtain⟨hq,b48⟩:=HG.out
  obtain⟨bf,hof⟩:=set5 b48 (.int .u64 c) (.int .u32 e2) (.int .i64 n2) (.int .u64 toa) (.int .u64 tob)
  exact ret_cell_tmp 4 139 5 (by rfl) w.heap.size 0 (by rfl) (.bool true) (by rfl) [.int .u64 c,.int .u32 e2,.int .i64 n2,.int .u64 toa,.int .u64 tob] _ bf.range Tryz.underlying139 rfl sz139 rfl ⟨rfl,below_only hq hof hq.size (Nat.le_refl _)⟩
end Go.Proofs.YtggmdjdflaglpaaGreat
namespace Go.Proofs.YtggmdjdflaglpaaGreat
open Go.RowKit Go.Proofs.YtggmdjdflaglpaaGreat.geo
set_option linter.unusedVariables false
def RecOk (W:Wld) (bytes:By) (c:Nat) (top:Two):Prop:=
 ∃(ep bt nn:Nat) (b:By) (tag:Two) (e2:Int),bytes=recB ep ((bt:Int)*4294967296+nn) b tag/\ep<4294967296/\bt<4294967296/\nn<=100/\b.length=32/\U2 tag/\ep∈W.kys.es/\W.cnt.at_=bt/\
  W.lk.opens (keyOf W.kys.seed ep) ⟨ep,65535,(bt:Int)*4294967296+nn⟩ [] b tag=some (rootB c e2 W.slots top)/\0<=e2/\e2<4294967296/\U2 top
theorem l3p {w:World}{wl sa:Nat}{x0 x1 x3 x4 x5 x6:Value}(b:Blk w wl 70 #[x0,x1,.pointer (some ⟨sa,0,none⟩),x3,x4,x5,x6]):w.cell? ⟨wl,2,none⟩=some (.pointer (some ⟨sa,0,none⟩)):=b.cell_ 2 rfl
theorem l4p {w:World}{wl g:Nat}{n:Int}{x1 x2 x3 x4 x5 x6 y0 y1 y2 y3 y4:Value}(b:Blk w wl 70 #[.int .i64 n,x1,x2,x3,x4,x5,x6]) (b8:Blk w g 139 #[y0,y1,y2,y3,y4]):
 w.cell? ⟨wl,0,none⟩=some (.int .i64 n)/\w.cell? ⟨g,0,none⟩=some y0/\w.cell? ⟨g,2,none⟩=some y2:=⟨b.cell_ 0 rfl,b8.cell_ 0 rfl,b8.cell_ 2 rfl⟩
set_option maxHeartbeats 16000000 in
set_option maxRecDepth 100000 in
theorem lgget_ok (HO:OpenOk) (ρ:Rl) (a:Ads) (W:Wld) (c:Nat) (top:Two) (w:World) (h:WldR ρ w a W) (hfit:W.fit 700000) (hg:W.pow.gone=false) (hc:c<=800000) (hr:RecOk W (W.sbytes (roff W c) 60) c top):
 Calls Tryz.prog 63 #[.pointer (some ⟨a.wl,0,none⟩),.int .u64 c] w fun e w'=>∃e2:Int,e=.returned (.tuple #[.agg #[.int .u64 c,.int .u32 e2,.int .i64 W.slots,.int .u64 top.1,.int .u64 top.2],.int .i64 0])/\Below w.heap.size w w':=by
 obtain⟨ep,bt,nn,b,tag,e2,hrb,hep,hbt,hnn,hb,htg,hes,hat,hop,he0,he1,htop⟩:=hr
 have hV:=hfit.geo
 have hpl:=fun W' hh=>place_ok ρ a W c W' hh hV (by omega)
 have hrd:∀W',WldR ρ W' a W->Calls Tryz.prog 96 #[.pointer (some ⟨a.s,0,none⟩),.int .i64 ((W.slots*160+c%2*60:Nat):Int),.int .i64 60] W' fun e w'=>∃v,e=.returned (.tuple #[v,.bool true])/\HasP (W'.heap.size<=·) w' v (W.sbytes (W.slots*160+c%2*60) 60)/\Below W'.heap.size W' w':=fun W' hh=>wsread_on ρ a W W' (W.slots*160+c%2*60) 60 hh (by omega) (by rw[hfit.size];omega) (Nat.le_trans hfit.ssd (by omega)) hg
 have hrb':W.sbytes (W.slots*160+c%2*60) 60=recB ep ((bt:Int)*4294967296+nn) b tag:=hrb
 rw[hrb']at hrd
 have hopn:=fun p v W' hh hv=>opened_ok HO ρ p a W v ep bt nn b tag c e2 W.slots top W' hh hv hep hbt hnn hb htg hes hat hop ⟨by omega,by omega⟩ ⟨he0,he1⟩ hV htop
 have hrl:=recB_len ep ((bt:Int)*4294967296+nn) b tag hb
 obtain⟨R,hR⟩:∃R,R=recB ep ((bt:Int)*4294967296+nn) b tag:=⟨_,rfl⟩
 rw[<-hR]at hrd hopn hrl
 obtain⟨toa,tob⟩:=top
 obtain⟨n,hn⟩:∃n:Int,n=W.slots:=⟨_,rfl⟩
 rw[<-hn]at hopn
 simp only at hopn ⊢
 rw[<-hn]
 obtain⟨C,hC⟩:∃C:Int,C=c:=⟨_,rfl⟩
 rw[<-hC]at hpl hopn
 rw[<-hC]
 obtain⟨off,hoff⟩:∃off:Int,off=((W.slots*160+c%2*60:Nat):Int):=⟨_,rfl⟩
 rw[<-hoff]at hpl hrd
 have hC0:0<=C/\C<18446744073709551616:=by omega
 obtain⟨w0,hw0⟩:∃w0,w0=w.alloc (.cells #[.int .u64 0,.int .u32 0,.int .i64 0,.int .u64 0,.int .u64 0] 139):=⟨_,rfl⟩
 have b4:Blk w0 w.heap.size 139 #[.int .u64 0,.int .u32 0,.int .i64 0,.int .u64 0,.int .u64 0]:=by rw[hw0];exact Blk.new w 139 _
 have q0:Below w.heap.size w w0:=by rw[hw0];exact(Below.refl _ _).alloc (Nat.le_refl _) _
 have h0:=h.below_ q0
 have hww:=h0.1
 have hq:=q0
 have HN:=Lib.hid (And.intro hn hrl)
 have HL:=Lib.hid h
 have hpl':=hpl
 clear hR hrb hrb' hep hbt hnn hb htg hes hat hop he0 he1 htop hoff hC hV hn q0 hrl h hfit hpl'
 go_enter Tryz.func63,Tryz.ntmps63
 go_wp2_with fail
 rw[<-hw0]
 clear hw0
 go_region_held3 (fun w'=>w'.cell? ⟨a.wl,2,none⟩=some (.pointer (some ⟨a.s,0,none⟩)))
  (first|(with_reducible exact l3p hww)|(with_reducible exact l3p hww.drew))
  (first
   |(go_at_call 97;(with_reducible refine(hpl _ h0.drew).mono ?_);rintro e' w6 ⟨rfl,q6⟩;replace hww:=hww.drew.below_ q6;replace h0:=h0.drew.below_ q6;replace b4:=b4.drew.below_ q6;replace hq:=hq.drew.trans (q6.mono (hq.drew).size))
   |(go_at_call 96;(with_reducible refine(hrd _ h0).mono ?_);rintro e' w7 ⟨v7,rfl,o7,q7⟩;replace hww:=hww.below_ q7;replace h0:=h0.below_ q7;replace b4:=b4.below_ q7;replace hq:=hq.trans (q7.mono hq.size))
   |fail)
 obtain⟨A7,c7,hv7⟩:=o7.slice
 rw[HN.out.2]at hv7
 subst hv7
 have hopn7:=hopn _ _ w7 h0 o7
 clear hpl hrd hopn o7 q7 q6
 go_wp2_with fail
 refine hopn7.mono ?_
 rintro e' w8 ⟨rfl,q8⟩
 clear hopn7
 replace hq:=hq.trans (q8.mono hq.size)
 replace b4:=b4.below_ q8
 replace h0:=h0.below_ q8
 clear hww q8
 have HQ:=Lib.hid (And.intro hq (And.intro b4 h0))
 clear hq b4 h0
 go_wp2_with fail
 obtain⟨hq,b4,h0⟩:=HQ.out
 obtain⟨w9,hw9⟩:∃w9,w9=w8.alloc (.cells #[.int .u64 C,.int .u32 e2,.int .i64 n,.int .u64 toa,.int .u64 tob] 139):=⟨_,rfl⟩
 rw[<-hw9]
 have q9:Below w8.heap.size w8 w9:=by rw[hw9];exact(Below.refl _ _).alloc (Nat.le_refl _) _
 have b8:Blk w9 w8.heap.size 139 #[.int .u64 C,.int .u32 e2,.int .i64 n,.int .u64 toa,.int .u64 tob]:=by rw[hw9];exact Blk.new w8 139 _
 have hww:=(h0.below_ q9).1
 rw[<-HN.out.1]at hww
 have b49:=b4.below_ q9
 have hq9:=hq.trans (q9.mono hq.size)
 have HF:=Lib.hid (And.intro hq9 (And.intro b49 b8))
 obtain⟨g8,hg8⟩:∃g,g=w8.heap.size:=⟨_,rfl⟩
 rw[<-hg8]at b8 HF ⊢
 clear hw9 q9 hq b4 h0 b49 hq9 hg8
 go_region_held3 (fun w'=>w'.cell? ⟨a.wl,0,none⟩=some (.int .i64 n)/\w'.cell? ⟨g8,0,none⟩=some (.int .u64 C)/\w'.cell? ⟨g8,2,none⟩=some (.int .i64 n))
  (first|(with_reducible exact l4p hww b8)|(with_reducible exact l4p hww.drew b8.drew))
  (fail)
 obtain⟨hq9,b49,b89⟩:=HF.out
 have c0:=b89.cell_ 0 rfl
 have c1:=b89.cell_ 1 rfl
 have c2:=b89.cell_ 2 rfl
 have c3:=b89.cell_ 3 rfl
 have c4:=b89.cell_ 4 rfl
 have d0:=b49.cell_ 0 rfl
 have d1:=b49.cell_ 1 rfl
 have d2:=b49.cell_ 2 rfl
 have d3:=b49.cell_ 3 rfl
 have d4:=b49.cell_ 4 rfl
 have f0:=b49.frozen 0
 have f1:=b49.frozen 1
 have f2:=b49.frozen 2
 have f3:=b49.frozen 3
 have f4:=b49.frozen 4
 have l4:=b49.lt
 have l8:=b89.lt
 clear hq9 b49 b89 hww b8
 go_wp2_with fail
 obtain⟨hq9,b49,b89⟩:=HF.out
 obtain⟨bf,hof⟩:=set5 b49.drew (.int .u64 C) (.int .u32 e2) (.int .i64 n) (.int .u64 toa) (.int .u64 tob)
 exact ret_cell_tmp 4 139 5 (by rfl) w.heap.size 0 (by rfl) (.int .i64 0) (by rfl) [.int .u64 C,.int .u32 e2,.int .i64 n,.int .u64 toa,.int .u64 tob] _ bf.range Tryz.underlying139 rfl sz139 rfl ⟨e2,rfl,below_only hq9.drew hof hq9.size (Nat.le_refl _)⟩
end Go.Proofs.YtggmdjdflaglpaaGreat
namespace Go.Proofs.YtggmdjdflaglpaaGreat
open Go.RowKit Go.Proofs.YtggmdjdflaglpaaGreat.geo
set_option linter.unusedVariables false
def cfinish (C:Cch):Int×Cch:=
 if C.W.kys.two=false then(0,C)else if(cempty C).1≠0 then cempty C else cforget (cempty C).2
def CcX (ρ:Rl) (a:Ads) (cc m:Nat) (R:Int×Cch) (w:World) (e:Ending) (w':World):Prop:=
 e=.returned (.int .i64 R.1)/\∃ρ' ag',CchR ρ' w' a cc m ag' R.2/\Ste rtC ρ w ρ' w'
set_option maxHeartbeats 4000000 in
set_option maxRecDepth 100000 in
theorem finish_ok (HO:OpenOk) (HS:SumOk) (HT:ShutOk) (ρ:Rl) (a:Ads) (cc m ag:Nat) (C:Cch) (k t:Nat) (w:World) (hf:Fresh ρ w) (h:CchR ρ w a cc m ag C) (hC:Cok C k t) (hk6:k<=400000):
 Calls Tryz.prog 43 #[.pointer (some ⟨cc,0,none⟩)] w (CcX ρ a cc m (cfinish C) w):=by
 have hR:cfinish C=if C.W.kys.two=false then(0,C)else if(cempty C).1≠0 then cempty C else cforget (cempty C).2:=rfl
 obtain⟨R,hRR⟩:∃R,R=cfinish C:=⟨_,rfl⟩
 rw[<-hRR]at hR
 rw[<-hRR]
 have hep:=epochs_ok ρ a.p a.k C.W.kys w h.wld.2.2.2.2.2.2.2.2.1
 have hes:=C.W.kys.es_len
 have h':=h
 obtain⟨vn,vw,hb,_,hw,_⟩:=h'
 have c0:=hb.cell_ 0 rfl
 have c5:=hw.1.cell_ 5 rfl
 have lc:=hb.lt
 have lw:=hw.1.lt
 cases htw:C.W.kys.two with
 |false=>
  rw[if_pos htw]at hR
  rw[htw,if_neg (by simp)]at hes
  rw[hes]at hep
  have H:=Lib.hid (And.intro h hR)
  clear h hC hR hRR hb hw hes htw
  go_enter Tryz.func43,Tryz.ntmps43
  go_wp2_with fail
  refine hep.mono ?_
  rintro e w1 ⟨v,rfl,ho,q⟩
  clear hep
  obtain⟨A,c,rfl⟩:=row_form ho
  have HQ:=Lib.hid q
  clear ho q
  go_wp2_with fail
  go_ret
  obtain⟨h,hR⟩:=H.out
  rw[hR]
  exact⟨rfl,ρ,ag,h.below_ HQ.out,Ste.of_below HQ.out hf⟩
 |true=>
  rw[if_neg (by rw[htw];simp)]at hR
  rw[htw,if_pos rfl]at hes
  rw[hes]at hep
  have hCe:=hC.empty
  have hen:=cempty_now C
  have hem:=fun w' h1 h2=>empty_ok HO ρ a cc m ag C k t w' h1 h2 hC (by omega)
  obtain⟨E,hE⟩:∃E,E=cempty C:=⟨_,rfl⟩
  rw[<-hE]at hR hCe hen hem
  obtain⟨ee,eC⟩:=E
  simp only at hR hCe hen hem
  have H:=Lib.hid (And.intro h (And.intro hR (And.intro hCe (And.intro hen htw))))
  clear h hC hR hRR hb hw hes htw hCe hen hE
  go_enter Tryz.func43,Tryz.ntmps43
  go_wp2_with fail
  refine hep.mono ?_
  rintro e w1 ⟨v,rfl,ho,q⟩
  clear hep
  obtain⟨A,c,rfl⟩:=row_form ho
  have hf1:Fresh ρ w1:=fun i hi=>hf i (Nat.le_trans q.size hi)
  have hem1:=hem w1 hf1 (H.out.1.below_ q)
  have HQ:=Lib.hid q
  clear ho q hem
  go_wp2_with fail
  refine hem1.mono ?_
  rintro e w2 ⟨rfl,ρ2,ag2,hC2,s2⟩
  clear hem1
  obtain⟨h,hR,hCe,hen,htw⟩:=H.out
  have st2:Ste rtC ρ w ρ2 w2:=(Ste.of_below HQ.out hf).trans s2
  by_cases he:ee=0
  ·subst he
   simp only[ne_eq,not_true_eq_false,if_false]at hR
   have hfo:=forget_ok HS HT ρ2 a cc m ag2 eC (k+33) t w2 s2.fresh hC2 hCe (by omega) (by rw[hen.2.2.1];exact htw)
   rw[<-hR]at hfo
   have HS2:=Lib.hid st2
   clear h hR hCe hen htw hC2 s2 st2
   go_wp2_with fail
   refine hfo.mono ?_
   rintro e w3 ⟨rfl,ρ3,hC3,s3⟩
   have HV:=Lib.hid (And.intro hC3 s3)
   clear hfo hC3 s3
   go_wp2_with fail
   go_ret
   exact⟨rfl,ρ3,ag2,HV.out.1,HS2.out.trans HV.out.2⟩
  ·have t1:(ee !=0)=true:=by simpa using he
   rw[if_pos he]at hR
   have HV:=Lib.hid (And.intro hC2 (And.intro st2 hR))
   clear h hR hCe hen htw hC2 s2 st2 he
   go_wp2_with fail
   go_ret
   obtain⟨hC2,st2,hR⟩:=HV.out
   rw[hR]
   exact⟨rfl,ρ2,ag2,hC2,st2⟩
end Go.Proofs.YtggmdjdflaglpaaGreat
namespace Go.Proofs.YtggmdjdflaglpaaGreat
open Go.RowKit Go.Proofs.YtggmdjdflaglpaaGreat.geo
set_option linter.unusedVariables false
theorem lreal_ok (w:World):Calls Tryz.prog 28 #[] w fun e w'=>e=.returned (.pointer (some ⟨w.heap.size,0,none⟩))/\Blk w' w.heap.size 130 rcells/\Below w.heap.size w w':=by
 have hmf:∀(fn:Fn) (first cap:Array Value) (w:World),(Instr.makeFunc fn first cap).run Tryz.prog w=.ok (.func fn first cap) w:=fun _ _ _ _=>rfl
 go_enter Tryz.func28,Tryz.ntmps28
 go_wp2_with fail
 go_ret
 exact⟨rfl,Blk.new w 130 _,(Below.refl _ _).alloc (Nat.le_refl _) _⟩
def LkNew (i:Bool):Lk:=if i then .ideal ⟨[],[],0⟩else .real
def newW (n seed:Nat) (i:Bool):Wld:=⟨n,⟨false,false,0⟩,⟨List.replicate (n*160+120) 0,[],0⟩,⟨fun _=>List.replicate 32 0,[],false,0⟩,⟨0,0,0⟩,⟨seed,1,false⟩,LkNew i⟩
abbrev rtN:Nat->Prop:=fun _=>False
theorem Ste.none {T:Nat->Prop}{ρ ρ':Rl}{w w':World}(h:Ste rtN ρ w ρ' w'):Ste T ρ w ρ' w':=h.mono (fun r e=>e.elim)
theorem SsdR.none {ρ ρ':Rl}{w w':World}{p s:Nat}{S:Ssd}(h:SsdR ρ w p s S) (hs:Ste rtN ρ w ρ' w'):SsdR ρ' w' p s S:=h.keep hs.size (fun b hb _=>⟨hs.ch.keep b hb id,hs.old b hb⟩)
theorem DskR.none {ρ ρ':Rl}{w w':World}{p s:Nat}{S:Dsk}(h:DskR ρ w p s S) (hs:Ste rtN ρ w ρ' w'):DskR ρ' w' p s S:=h.keep hs.size (fun b hb _=>⟨hs.ch.keep b hb id,hs.old b hb⟩)
theorem LkR.none {ρ ρ':Rl}{w w':World}{l:Nat}{L:Lk}(h:LkR ρ w l L) (hs:Ste rtN ρ w ρ' w'):LkR ρ' w' l L:=h.keep hs.size (fun b hb _=>⟨hs.ch.keep b hb id,hs.old b hb⟩)
theorem KysR.none {ρ ρ':Rl}{w w':World}{p k:Nat}{K:Kys}(h:KysR ρ w p k K) (hs:Ste rtN ρ w ρ' w'):KysR ρ' w' p k K:=h.keep hs.size (fun b hb _=>⟨hs.ch.keep b hb id,hs.old b hb⟩)
theorem ste_nrl {ρ:Rl}{w w':World}(hb:Below w.heap.size w w') (hf:Fresh ρ w) (hs:w'.heap.size=w.heap.size+33):Ste rtN ρ w (nrl ρ w.heap.size) w':=
 ⟨Ch.of_below hb,fun i hi=>by unfold nrl;rw[if_neg (by omega),if_neg (by omega)],fun i hi=>by unfold nrl;rw[if_neg (by omega),if_neg (by omega)];exact hf i (by omega)⟩
theorem PowR.none {ρ ρ':Rl}{w w':World}{p:Nat}{P:Pow}(h:PowR w p P) (hs:Ste rtN ρ w ρ' w'):PowR w' p P:=h.keep (hs.ch.keep p h.lt id)
theorem Blk.none {ρ ρ':Rl}{w w':World}{g t:Nat}{cs:Array Value}(h:Blk w g t cs) (hs:Ste rtN ρ w ρ' w'):Blk w' g t cs:=(hs.ch.keep g h.lt id).trans h
theorem CntR.none {ρ ρ':Rl}{w w':World}{p c:Nat}{C:Cnt}(h:CntR w p c C) (hs:Ste rtN ρ w ρ' w'):CntR w' p c C:=Blk.none h hs
theorem CntR.lt_ {w:World}{p c:Nat}{C:Cnt}(h:CntR w p c C):c<w.heap.size:=Blk.lt h
theorem s1w {w:World}{g n:Nat}(b:Blk w g 62 #[.int .i64 n]):w.cell? ⟨g,0,none⟩=some (.int .i64 n):=b.cell_ 0 rfl
theorem WldR.made {ρ4 ρ6:Rl}{w4 w6 w7 w8 w9:World}{p l s n N seed:Nat}{L:Lk}(hP:PowR w4 p ⟨false,false,0⟩) (hp:ρ4 p=rPow) (hL:LkR ρ4 w4 l L) (st:Ste rtN ρ4 w4 ρ6 w6)
 (hS:SsdR ρ6 w6 p s ⟨List.replicate N 0,[],0⟩) (hN:N=n*160+120) (hD:DskR (nrl ρ6 w6.heap.size) w7 p w6.heap.size ⟨fun _=>List.replicate 32 0,[],false,0⟩) (sD:Ste rtN ρ6 w6 (nrl ρ6 w6.heap.size) w7)
 (hC:CntR w8 p w7.heap.size ⟨0,0,0⟩) (q8:Below w7.heap.size w7 w8) (l8:w7.heap.size<w8.heap.size)
 (hK:∀ρ:Rl,KysR ((ρ.set w8.heap.size rEpo).set (w8.heap.size+1) rKys) w9 p (w8.heap.size+1) ⟨seed,1,false⟩) (q9:Below w8.heap.size w8 w9) (l9:w9.heap.size=w8.heap.size+2):
 ∃ρ' a,a.wl=w9.heap.size/\WldR ρ' (w9.alloc (.cells #[.int .i64 n,.pointer (some ⟨p,0,none⟩),.pointer (some ⟨s,0,none⟩),.pointer (some ⟨w6.heap.size,0,none⟩),.pointer (some ⟨w7.heap.size,0,none⟩),.pointer (some ⟨w8.heap.size+1,0,none⟩),.pointer (some ⟨l,0,none⟩)] 70)) a ⟨n,⟨false,false,0⟩,⟨List.replicate (n*160+120) 0,[],0⟩,⟨fun _=>List.replicate 32 0,[],false,0⟩,⟨0,0,0⟩,⟨seed,1,false⟩,L⟩/\
  Ste rtN ρ4 w4 ρ' (w9.alloc (.cells #[.int .i64 n,.pointer (some ⟨p,0,none⟩),.pointer (some ⟨s,0,none⟩),.pointer (some ⟨w6.heap.size,0,none⟩),.pointer (some ⟨w7.heap.size,0,none⟩),.pointer (some ⟨w8.heap.size+1,0,none⟩),.pointer (some ⟨l,0,none⟩)] 70)):=by
 subst hN
 have s7:Ste rtN (nrl ρ6 w6.heap.size) w7 ((nrl ρ6 w6.heap.size).set w7.heap.size rCnt) w8:=(Ste.of_below q8 sD.fresh).label (Nat.le_refl _) l8
 have s8:Ste rtN ((nrl ρ6 w6.heap.size).set w7.heap.size rCnt) w8 ((((nrl ρ6 w6.heap.size).set w7.heap.size rCnt).set w8.heap.size rEpo).set (w8.heap.size+1) rKys) w9:=((Ste.of_below q9 s7.fresh).label (Nat.le_refl _) (by omega)).label (by omega) (by omega)
 obtain⟨cs,hcs⟩:∃cs:Array Value,cs=#[.int .i64 n,.pointer (some ⟨p,0,none⟩),.pointer (some ⟨s,0,none⟩),.pointer (some ⟨w6.heap.size,0,none⟩),.pointer (some ⟨w7.heap.size,0,none⟩),.pointer (some ⟨w8.heap.size+1,0,none⟩),.pointer (some ⟨l,0,none⟩)]:=⟨_,rfl⟩
 rw[<-hcs]
 have s9:Ste rtN ((((nrl ρ6 w6.heap.size).set w7.heap.size rCnt).set w8.heap.size rEpo).set (w8.heap.size+1) rKys) w9 (((((nrl ρ6 w6.heap.size).set w7.heap.size rCnt).set w8.heap.size rEpo).set (w8.heap.size+1) rKys).set w9.heap.size rWld) (w9.alloc (.cells cs 70)):=
  (Ste.of_below ((Below.refl _ _).alloc (Nat.le_refl _) _) s8.fresh).label (Nat.le_refl _) (by simp)
 refine⟨_,⟨w9.heap.size,p,s,w6.heap.size,w7.heap.size,w8.heap.size+1,l⟩,rfl,⟨?_,Rl.set_same _ _ _,?_,?_,?_,?_,?_,?_,?_,?_⟩,(((st.trans sD).trans s7).trans s8).trans s9⟩
 ·rw[hcs];exact Blk.new w9 70 _
 ·exact((((hP.none st).none sD).none s7).none s8).none s9
 ·exact((s9.old p (Nat.lt_of_lt_of_le hP.lt (((st.trans sD).trans s7).trans s8).size)).trans ((((st.trans sD).trans s7).trans s8).old p hP.lt)).trans hp
 ·exact(((hS.none sD).none s7).none s8).none s9
 ·exact((hD.none s7).none s8).none s9
 ·exact(hC.none s8).none s9
 ·have h1:w7.heap.size<w9.heap.size:=by omega
  exact((s9.old _ h1).trans (s8.old _ l8)).trans (Rl.set_same _ _ _)
 ·exact(hK _).none s9
 ·exact((((hL.none st).none sD).none s7).none s8).none s9
set_option maxHeartbeats 8000000 in
set_option maxRecDepth 100000 in
theorem wnew_ok (n seed:Nat) (i:Bool) (w:World) (ρ:Rl) (hf:Fresh ρ w) (hV:V n) (hsd:seed<18446744073709551616):
 Calls Tryz.prog 15 #[.int .i64 n,.int .u64 seed,.bool i] w fun e w'=>∃wl,e=.returned (.tuple #[.pointer (some ⟨wl,0,none⟩),.int .i64 0])/\∃ρ' a,a.wl=wl/\WldR ρ' w' a (newW n seed i)/\Ste rtN ρ w ρ' w':=by
 have hn:4<=n/\n<=16:=by unfold V at hV;omega
 have his:=fun W=>is_yes (n:Int) W hV
 have hsz:=fun W=>geo.size_ok (n:Int) W hV
 have H:=Lib.hid hV
 clear hV
 cases i with
 |true=>
  go_enter Tryz.func15,Tryz.ntmps15
  go_wp2_with fail
  refine(his _).mono ?_
  rintro e w1 ⟨rfl,rfl⟩
  go_wp2_with fail
  refine(pnew_ok _).mono ?_
  rintro e w1 ⟨rfl,hP,q1⟩
  go_wp2_with fail
  refine(lreal_ok _).mono ?_
  rintro e w3 ⟨rfl,hR,q3⟩
  have hPl:=hP.lt
  have g8:=(Blk.new w1 62 #[.int .i64 n]).below_ q3
  have qa:Below w.heap.size w w3:=(q1.alloc q1.size (.cells #[.int .i64 n] 62)).trans (q3.mono (q1.alloc q1.size (.cells #[.int .i64 n] 62)).size)
  have hP3:PowR w3 w.heap.size ⟨false,false,0⟩:=(hP.keep (Below.heap_alloc w1 _ _ hPl)).keep (q3.block _ (by simp;omega))
  have st3:Ste rtN ρ w (ρ.set w.heap.size rPow) w3:=(Ste.of_below qa hf).label (Nat.le_refl _) hP3.lt
  obtain⟨ρ3,hρ3⟩:∃ρ3,ρ3=ρ.set w.heap.size rPow:=⟨_,rfl⟩
  have hp3:ρ3 w.heap.size=rPow:=by rw[hρ3];exact Rl.set_same _ _ _
  rw[<-hρ3]at st3
  obtain⟨p,hp⟩:∃p,p=w.heap.size:=⟨_,rfl⟩
  rw[<-hp]at hP3 hp3
  obtain⟨gb,hgb⟩:∃gb,gb=w1.heap.size:=⟨_,rfl⟩
  rw[<-hgb]at g8
  have hli:=lideal_lk w3 ρ3 st3.fresh
  go_wp2_with fail
  refine hli.mono ?_
  rintro e w4 ⟨rfl,hL4,l4,q4⟩
  clear hli
  go_wp2_with fail
  have st4a:Ste rtN ρ3 w3 (((ρ3.set w3.heap.size rSum).set (w3.heap.size+1) rOrc).set (w3.heap.size+2) rLck) w4:=(((Ste.of_below q4 st3.fresh).label (Nat.le_refl _) (by omega)).label (by omega) (by omega)).label (by omega) (by omega)
  replace g8:=g8.none st4a
  have hP4:=hP3.none st4a
  have hp4:=(st4a.old _ hP3.lt).trans hp3
  have st4:=st3.trans st4a
  obtain⟨ρ4,hρ4⟩:∃ρ4,ρ4=((ρ3.set w3.heap.size rSum).set (w3.heap.size+1) rOrc).set (w3.heap.size+2) rLck:=⟨_,rfl⟩
  rw[<-hρ4]at hL4 hp4 st4
  clear st4a hρ4 q4 l4 st3 hp3 hP3
  have hkn:=fun W=>knew_ok p seed W
  obtain⟨N,hN⟩:∃N,N=n*160+120:=⟨_,rfl⟩
  have e160:(n:Int)*160+120=(N:Int):=by omega
  rw[e160]at hsz
  have hN0:0<N:=by omega
  have hN1:N<=65536:=by omega
  have HN:=Lib.hid hN
  have c8:=g8.cell_ 0 rfl
  have l8:=g8.lt
  clear hPl hP hR qa q1 q3 hρ3 hN e160
  clear his
  rw[<-hp,<-hgb]
  clear hp hgb
  have g80:=g8
  go_region_held3 (fun w'=>w'.cell? ⟨gb,0,none⟩=some (.int .i64 n))
   (first|(with_reducible exact s1w g80)|(with_reducible exact s1w (g80.alloc _))|(with_reducible exact s1w g80.drew))
   (first
    |(go_at_call 31;(with_reducible refine(hsz w4.drew).mono ?_);rintro e w5 ⟨rfl,q5⟩;have r5:Below w4.heap.size w4 w5:=(Below.refl _ _).drew.trans q5;replace g80:=g80.below_ r5;have s5:Ste rtN ρ4 w4 ρ4 w5:=Ste.of_below r5 st4.fresh)
    |(go_at_call 30;have c6:=snew_ok p N w5 hN0 hN1 ρ4 s5.fresh;(with_reducible refine c6.mono ?_);clear c6;rintro e w6 ⟨rfl,hS,l6,q6⟩;replace g80:=g80.below_ q6;have s6:Ste rtN ρ4 w5 ((ρ4.set w5.heap.size rLas).set (w5.heap.size+1) rSsd) w6:=((Ste.of_below q6 s5.fresh).label (Nat.le_refl _) (by omega)).label (by omega) (by omega);clear l6)
    |(go_at_call 32;have c7:=dnew_ok p w6 ((ρ4.set w5.heap.size rLas).set (w5.heap.size+1) rSsd) s6.fresh;(with_reducible refine c7.mono ?_);clear c7;rintro e w7 ⟨rfl,hD,l7,q7⟩;replace g80:=g80.below_ q7;have s7:=ste_nrl q7 s6.fresh l7;clear l7)
    |(go_at_call 33;(with_reducible refine(cnew_ok p w7).mono ?_);rintro e w8 ⟨rfl,hC,q8⟩;have hCl:=Lib.hid hC.lt_;replace g80:=g80.below_ q8)
    |(go_at_call 34;(with_reducible refine(hkn w8).mono ?_);rintro e w9 ⟨rfl,hK,l9,q9⟩;have L9:=Lib.hid l9;clear l9;replace g80:=g80.below_ q9)
    |fail)
  have hfin:=WldR.made hP4 hp4 hL4 (s5.trans s6) hS HN.out hD s7 hC q8 hCl.out (fun ρ=>hK hsd ρ) q9 L9.out
  have HF:=Lib.hid hfin
  clear hfin hP4 hp4 hL4 s5 s6 hS hD s7 hC hK g8 g80 r5 q6 q7 q8 q9 L9 hCl c8 l8
  go_wp2_with fail
  go_ret2
  obtain⟨ρ',a,ha,hw,hs⟩:=HF.out
  exact⟨_,rfl,ρ',a,ha,hw,st4.trans hs⟩
 |false=>
  go_enter Tryz.func15,Tryz.ntmps15
  go_wp2_with fail
  refine(his _).mono ?_
  rintro e w1 ⟨rfl,rfl⟩
  go_wp2_with fail
  refine(pnew_ok _).mono ?_
  rintro e w1 ⟨rfl,hP,q1⟩
  go_wp2_with fail
  refine(lreal_ok _).mono ?_
  rintro e w3 ⟨rfl,hR,q3⟩
  have hPl:=hP.lt
  have g8:=(Blk.new w1 62 #[.int .i64 n]).below_ q3
  have qa:Below w.heap.size w w3:=(q1.alloc q1.size (.cells #[.int .i64 n] 62)).trans (q3.mono (q1.alloc q1.size (.cells #[.int .i64 n] 62)).size)
  have hP3:PowR w3 w.heap.size ⟨false,false,0⟩:=(hP.keep (Below.heap_alloc w1 _ _ hPl)).keep (q3.block _ (by simp;omega))
  have st3:Ste rtN ρ w (ρ.set w.heap.size rPow) w3:=(Ste.of_below qa hf).label (Nat.le_refl _) hP3.lt
  obtain⟨ρ3,hρ3⟩:∃ρ3,ρ3=ρ.set w.heap.size rPow:=⟨_,rfl⟩
  have hp3:ρ3 w.heap.size=rPow:=by rw[hρ3];exact Rl.set_same _ _ _
  rw[<-hρ3]at st3
  obtain⟨p,hp⟩:∃p,p=w.heap.size:=⟨_,rfl⟩
  rw[<-hp]at hP3 hp3
  obtain⟨gb,hgb⟩:∃gb,gb=w1.heap.size:=⟨_,rfl⟩
  rw[<-hgb]at g8
  go_wp2_with fail
  obtain⟨gl,hgl⟩:∃gl,gl=w3.heap.size:=⟨_,rfl⟩
  have hzl:ρ3 (w1.heap.size+1)=0:=by
   rw[hρ3,Rl.set_other _ (by have:=q1.size;omega)]
   exact hf _ (by have:=q1.size;omega)
  have hRl:Blk w3 (w1.heap.size+1) 130 rcells:=by simpa using hR
  have st4:Ste rtN ρ w (ρ3.set (w1.heap.size+1) rLck) w3:=st3.label (by have:=q1.size;omega) hRl.lt
  have hL4:LkR (ρ3.set (w1.heap.size+1) rLck) w3 (w1.heap.size+1) .real:=⟨hRl,Rl.set_same _ _ _⟩
  have hp4:(ρ3.set (w1.heap.size+1) rLck) p=rPow:=by rw[Rl.set_other _ (by rw[hp];have:=q1.size;omega)];exact hp3
  have hP4:=hP3
  obtain⟨ρ4,hρ4⟩:∃ρ4,ρ4=ρ3.set (w1.heap.size+1) rLck:=⟨_,rfl⟩
  rw[<-hρ4]at hL4 hp4 st4
  obtain⟨w4,hw4⟩:∃w4,w4=w3:=⟨_,rfl⟩
  subst hw4
  rw[<-hgb]at hL4
  clear hρ4 st3 hp3 hP3 hgl hzl hRl
  have hkn:=fun W=>knew_ok p seed W
  obtain⟨N,hN⟩:∃N,N=n*160+120:=⟨_,rfl⟩
  have e160:(n:Int)*160+120=(N:Int):=by omega
  rw[e160]at hsz
  have hN0:0<N:=by omega
  have hN1:N<=65536:=by omega
  have HN:=Lib.hid hN
  have c8:=g8.cell_ 0 rfl
  have l8:=g8.lt
  clear hPl hP hR qa q1 q3 hρ3 hN e160
  clear his
  rw[<-hp,<-hgb]
  clear hp hgb
  have g80:=g8
  go_region_held3 (fun w'=>w'.cell? ⟨gb,0,none⟩=some (.int .i64 n))
   (first|(with_reducible exact s1w g80)|(with_reducible exact s1w (g80.alloc _))|(with_reducible exact s1w g80.drew))
   (first
    |(go_at_call 31;(with_reducible refine(hsz w4.drew).mono ?_);rintro e w5 ⟨rfl,q5⟩;have r5:Below w4.heap.size w4 w5:=(Below.refl _ _).drew.trans q5;replace g80:=g80.below_ r5;have s5:Ste rtN ρ4 w4 ρ4 w5:=Ste.of_below r5 st4.fresh)
    |(go_at_call 30;have c6:=snew_ok p N w5 hN0 hN1 ρ4 s5.fresh;(with_reducible refine c6.mono ?_);clear c6;rintro e w6 ⟨rfl,hS,l6,q6⟩;replace g80:=g80.below_ q6;have s6:Ste rtN ρ4 w5 ((ρ4.set w5.heap.size rLas).set (w5.heap.size+1) rSsd) w6:=((Ste.of_below q6 s5.fresh).label (Nat.le_refl _) (by omega)).label (by omega) (by omega);clear l6)
    |(go_at_call 32;have c7:=dnew_ok p w6 ((ρ4.set w5.heap.size rLas).set (w5.heap.size+1) rSsd) s6.fresh;(with_reducible refine c7.mono ?_);clear c7;rintro e w7 ⟨rfl,hD,l7,q7⟩;replace g80:=g80.below_ q7;have s7:=ste_nrl q7 s6.fresh l7;clear l7)
    |(go_at_call 33;(with_reducible refine(cnew_ok p w7).mono ?_);rintro e w8 ⟨rfl,hC,q8⟩;have hCl:=Lib.hid hC.lt_;replace g80:=g80.below_ q8)
    |(go_at_call 34;(with_reducible refine(hkn w8).mono ?_);rintro e w9 ⟨rfl,hK,l9,q9⟩;have L9:=Lib.hid l9;clear l9;replace g80:=g80.below_ q9)
    |fail)
  have hfin:=WldR.made hP4 hp4 hL4 (s5.trans s6) hS HN.out hD s7 hC q8 hCl.out (fun ρ=>hK hsd ρ) q9 L9.out
  have HF:=Lib.hid hfin
  clear hfin hP4 hp4 hL4 s5 s6 hS hD s7 hC hK g8 g80 r5 q6 q7 q8 q9 L9 hCl c8 l8
  go_wp2_with fail
  go_ret2
  obtain⟨ρ',a,ha,hw,hs⟩:=HF.out
  exact⟨_,rfl,ρ',a,ha,hw,st4.trans hs⟩
end Go.Proofs.YtggmdjdflaglpaaGreat
namespace Go.Proofs.YtggmdjdflaglpaaGreat
open Go.RowKit Go.Proofs.YtggmdjdflaglpaaGreat.geo
set_option linter.unusedVariables false
def LdP (ρ:Rl) (a:Ads) (er:Int) (ls:List Lf) (W':Wld) (w:World) (e:Ending) (w':World):Prop:=
 ∃A n c,e=.returned (.tuple #[.slice A n c,.int .i64 er])/\∃ρ',(er=0->LvsP (fun b=>ρ' b=0/\w.heap.size<=b) w' (.slice A n c) ls)/\WldR ρ' w' a W'/\Ste rtW ρ w ρ' w'
set_option maxHeartbeats 2000000 in
set_option maxRecDepth 100000 in
theorem load_zero (ρ:Rl) (a:Ads) (W:Wld) (w:World) (hf:Fresh ρ w) (h:WldR ρ w a W) (hg:W.pow.gone=false) (hc:W.cnt.value=0) (hn:W.slots<=16):
 Calls Tryz.prog 37 #[.pointer (some ⟨a.wl,0,none⟩)] w (LdP ρ a 0 (List.replicate W.slots Lf.no) W w):=by
 have hon:=won_ok ρ a W w h
 have hva:=value_ok a.p a.c W.cnt w h.2.2.2.2.2.2.1
 rw[hg]at hon
 rw[hc]at hva
 have c0:=h.1.cell_ 0 rfl
 have c1:=h.1.cell_ 1 rfl
 have c4:=h.1.cell_ 4 rfl
 have lw:=h.1.lt
 obtain⟨n,hn'⟩:∃n,n=W.slots:=⟨_,rfl⟩
 rw[<-hn']at c0 hn
 rw[<-hn']
 have hmk:=fun W=>make_leaves n (by omega) W
 have H:=Lib.hid h
 clear h hg hc hn'
 go_enter Tryz.func37,Tryz.ntmps37
 go_wp2_with fail
 refine hon.mono ?_
 rintro e w1 ⟨rfl,rfl⟩
 clear hon
 go_wp2_with fail
 refine hva.mono ?_
 rintro e w1 ⟨rfl,rfl⟩
 clear hva
 go_wp2_with fail
 go_ret2
 have q:Below w.heap.size w (w.alloc (.cells (lcs (List.replicate n Lf.no)).toArray 103)):=(Below.refl _ _).alloc (Nat.le_refl _) _
 exact⟨_,_,_,rfl,ρ,fun _=>⟨w.heap.size,n,[],by rw[List.length_replicate],⟨hf _ (Nat.le_refl _),Nat.le_refl _⟩,by rw[List.append_nil];exact Blk.new w 103 _⟩,H.out.below_ q,Ste.of_below q hf⟩
def ctouchs (C:Cch):Nat->Cch
 |0=>C
 |i+1=>if(C.lf i).kind≠0 then ctouch (ctouchs C i) i else ctouchs C i
theorem ctouchs_now (C:Cch):∀i,(ctouchs C i).now=C.now/\(ctouchs C i).was=C.was/\(ctouchs C i).W=C.W/\(ctouchs C i).M=C.M/\(ctouchs C i).T<=C.T+i/\(ctouchs C i).pois=C.pois
 |0=>⟨rfl,rfl,rfl,rfl,Nat.le_refl _,rfl⟩
 |i+1=>by
  have ih:=ctouchs_now C i
  unfold ctouchs
  split
  ·exact⟨ih.1,ih.2.1,ih.2.2.1,ih.2.2.2.1,by show(ctouchs C i).T+1<=_;have:=ih.2.2.2.2.1;omega,ih.2.2.2.2.2⟩
  ·exact⟨ih.1,ih.2.1,ih.2.2.1,ih.2.2.2.1,by have:=ih.2.2.2.2.1;omega,ih.2.2.2.2.2⟩
def cstart (W:Wld) (ls:List Lf):Cch:=ctouchs ⟨W,⟨W.cnt.boots,0⟩,ls,ls,[],0,false⟩ ls.length
def copen (W:Wld) (ls:List Lf):Int×Cch:=cfinish (cstart W ls)
theorem ctouchs_age (C:Cch) (hC:C.age=[]) (i:Nat):(∀j:Nat,(j:Int)∈(ctouchs C i).age↔j<i/\(C.lf j).kind≠0)/\∀z∈(ctouchs C i).age,0<=z:=by
 induction i with
 |zero=>
  have e:(ctouchs C 0).age=[]:=hC
  rw[e]
  exact⟨fun j=>⟨fun h=>by simp at h,fun h=>by omega⟩,fun z hz=>by simp at hz⟩
 |succ i ih=>
  unfold ctouchs
  split
  ·rename_i h0
   refine⟨fun j=>?_,fun z hz=>?_⟩
   ·show(j:Int)∈dl i (ctouchs C i).age++[(i:Int)]↔_
    rw[List.mem_append,List.mem_singleton,mem_dl,ih.1 j]
    by_cases e:j=i
    ·subst e
     constructor
     ·exact fun _=>⟨by omega,h0⟩
     ·exact fun _=>.inr rfl
    ·constructor
     ·rintro(c|c)
      ·exact⟨by have:=c.1.1;omega,c.1.2⟩
      ·omega
     ·exact fun c=>.inl ⟨⟨by have:=c.1;omega,c.2⟩,fun q=>e (by omega)⟩
   ·have hz:z∈dl i (ctouchs C i).age++[(i:Int)]:=hz
    rw[List.mem_append,List.mem_singleton,mem_dl]at hz
    rcases hz with c|c
    ·exact ih.2 z c.1
    ·omega
  ·rename_i h0
   refine⟨fun j=>?_,ih.2⟩
   rw[ih.1 j]
   constructor
   ·exact fun c=>⟨by omega,c.2⟩
   ·rintro⟨c1,c2⟩
    have:j≠i:=fun e=>h0 (by rw[<-e];exact c2)
    exact⟨by omega,c2⟩
theorem cstart_cok {W:Wld}{ls:List Lf}{k:Nat}(hf:W.fit k) (hg:W.lk.good) (ha:1<=W.kys.a) (hn:ls.length=W.slots) (hok:∀(i:Nat) (l:Lf),ls[i]? =some l->l.ok i) (hk:k<=4000000):Cok (cstart W ls) k 16:=by
 have hl16:ls.length<=16:=by have:=hf.geo;rw[hn];unfold V at this;omega
 have ht:=ctouchs_now ⟨W,⟨W.cnt.boots,0⟩,ls,ls,[],0,false⟩ ls.length
 have hag:=ctouchs_age ⟨W,⟨W.cnt.boots,0⟩,ls,ls,[],0,false⟩ rfl ls.length
 have hlf:∀i,(cstart W ls).lf i=ls.getD i Lf.no:=fun i=>by
  show(ctouchs _ _).now.getD i Lf.no=_
  rw[ht.1]
 refine⟨?_,?_,?_,?_,?_,fun i=>?_,fun i=>?_,hag.2,?_,?_,?_⟩
 ·show(ctouchs _ _).W.fit k;rw[ht.2.2.1];exact hf
 ·show(ctouchs _ _).W.lk.good;rw[ht.2.2.1];exact hg
 ·show 1<=(ctouchs _ _).W.kys.a;rw[ht.2.2.1];exact ha
 ·show(ctouchs _ _).now.length=(ctouchs _ _).W.slots;rw[ht.1,ht.2.2.1];exact hn
 ·show(ctouchs _ _).was.length=(ctouchs _ _).W.slots;rw[ht.2.1,ht.2.2.1];exact hn
 ·rw[hlf,List.getD_eq_getElem?_getD]
  cases hi:ls[i]? with
  |none=>exact Lf.no_ok i
  |some l=>exact hok i l hi
 ·rw[hlf]
  refine(hag.1 i).trans ⟨fun c=>c.2,fun c=>⟨?_,c⟩⟩
  rcases Nat.lt_or_ge i ls.length with q|q
  ·exact q
  ·rw[List.getD_eq_getElem?_getD,List.getElem?_eq_none q]at c
   exact absurd rfl c
 ·show(ctouchs _ _).T<=16
  have:=ht.2.2.2.2.1
  simp only at this
  omega
 ·show(ctouchs _ _).M.n<=100;rw[ht.2.2.2.1];exact Nat.zero_le _
 ·show(ctouchs _ _).M.boot<4294967296;rw[ht.2.2.2.1];have:=hf.cnt.2;show W.cnt.boots<4294967296;omega
end Go.Proofs.YtggmdjdflaglpaaGreat
