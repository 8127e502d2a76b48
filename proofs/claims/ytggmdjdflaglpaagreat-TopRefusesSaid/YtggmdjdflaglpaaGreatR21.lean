/- The world: all pieces together; each piece's calls, said of the world. World.Key; log.place. tree.Build. tree.Build: the walk. area.Write: all leaves, and the tree of them; the first loop. -/
import Derived.Test.YtggmdjdflaglpaaGreatR19
import Derived.Test.YtggmdjdflaglpaaGreatR20
import Derived.Test.YtggmdjdflaglpaaGreatR10
import Derived.Test.YtggmdjdflaglpaaGreatR01
import Derived.ChangeAlike
import Derived.BigRegion
namespace Go.Proofs.YtggmdjdflaglpaaGreat
open Go.RowKit Go.Proofs.YtggmdjdflaglpaaGreat.geo
set_option linter.unusedVariables false
structure Wld where
 slots:Nat
 pow:Pow
 ssd:Ssd
 dsk:Dsk
 cnt:Cnt
 kys:Kys
 lk:Lk
structure Ads where
 wl:Nat
 p:Nat
 s:Nat
 d:Nat
 c:Nat
 k:Nat
 l:Nat
def WldR (ρ:Rl) (w:World) (a:Ads) (W:Wld):Prop:=
 Blk w a.wl 70 #[.int .i64 W.slots,.pointer (some ⟨a.p,0,none⟩),.pointer (some ⟨a.s,0,none⟩),.pointer (some ⟨a.d,0,none⟩),.pointer (some ⟨a.c,0,none⟩),.pointer (some ⟨a.k,0,none⟩),.pointer (some ⟨a.l,0,none⟩)]/\ρ a.wl=rWld/\
  PowR w a.p W.pow/\ρ a.p=rPow/\SsdR ρ w a.p a.s W.ssd/\DskR ρ w a.p a.d W.dsk/\CntR w a.p a.c W.cnt/\ρ a.c=rCnt/\KysR ρ w a.p a.k W.kys/\LkR ρ w a.l W.lk
def rsW (r:Nat):Prop:=1<=r/\r<=17
def rtW (r:Nat):Prop:=2<=r/\r<=16
section
variable {r:Nat}
theorem rsSsd_n:rsSsd r↔(r=1\/r=3\/r=4\/r=5\/r=6):=Iff.rfl
theorem rsDsk_n:rsDsk r↔(r=1\/r=7\/r=8\/r=9):=Iff.rfl
theorem rsKys_n:rsKys r↔(r=11\/r=12):=Iff.rfl
theorem rsLck_n:rsLck r↔(r=13\/r=1\/r=14\/r=15\/r=16):=Iff.rfl
theorem rtDev_n:rtDev r↔(r=2\/r=3\/r=5\/r=6):=Iff.rfl
theorem rtSsd_n:rtSsd r↔((r=2\/r=3\/r=5\/r=6)\/r=4):=Iff.rfl
theorem rtDsk_n:rtDsk r↔(r=2\/r=7\/r=8\/r=9):=Iff.rfl
theorem rtKys_n:rtKys r↔(r=2\/r=11\/r=12):=Iff.rfl
theorem rtOrc_n:rtOrc r↔(r=14\/r=15\/r=16):=Iff.rfl
theorem rsSsd.w (h:rsSsd r):rsW r:=by rw[rsSsd_n]at h;unfold rsW;omega
theorem rsDsk.w (h:rsDsk r):rsW r:=by rw[rsDsk_n]at h;unfold rsW;omega
theorem rsKys.w (h:rsKys r):rsW r:=by rw[rsKys_n]at h;unfold rsW;omega
theorem rsLck.w (h:rsLck r):rsW r:=by rw[rsLck_n]at h;unfold rsW;omega
theorem rtDev.w (h:rtDev r):rtW r:=by rw[rtDev_n]at h;unfold rtW;omega
theorem rtSsd.w (h:rtSsd r):rtW r:=by rw[rtSsd_n]at h;unfold rtW;omega
theorem rtDsk.w (h:rtDsk r):rtW r:=by rw[rtDsk_n]at h;unfold rtW;omega
theorem rtKys.w (h:rtKys r):rtW r:=by rw[rtKys_n]at h;unfold rtW;omega
theorem rtOrc.w (h:rtOrc r):rtW r:=by rw[rtOrc_n]at h;unfold rtW;omega
end
theorem CntR.keep {w w':World}{p c:Nat}{C:Cnt}(h:CntR w p c C) (hk:w'.heap[c]? =w.heap[c]?):CntR w' p c C:=hk.trans h
theorem WldR.keep {ρ ρ':Rl}{w w':World}{a:Ads}{W:Wld}(h:WldR ρ w a W) (hs:w.heap.size<=w'.heap.size) (hk:∀b,b<w.heap.size->rsW (ρ b)->w'.heap[b]? =w.heap[b]? /\ρ' b=ρ b):WldR ρ' w' a W:=by
 obtain⟨h1,h2,h3,h4,h5,h6,h7,h8,h9,h10⟩:=h
 have k1:=hk _ h1.lt (by rw[h2];unfold rsW;decide)
 have k2:=hk _ h3.lt (by rw[h4];unfold rsW;decide)
 have k3:=hk _ (Blk.lt h7) (by rw[h8];unfold rsW;decide)
 exact⟨k1.1.trans h1,k1.2.trans h2,h3.keep k2.1,k2.2.trans h4,h5.keep hs (fun b hb e=>hk b hb e.w),h6.keep hs (fun b hb e=>hk b hb e.w),h7.keep k3.1,k3.2.trans h8,h9.keep hs (fun b hb e=>hk b hb e.w),h10.keep hs (fun b hb e=>hk b hb e.w)⟩
theorem WldR.below_ {ρ:Rl}{w w':World}{a:Ads}{W:Wld}(h:WldR ρ w a W) (hb:Below w.heap.size w w'):WldR ρ w' a W:=h.keep hb.size (fun b hx _=>⟨hb.block b hx,rfl⟩)
theorem WldR.drew {ρ:Rl}{w:World}{a:Ads}{W:Wld}(h:WldR ρ w a W):WldR ρ w.drew a W:=h.below_ (Below.refl _ _).drew
theorem WldR.alloc {ρ:Rl}{w:World}{a:Ads}{W:Wld}(h:WldR ρ w a W) (o:Obj):WldR ρ (w.alloc o) a W:=h.below_ ((Below.refl _ _).alloc (Nat.le_refl _) o)
theorem WldR.ste {T:Nat->Prop}{ρ ρ':Rl}{w w':World}{a:Ads}{W:Wld}(h:WldR ρ w a W) (hs:Ste T ρ w ρ' w') (hT:∀r,T r->¬rsW r):WldR ρ' w' a W:=
 h.keep hs.size (fun b hb e=>⟨hs.ch.keep b hb (fun c=>hT _ c e),hs.old b hb⟩)
namespace Wld
def swr (W:Wld) (off:Int) (b:By):Wld:={W with pow:=(spend W.pow).1,ssd:=if(spend W.pow).2 then push W.ssd off b else W.ssd}
def sbar (W:Wld):Wld:={W with pow:=(spend W.pow).1,ssd:=if(spend W.pow).2 then settled W.ssd else W.ssd}
def dwr (W:Wld) (k:Int) (b:By):Wld:=if W.dsk.refuses then W else {W with pow:=(spend W.pow).1,dsk:=if(spend W.pow).2 then dpush W.dsk k b else W.dsk}
def dbar (W:Wld):Wld:={W with pow:=(spend W.pow).1,dsk:=if(spend W.pow).2 then dsettled W.dsk else W.dsk}
def bmp (W:Wld):Wld:={W with pow:=(spend W.pow).1,cnt:=if(spend W.pow).2 then bump W.cnt else W.cnt}
def bot (W:Wld):Wld:={W with pow:=(spend W.pow).1,cnt:=if(spend W.pow).2 then boot W.cnt else W.cnt}
def kadd (W:Wld):Wld:={W with pow:=(spend W.pow).1,kys:=if(spend W.pow).2 then⟨W.kys.seed,W.kys.a,true⟩else W.kys}
def kdel (W:Wld):Wld:={W with pow:=(spend W.pow).1,kys:=if(spend W.pow).2 then⟨W.kys.seed,W.kys.a+1,false⟩else W.kys}
def lck (W:Wld) (L:Lk):Wld:={W with lk:=L}
end Wld
section
variable {ρ ρ':Rl}{w w':World}{a:Ads}{W:Wld}
theorem WldR.put_ssd (h:WldR ρ w a W) {P:Pow}{S:Ssd}(hp:PowR w' a.p P) (hS:SsdR ρ' w' a.p a.s S) (hs:Ste rtSsd ρ w ρ' w'):WldR ρ' w' a {W with pow:=P,ssd:=S}:=by
 obtain⟨h1,h2,h3,h4,h5,h6,h7,h8,h9,h10⟩:=h
 have hk:∀b,b<w.heap.size->¬rtSsd (ρ b)->w'.heap[b]? =w.heap[b]? /\ρ' b=ρ b:=fun b hb e=>⟨hs.ch.keep b hb e,hs.old b hb⟩
 have k1:=hk _ h1.lt (by rw[h2];unfold rtSsd rtDev;decide)
 have k3:=hk _ (Blk.lt h7) (by rw[h8];unfold rtSsd rtDev;decide)
 exact⟨k1.1.trans h1,k1.2.trans h2,hp,(hs.old _ h3.lt).trans h4,hS,h6.keep hs.size (fun b hb e=>hk b hb (by rw[rsDsk_n]at e;rw[rtSsd_n];omega)),h7.keep k3.1,k3.2.trans h8,h9.keep hs.size (fun b hb e=>hk b hb (by rw[rsKys_n]at e;rw[rtSsd_n];omega)),h10.keep hs.size (fun b hb e=>hk b hb (by rw[rsLck_n]at e;rw[rtSsd_n];omega))⟩
theorem WldR.put_dsk (h:WldR ρ w a W) {P:Pow}{D:Dsk}(hp:PowR w' a.p P) (hD:DskR ρ' w' a.p a.d D) (hs:Ste rtDsk ρ w ρ' w'):WldR ρ' w' a {W with pow:=P,dsk:=D}:=by
 obtain⟨h1,h2,h3,h4,h5,h6,h7,h8,h9,h10⟩:=h
 have hk:∀b,b<w.heap.size->¬rtDsk (ρ b)->w'.heap[b]? =w.heap[b]? /\ρ' b=ρ b:=fun b hb e=>⟨hs.ch.keep b hb e,hs.old b hb⟩
 have k1:=hk _ h1.lt (by rw[h2];unfold rtDsk;decide)
 have k3:=hk _ (Blk.lt h7) (by rw[h8];unfold rtDsk;decide)
 exact⟨k1.1.trans h1,k1.2.trans h2,hp,(hs.old _ h3.lt).trans h4,h5.keep hs.size (fun b hb e=>hk b hb (by rw[rsSsd_n]at e;rw[rtDsk_n];omega)),hD,h7.keep k3.1,k3.2.trans h8,h9.keep hs.size (fun b hb e=>hk b hb (by rw[rsKys_n]at e;rw[rtDsk_n];omega)),h10.keep hs.size (fun b hb e=>hk b hb (by rw[rsLck_n]at e;rw[rtDsk_n];omega))⟩
theorem WldR.put_kys (h:WldR ρ w a W) {P:Pow}{K:Kys}(hp:PowR w' a.p P) (hK:KysR ρ' w' a.p a.k K) (hs:Ste rtKys ρ w ρ' w'):WldR ρ' w' a {W with pow:=P,kys:=K}:=by
 obtain⟨h1,h2,h3,h4,h5,h6,h7,h8,h9,h10⟩:=h
 have hk:∀b,b<w.heap.size->¬rtKys (ρ b)->w'.heap[b]? =w.heap[b]? /\ρ' b=ρ b:=fun b hb e=>⟨hs.ch.keep b hb e,hs.old b hb⟩
 have k1:=hk _ h1.lt (by rw[h2];unfold rtKys;decide)
 have k3:=hk _ (Blk.lt h7) (by rw[h8];unfold rtKys;decide)
 exact⟨k1.1.trans h1,k1.2.trans h2,hp,(hs.old _ h3.lt).trans h4,h5.keep hs.size (fun b hb e=>hk b hb (by rw[rsSsd_n]at e;rw[rtKys_n];omega)),h6.keep hs.size (fun b hb e=>hk b hb (by rw[rsDsk_n]at e;rw[rtKys_n];omega)),h7.keep k3.1,k3.2.trans h8,hK,h10.keep hs.size (fun b hb e=>hk b hb (by rw[rsLck_n]at e;rw[rtKys_n];omega))⟩
theorem WldR.put_lk (h:WldR ρ w a W) {L:Lk}(hL:LkR ρ' w' a.l L) (hs:Ste rtOrc ρ w ρ' w'):WldR ρ' w' a (W.lck L):=by
 obtain⟨h1,h2,h3,h4,h5,h6,h7,h8,h9,h10⟩:=h
 have hk:∀b,b<w.heap.size->¬rtOrc (ρ b)->w'.heap[b]? =w.heap[b]? /\ρ' b=ρ b:=fun b hb e=>⟨hs.ch.keep b hb e,hs.old b hb⟩
 have k1:=hk _ h1.lt (by rw[h2];unfold rtOrc;decide)
 have k2:=hk _ h3.lt (by rw[h4];unfold rtOrc;decide)
 have k3:=hk _ (Blk.lt h7) (by rw[h8];unfold rtOrc;decide)
 exact⟨k1.1.trans h1,k1.2.trans h2,h3.keep k2.1,k2.2.trans h4,h5.keep hs.size (fun b hb e=>hk b hb (by rw[rsSsd_n]at e;rw[rtOrc_n];omega)),h6.keep hs.size (fun b hb e=>hk b hb (by rw[rsDsk_n]at e;rw[rtOrc_n];omega)),h7.keep k3.1,k3.2.trans h8,h9.keep hs.size (fun b hb e=>hk b hb (by rw[rsKys_n]at e;rw[rtOrc_n];omega)),hL⟩
theorem WldR.put_cnt (h:WldR ρ w a W) {P:Pow}{C:Cnt}(hp:PowR w' a.p P) (hC:CntR w' a.p a.c C) (hs:Ch (fun i=>i=a.p\/i=a.c) w w') (hf:Fresh ρ w):WldR ρ w' a {W with pow:=P,cnt:=C}/\Ste rtW ρ w ρ w':=by
 obtain⟨h1,h2,h3,h4,h5,h6,h7,h8,h9,h10⟩:=h
 have hk:∀b,b<w.heap.size->ρ b≠rPow->ρ b≠rCnt->w'.heap[b]? =w.heap[b]? /\ρ b=ρ b:=fun b hb e1 e2=>⟨hs.keep b hb (fun c=>by rcases c with c|c;exact e1 (c▸h4);exact e2 (c▸h8)),rfl⟩
 have k1:=hk _ h1.lt (by rw[h2];decide) (by rw[h2];decide)
 refine⟨⟨k1.1.trans h1,h2,hp,h4,h5.keep hs.size (fun b hb e=>hk b hb (fun c=>by rw[rsSsd_n,c]at e;revert e;decide) (fun c=>by rw[rsSsd_n,c]at e;revert e;decide)),h6.keep hs.size (fun b hb e=>hk b hb (fun c=>by rw[rsDsk_n,c]at e;revert e;decide) (fun c=>by rw[rsDsk_n,c]at e;revert e;decide)),hC,h8,h9.keep hs.size (fun b hb e=>hk b hb (fun c=>by rw[rsKys_n,c]at e;revert e;decide) (fun c=>by rw[rsKys_n,c]at e;revert e;decide)),h10.keep hs.size (fun b hb e=>hk b hb (fun c=>by rw[rsLck_n,c]at e;revert e;decide) (fun c=>by rw[rsLck_n,c]at e;revert e;decide))⟩,Ste.of_ch (hs.mono (fun i e=>?_)) hf⟩
 rcases e with e|e
 ·rw[e,h4];unfold rtW;decide
 ·rw[e,h8];unfold rtW;decide
end
section
variable (ρ:Rl) (a:Ads) (W:Wld) (w:World)
theorem wswr_ok (off:Int) (vb:Value) (b:By) (hf:Fresh ρ w) (h:WldR ρ w a W) (hv:HasP (fun i=>¬rtW (ρ i)) w vb b) (hin:(⟨off,b⟩:Opn).in_ W.ssd.lasts.length) (hc:W.ssd.cnt<=1000000):
 Calls Tryz.prog 157 #[.pointer (some ⟨a.s,0,none⟩),.int .i64 off,vb] w fun e w'=>e=.returned (.bool (spend W.pow).2)/\∃ρ',WldR ρ' w' a (W.swr off b)/\Ste rtW ρ w ρ' w':=by
 refine(swrite_ok ρ a.p a.s W.pow W.ssd off vb b w hf h.2.2.1 h.2.2.2.1 h.2.2.2.2.1 (hv.weak (fun i e c=>e c.w)) hin hc).mono ?_
 rintro e w1 ⟨rfl,hp,ρ1,hS,hs⟩
 exact⟨rfl,ρ1,h.put_ssd hp hS (hs.mono (fun r e=>.inl e)),hs.mono (fun r e=>e.w)⟩
theorem wsbar_ok (hf:Fresh ρ w) (h:WldR ρ w a W) (hc:W.ssd.cnt<=1000000) (hne:W.ssd.lasts≠[]):
 Calls Tryz.prog 171 #[.pointer (some ⟨a.s,0,none⟩)] w fun e w'=>e=.returned (.bool (spend W.pow).2)/\∃ρ',WldR ρ' w' a W.sbar/\Ste rtW ρ w ρ' w':=by
 refine(sbarrier_ok ρ a.p a.s W.pow W.ssd w hf h.2.2.1 h.2.2.2.1 h.2.2.2.2.1 hc hne).mono ?_
 rintro e w1 ⟨rfl,hp,ρ1,hS,hs⟩
 exact⟨rfl,ρ1,h.put_ssd hp hS hs,hs.mono (fun r e=>e.w)⟩
theorem wdwr_ok (k:Int) (vb:Value) (b:By) (hf:Fresh ρ w) (h:WldR ρ w a W) (hv:HasP (fun i=>¬rtW (ρ i)) w vb b) (k0:0<=k) (k1:k<32) (hl:b.length=32) (hc:W.dsk.cnt<=1000000):
 Calls Tryz.prog 144 #[.pointer (some ⟨a.d,0,none⟩),.int .i64 k,vb] w fun e w'=>e=.returned (.bool (dwok W.pow W.dsk))/\∃ρ',WldR ρ' w' a (W.dwr k b)/\Ste rtW ρ w ρ' w':=by
 cases hr:W.dsk.refuses with
 |true=>
  refine(dwrite_no ρ a.p a.d W.dsk k vb b w h.2.2.2.2.2.1 hv.any k0 k1 hl hr).mono ?_
  rintro e w1 ⟨rfl,rfl⟩
  refine⟨by simp[dwok,hr],ρ,?_,Ste.refl _ hf⟩
  have:W.dwr k b=W:=by unfold Wld.dwr;rw[if_pos hr]
  rw[this]
  exact h
 |false=>
  refine(dwrite_ok ρ a.p a.d W.pow W.dsk k vb b w hf h.2.2.1 h.2.2.2.1 h.2.2.2.2.2.1 (hv.weak (fun i e c=>e c.w)) k0 k1 hl hr hc).mono ?_
  rintro e w1 ⟨rfl,hp,ρ1,hD,hs⟩
  refine⟨by simp[dwok,hr],ρ1,?_,hs.mono (fun r e=>e.w)⟩
  have:W.dwr k b={W with pow:=(spend W.pow).1,dsk:=if(spend W.pow).2 then dpush W.dsk k b else W.dsk}:=by unfold Wld.dwr;rw[if_neg (by simp[hr])]
  rw[this]
  exact h.put_dsk hp hD hs
theorem wdbar_ok (hf:Fresh ρ w) (h:WldR ρ w a W) (hc:W.dsk.cnt<=1000000):
 Calls Tryz.prog 108 #[.pointer (some ⟨a.d,0,none⟩)] w fun e w'=>e=.returned (.bool (spend W.pow).2)/\∃ρ',WldR ρ' w' a W.dbar/\Ste rtW ρ w ρ' w':=by
 refine(dbarrier_ok ρ a.p a.d W.pow W.dsk w hf h.2.2.1 h.2.2.2.1 h.2.2.2.2.2.1 hc).mono ?_
 rintro e w1 ⟨rfl,hp,ρ1,hD,hs⟩
 exact⟨rfl,ρ1,h.put_dsk hp hD hs,hs.mono (fun r e=>e.w)⟩
theorem WldR.ne (h:WldR ρ w a W):a.p≠a.c:=fun e=>by
 have h4:=h.2.2.2.1
 have h8:=h.2.2.2.2.2.2.2.1
 rw[e,h8]at h4
 exact absurd h4 (by decide)
theorem wbump_ok (hf:Fresh ρ w) (h:WldR ρ w a W) (hv:W.cnt.value<4294967296):
 Calls Tryz.prog 173 #[.pointer (some ⟨a.c,0,none⟩)] w fun e w'=>e=.returned (.bool (spend W.pow).2)/\∃ρ',WldR ρ' w' a W.bmp/\Ste rtW ρ w ρ' w':=by
 refine(bump_ok a.p a.c W.pow W.cnt w h.2.2.1 h.2.2.2.2.2.2.1 h.ne hv).mono ?_
 rintro e w1 ⟨rfl,hp,hC,hs⟩
 exact⟨rfl,ρ,h.put_cnt hp hC hs hf⟩
theorem wboot_ok (hf:Fresh ρ w) (h:WldR ρ w a W) (hv:W.cnt.boots<4294967296):
 Calls Tryz.prog 36 #[.pointer (some ⟨a.c,0,none⟩)] w fun e w'=>e=.returned (.bool (spend W.pow).2)/\∃ρ',WldR ρ' w' a W.bot/\Ste rtW ρ w ρ' w':=by
 refine(boot_ok a.p a.c W.pow W.cnt w h.2.2.1 h.2.2.2.2.2.2.1 h.ne hv).mono ?_
 rintro e w1 ⟨rfl,hp,hC,hs⟩
 exact⟨rfl,ρ,h.put_cnt hp hC hs hf⟩
theorem wkadd_ok (hf:Fresh ρ w) (h:WldR ρ w a W) (h2:W.kys.two=false) (hc:W.kys.a<1000000):
 Calls Tryz.prog 121 #[.pointer (some ⟨a.k,0,none⟩)] w fun e w'=>e=.returned (.bool (spend W.pow).2)/\∃ρ',WldR ρ' w' a W.kadd/\Ste rtW ρ w ρ' w':=by
 refine(kadd_ok ρ a.p a.k W.pow W.kys w hf h.2.2.1 h.2.2.2.1 h.2.2.2.2.2.2.2.2.1 h2 hc).mono ?_
 rintro e w1 ⟨rfl,hp,ρ1,hK,hs⟩
 exact⟨rfl,ρ1,h.put_kys hp hK hs,hs.mono (fun r e=>e.w)⟩
theorem wkdel_ok (hf:Fresh ρ w) (h:WldR ρ w a W) (h2:W.kys.two=true) (hc:W.kys.a<1000000):
 Calls Tryz.prog 110 #[.pointer (some ⟨a.k,0,none⟩),.int .u32 W.kys.cur] w fun e w'=>e=.returned (.bool (spend W.pow).2)/\∃ρ',WldR ρ' w' a W.kdel/\Ste rtW ρ w ρ' w':=by
 refine(kerase_ok ρ a.p a.k W.pow W.kys w hf h.2.2.1 h.2.2.2.1 h.2.2.2.2.2.2.2.2.1 h2 hc).mono ?_
 rintro e w1 ⟨rfl,hp,ρ1,hK,hs⟩
 exact⟨rfl,ρ1,h.put_kys hp hK hs,hs.mono (fun r e=>e.w)⟩
theorem wshut_ok (HS:ShutOk) (p q:Nat->Prop) (key:Two) (n:Nce) (vh:Value) (head:By) (vd:Value) (data:By) (hf:Fresh ρ w) (h:WldR ρ w a W) (hk:U2 key) (hn:n.ok) (hh:HasP p w vh head) (hd:HasP q w vd data) (hl:head.length<=4000) (hl32:data.length=32) (hc:W.lk.lim 900000):
 Calls Tryz.prog 156 #[.pointer (some ⟨a.l,0,none⟩),pv key,nv n,vh,vd] w fun e w'=>
  ∃v,e=.returned (.tuple #[.agg #[v,.int .u64 (W.lk.shut key n head data).2.1,.int .u64 (W.lk.shut key n head data).2.2],.bool true])/\
   ∃ρ',HasP (fun b=>w.heap.size<=b/\ρ' b=0) w' v (W.lk.shut key n head data).1/\WldR ρ' w' a (W.lck (W.lk.shutd key n head data))/\Ste rtW ρ w ρ' w':=by
 refine(HS ρ p q a.l W.lk key n vh head vd data w hf h.2.2.2.2.2.2.2.2.2 hk hn hh hd hl hl32 hc).mono ?_
 rintro e w1 ⟨v,rfl,ρ1,ho,hL,hs⟩
 exact⟨v,rfl,ρ1,ho,h.put_lk hL hs,hs.mono (fun r e=>e.w)⟩
end
end Go.Proofs.YtggmdjdflaglpaaGreat
namespace Go.Proofs.YtggmdjdflaglpaaGreat
open Go.RowKit Go.Proofs.YtggmdjdflaglpaaGreat.geo Go.Proofs.YtggmdjdflaglpaaGreat.nce
set_option linter.unusedVariables false
theorem Kys.cur_mem (K:Kys):K.cur∈K.es:=by unfold Kys.cur Kys.es;split<;>simp
theorem KysR.bd {ρ:Rl}{w:World}{p k:Nat}{K:Kys}(h:KysR ρ w p k K):K.seed<18446744073709551616/\1<=K.a/\K.a<=1000000:=by obtain⟨_,_,_,_,_,_,h⟩:=h;exact h
theorem Kys.cur_le (K:Kys) (h:K.a<=1000000):K.cur<=1000001:=by unfold Kys.cur;split<;>omega
def Wld.curKey (W:Wld):Two:=keyOf W.kys.seed W.kys.cur
set_option maxHeartbeats 2000000 in
theorem wkey_ok (ρ:Rl) (a:Ads) (W:Wld) (w:World) (h:WldR ρ w a W):
 Calls Tryz.prog 154 #[.pointer (some ⟨a.wl,0,none⟩)] w fun e w'=>e=.returned (.tuple #[.int .u32 W.kys.cur,pv W.curKey])/\Below w.heap.size w w':=by
 have hbw:Below w.heap.size w (w.alloc (.cells #[.int .u64 0,.int .u64 0] 101)):=(Below.refl _ _).alloc (Nat.le_refl _) _
 have hB:Blk (w.alloc (.cells #[.int .u64 0,.int .u64 0] 101)) w.heap.size 101 #[.int .u64 0,.int .u64 0]:=Blk.new w 101 _
 have h1:=h.alloc (.cells #[.int .u64 0,.int .u64 0] 101)
 have hbd:=h1.2.2.2.2.2.2.2.2.1.bd
 have hcl:=W.kys.cur_le hbd.2.2
 have hcu:=current_ok ρ a.p a.k W.kys _ h1.2.2.2.2.2.2.2.2.1
 have hky:=fun W' hk=>key_ok ρ a.p a.k W.kys W.kys.cur W' hk (by omega)
 have hkk:W.kys.key W.kys.cur=W.curKey:=by unfold Kys.key Wld.curKey;rw[if_pos W.kys.cur_mem]
 have hdd:decide (W.kys.cur∈W.kys.es)=true:=by simp[W.kys.cur_mem]
 rw[hkk,hdd]at hky
 clear hkk hdd hbd
 unfold pv
 obtain⟨t,ht⟩:∃t,t=W.curKey:=⟨_,rfl⟩
 rw[<-ht]at hky ⊢
 clear ht
 obtain⟨ta,tb⟩:=t
 obtain⟨cu,hcu2⟩:∃cu,cu=W.kys.cur:=⟨_,rfl⟩
 rw[<-hcu2]at hcu hky hcl ⊢
 have HC:=Lib.hid hcu2
 clear hcu2
 simp only at hky ⊢
 have c5:=h1.1.cell_ 5 rfl
 have l5:=h1.1.lt
 have H1:=Lib.hid h1
 clear h h1
 go_enter Tryz.func154,Tryz.ntmps154
 go_wp2_with fail
 refine hcu.mono ?_
 rintro e w1 ⟨rfl,q1⟩
 have hw1:=H1.out.below_ q1
 have hk1:=hw1.2.2.2.2.2.2.2.2.1
 have d5:=hw1.1.cell_ 5 rfl
 have m5:=hw1.1.lt
 have hB1:=hB.below_ q1
 have hbw1:=hbw.trans (q1.mono hbw.size)
 have HH:=Lib.hid hw1
 clear hw1 hcu q1 c5 l5 hB hbw
 go_wp2_with fail
 refine(hky _ hk1).mono ?_
 rintro e w2 ⟨rfl,q2⟩
 have hB2:=hB1.below_ q2
 have hbw2:=hbw1.trans (q2.mono hbw1.size)
 have f0:=hB2.frozen 0
 have f1:=hB2.frozen 1
 have b0:=hB2.cell_ 0 rfl
 have b1:=hB2.cell_ 1 rfl
 have lb:=hB2.lt
 clear hky hk1 d5 m5 hB1 q2
 go_wp2_with fail
 have g2:=only_set2 w2 w.heap.size 0 1 (.int .u64 ta) (.int .u64 tb)
 have bR:=(hB2.set_to 0 (.int .u64 ta) (cs':=#[.int .u64 ta,.int .u64 0]) rfl).set_to 1 (.int .u64 tb) (cs':=#[.int .u64 ta,.int .u64 tb]) rfl
 have hbw3:=below_only hbw2 g2 hbw2.size (Nat.le_refl _)
 obtain⟨W3,hW3⟩:∃W3,W3=(w2.setCell ⟨w.heap.size,0,none⟩ (.int .u64 ta)).setCell ⟨w.heap.size,1,none⟩ (.int .u64 tb):=⟨_,rfl⟩
 rw[<-hW3]at bR hbw3 ⊢
 have f0':=bR.frozen 0
 have f1':=bR.frozen 1
 have b0':=bR.cell_ 0 rfl
 have b1':=bR.cell_ 1 rfl
 have lb':=bR.lt
 clear hW3 g2 hB2 hbw2 f0 f1 b0 b1 lb
 go_region
 all_goals
  go_wp2_with fail
  have g3:=only_set2 W3 w.heap.size 0 1 (.int .u64 ta) (.int .u64 tb)
  have bR2:=(bR.set_to 0 (.int .u64 ta) (cs':=#[.int .u64 ta,.int .u64 tb]) rfl).set_to 1 (.int .u64 tb) (cs':=[.int .u64 ta,.int .u64 tb].toArray) rfl
  refine ret_tmp_cell 2 3 101 (by rfl) w.heap.size 0 (by rfl) (.int .u32 cu) (by rfl) [.int .u64 ta,.int .u64 tb] _ ?_ Tryz.underlying101 rfl sz101 rfl ⟨rfl,?_⟩
  ·exact bR2.drew.range
  ·exact below_only hbw3 g3 hbw3.size (Nat.le_refl _) |>.drew
theorem rem_two (c:Nat):((c:Int)%2)=((c%2:Nat):Int):=by omega
theorem place_ok (ρ:Rl) (a:Ads) (W:Wld) (c:Nat) (w:World) (h:WldR ρ w a W) (hV:V W.slots) (hc:c<4294967296):
 Calls Tryz.prog 97 #[.pointer (some ⟨a.wl,0,none⟩),.int .u64 c] w fun e w'=>e=.returned (.int .i64 ((W.slots*160+c%2*60:Nat):Int))/\Below w.heap.size w w':=by
 have c0:=h.1.cell_ 0 rfl
 have hl:=h.1.lt
 have hr:=fun W1=>rec_ok (W.slots:Int) ((c:Int)%2) W1 hV (by omega) (by omega)
 have hfin:((W.slots*160+c%2*60:Nat):Int)=(W.slots:Int)*32+2*((W.slots:Int)*64)+(c:Int)%2*60:=by omega
 rw[hfin]
 have e1:(0:Int)<=(c:Int)%2:=by omega
 have e2:(c:Int)%2<2:=by omega
 have c1:(0:Int)<=(c:Int):=by omega
 have c2:(c:Int)<4294967296:=by omega
 obtain⟨n,hn⟩:∃n,n=W.slots:=⟨_,rfl⟩
 rw[<-hn]at hr c0 ⊢
 clear h hV hfin hc hn
 go_enter Tryz.func97,Tryz.ntmps97
 go_wp2_with fail
 refine(hr _).mono ?_
 rintro e w1 ⟨rfl,q1⟩
 clear hr
 go_wp2_with fail
 go_ret
 exact⟨rfl,q1⟩
structure Mk where
 boot:Nat
 n:Nat
def MkR (ρ:Rl) (w:World) (m:Nat) (M:Mk):Prop:=Blk w m 144 #[.int .u64 M.boot,.int .i64 M.n]/\ρ m=rMkr/\M.n<=100/\M.boot<4294967296
def Mk.nonce (M:Mk) (ep:Nat) (sl:Nat):Nce:=⟨ep,sl,(M.boot:Int)*4294967296+((M.n:Int)+1)⟩
def Mk.up (M:Mk):Mk:=⟨M.boot,M.n+1⟩
theorem Mk.nonce_ok (M:Mk) (ep sl:Nat) (he:ep<4294967296) (hs:sl<65536) (hn:M.n<=100) (hb:M.boot<4294967296):(M.nonce ep sl).ok:=
 ⟨⟨by simp[Mk.nonce],by simp[Mk.nonce];omega⟩,⟨by simp[Mk.nonce],by simp[Mk.nonce];omega⟩,⟨by simp only[Mk.nonce];omega,by simp only[Mk.nonce];omega⟩⟩
theorem MkR.keep {ρ ρ':Rl}{w w':World}{m:Nat}{M:Mk}(h:MkR ρ w m M) (hk:w'.heap[m]? =w.heap[m]? /\ρ' m=ρ m):MkR ρ' w' m M:=⟨hk.1.trans h.1,hk.2.trans h.2.1,h.2.2⟩
theorem MkR.ste {T:Nat->Prop}{ρ ρ':Rl}{w w':World}{m:Nat}{M:Mk}(h:MkR ρ w m M) (hs:Ste T ρ w ρ' w') (hT:¬T rMkr):MkR ρ' w' m M:=h.keep ⟨hs.ch.keep m h.1.lt (by rw[h.2.1];exact hT),hs.old m h.1.lt⟩
theorem MkR.below_ {ρ:Rl}{w w':World}{m:Nat}{M:Mk}(h:MkR ρ w m M) (hb:Below w.heap.size w w'):MkR ρ w' m M:=h.keep ⟨hb.block m h.1.lt,rfl⟩
theorem mnext_ok (ρ:Rl) (m:Nat) (M:Mk) (ep sl:Nat) (w:World) (hf:Fresh ρ w) (h:MkR ρ w m M) (hn:M.n<100) (he:ep<4294967296) (hs:sl<65536):
 Calls Tryz.prog 155 #[.pointer (some ⟨m,0,none⟩),.int .u32 ep,.int .i64 sl] w fun e w'=>e=.returned (.tuple #[nv (M.nonce ep sl),.int .i64 0])/\MkR ρ w' m M.up/\Ste (· =rMkr) ρ w ρ w':=by
 refine(next_ok m M.boot M.n ep sl w (by omega) (by omega) (by omega) (by have:=h.2.2.2;omega) (by omega) (by omega) (by omega) (by omega) h.1).mono ?_
 rintro e w1 ⟨rfl,hg,hb⟩
 exact⟨rfl,⟨hb,h.2.1,by simp only[Mk.up];omega,h.2.2.2⟩,Ste.of_grown hg h.2.1 hf⟩
theorem mnext_no (ρ:Rl) (m:Nat) (M:Mk) (ep sl:Nat) (w:World) (h:MkR ρ w m M) (hn:M.n=100) (hs:sl<65536):
 Calls Tryz.prog 155 #[.pointer (some ⟨m,0,none⟩),.int .u32 ep,.int .i64 sl] w fun e w'=>e=.returned (.tuple #[.agg #[.int .u32 0,.int .u32 0,.int .u64 0],.int .i64 6])/\Below w.heap.size w w':=by
 have hb:=h.1
 rw[hn]at hb
 exact next_none m M.boot ep sl w (by omega) (by omega) hb
end Go.Proofs.YtggmdjdflaglpaaGreat
namespace Go.Proofs.YtggmdjdflaglpaaGreat
open Go.RowKit
set_option linter.unusedVariables false
def lfL (L:Lk) (R:List By):Nat->Lk
 |0=>L
 |i+1=>(lfL L R i).summed (leafS (R.getD i []))
def lfN (L:Lk) (R:List By) (i:Nat):Two:=(lfL L R i).sum (leafS (R.getD i []))
def nd1 (L:Lk) (R:List By) (i k:Nat):Two:=if R.length<=k/\k<R.length+i then lfN L R (k-R.length)else(0,0)
def nd2 (L:Lk) (R:List By):Nat->Lk×(Nat->Two)
 |0=>(lfL L R R.length,nd1 L R R.length)
 |j+1=>
  let q:=nd2 L R j
  let i:=R.length-1-j
  let s:=nodeS (q.2 (2*i)) (q.2 (2*i+1))
  (q.1.summed s,fun k=>if k=i then q.1.sum s else q.2 k)
def bldL (L:Lk) (R:List By):Lk:=(nd2 L R (R.length-1)).1
def bldN (L:Lk) (R:List By) (k:Nat):Two:=(nd2 L R (R.length-1)).2 k
theorem lfL_lim {L:Lk}{R:List By}{k:Nat}(h:L.lim k):∀i,(lfL L R i).lim (k+i)
 |0=>h
 |i+1=>Lk.lim_summed (lfL_lim h i) _
theorem nd2_lim {L:Lk}{R:List By}{k:Nat}(h:L.lim k):∀j,(nd2 L R j).1.lim (k+R.length+j)
 |0=>lfL_lim h _
 |j+1=>Lk.lim_summed (nd2_lim h j) _
theorem nd1_u {L:Lk}{R:List By}{m:Nat}(h:L.lim m) (hR:R.length<=16) (hm:m<=900000) (i k:Nat) (hi:i<=R.length):U2 (nd1 L R i k):=by
 unfold nd1
 split
 ·exact Lk.sum_u (lfL_lim h _) (by omega) _
 ·unfold U2 U64;decide
theorem nd2_u {L:Lk}{R:List By}{m:Nat}(h:L.lim m) (hR:R.length<=16) (hm:m<=900000):∀(j k:Nat),j<=16->U2 ((nd2 L R j).2 k)
 |0,k,_=>nd1_u h hR hm _ _ (Nat.le_refl _)
 |j+1,k,hj=>by
  simp only[nd2]
  split
  ·exact Lk.sum_u (nd2_lim h j) (by omega) _
  ·exact nd2_u h hR hm j k (by omega)
def pcells (n:Nat) (f:Nat->Two):List Value:=(List.range n).flatMap (fun k=>[.int .u64 (f k).1,.int .u64 (f k).2])
theorem pcells_succ (n:Nat) (f:Nat->Two):pcells (n+1) f=pcells n f++[.int .u64 (f n).1,.int .u64 (f n).2]:=by
 unfold pcells
 rw[List.range_succ,List.flatMap_append]
 simp
theorem pcells_len (n:Nat) (f:Nat->Two):(pcells n f).length=2*n:=by
 induction n with
 |zero=>rfl
 |succ n ih=>rw[pcells_succ,List.length_append,ih];simp;omega
theorem pcells_at {n k:Nat}(f:Nat->Two) (hk:k<n):(pcells n f)[2*k]? =some (.int .u64 (f k).1)/\(pcells n f)[2*k+1]? =some (.int .u64 (f k).2):=by
 induction n with
 |zero=>omega
 |succ n ih=>
  rw[pcells_succ]
  by_cases e:k<n
  ·rw[List.getElem?_append_left (by rw[pcells_len];omega),List.getElem?_append_left (by rw[pcells_len];omega)]
   exact ih e
  ·obtain rfl:k=n:=by omega
   rw[List.getElem?_append_right (by rw[pcells_len];omega),List.getElem?_append_right (by rw[pcells_len];omega),pcells_len]
   have h1:2*k-2*k=0:=by omega
   have h2:2*k+1-2*k=1:=by omega
   rw[h1,h2]
   exact⟨rfl,rfl⟩
theorem pcells_set {n k:Nat}(f:Nat->Two) (t:Two) (hk:k<n):(((pcells n f).set (2*k) (.int .u64 t.1)).set (2*k+1) (.int .u64 t.2))=pcells n (fun i=>if i=k then t else f i):=by
 apply List.ext_getElem?
 intro j
 rw[List.getElem?_set,List.getElem?_set]
 simp only[List.length_set,pcells_len]
 obtain⟨i,hi⟩:∃i,j=2*i\/j=2*i+1:=⟨j / 2,by omega⟩
 by_cases hin:i<n
 ·have h1:=pcells_at f hin
  have h2:=pcells_at (fun i=>if i=k then t else f i) hin
  rcases hi with rfl|rfl
  ·rw[if_neg (by omega)]
   by_cases e:2*k=2*i
   ·obtain rfl:k=i:=by omega
    rw[if_pos rfl,if_pos (by omega),h2.1,if_pos rfl]
   ·rw[if_neg e,h1.1,h2.1,if_neg (by omega)]
  ·by_cases e:2*k+1=2*i+1
   ·obtain rfl:k=i:=by omega
    rw[if_pos rfl,if_pos (by omega),h2.2,if_pos rfl]
   ·rw[if_neg e,if_neg (by omega),h1.2,h2.2,if_neg (by omega)]
 ·rw[List.getElem?_eq_none (l:=pcells n (fun i=>if i=k then t else f i)) (by rw[pcells_len];omega),List.getElem?_eq_none (l:=pcells n f) (by rw[pcells_len];omega)]
  split
  ·rw[if_neg (by omega)]
  ·split
   ·rw[if_neg (by omega)]
   ·rfl
theorem made_pairs (n:Nat):madeCells (Value.agg #[.int .u64 0,.int .u64 0]).cells (n*2)=(pcells n (fun _=>(0,0))).toArray:=by
 apply Array.ext
 ·simp[madeCells,pcells_len];omega
 ·intro i h1 h2
  simp only[madeCells,Value.cells,List.getElem_toArray]
  have hi:i<2*n:=by simpa[pcells_len]using h2
  have h3:=pcells_at (fun _=>((0,0):Two)) (show i / 2<n by omega)
  have key:(pcells n (fun _=>((0,0):Two)))[i]? =some (.int .u64 0):=by
   by_cases e:i%2=0
   ·have:i=2*(i / 2):=by omega
    rw[this];exact h3.1
   ·have:i=2*(i / 2)+1:=by omega
    rw[this];exact h3.2
  rw[List.getElem?_eq_getElem (by rw[pcells_len];omega)]at key
  injection key with key
  rw[key]
  rcases Nat.mod_two_eq_zero_or_one i with e|e<;>simp[e]
theorem info101:(Tryz.prog.info? 101).map (fun i=>(i.zero,i.size,i.bytes))=some (some (.agg #[.int .u64 0,.int .u64 0]),2,16):=by kernel_rfl
theorem make_pairs (n:Nat) (hn:n<=1000) (w:World):(Instr.makeSlice 190 (.int .i64 (n:Int)) (.int .i64 (n:Int))).run Tryz.prog w=.ok (.slice (some ⟨w.heap.size,0,none⟩) n n) (w.alloc (.cells (pcells n (fun _=>(0,0))).toArray 101)):=by
 obtain⟨i0,hi,hz0,hz1,hz2⟩:=info_parts info101
 have h:=run_make (P:=Tryz.prog) w 190 101 i0 (.agg #[.int .u64 0,.int .u64 0]) Tryz.underlying190 hi hz0 .i64 .i64 n n (by omega) (by omega) (by rw[hz2];omega) (by omega)
 rw[hz1]at h
 simp only[Int.toNat_natCast]at h
 rw[made_pairs]at h
 exact h
end Go.Proofs.YtggmdjdflaglpaaGreat
namespace Go.Proofs.YtggmdjdflaglpaaGreat
open Go.RowKit Go.Proofs.YtggmdjdflaglpaaGreat.geo
set_option linter.unusedVariables false
def RowsP (p:Nat->Prop) (w:World) (v:Value) (Ls:List By):Prop:=
 ∃b off cap,v=.slice (some ⟨b,off,none⟩) Ls.length cap/\p b/\b<w.heap.size/\
  ∀(j:Nat) (l:By),Ls[j]? =some l->∃vj,w.cell? ⟨b,off+j,none⟩=some vj/\HasP p w vj l
theorem RowsP.keep {p:Nat->Prop}{w w':World}{v:Value}{Ls:List By}(h:RowsP p w v Ls) (hs:w.heap.size<=w'.heap.size) (hk:∀b,b<w.heap.size->p b->w'.heap[b]? =w.heap[b]?):RowsP p w' v Ls:=by
 obtain⟨b,off,cap,h1,h2,h3,h4⟩:=h
 refine⟨b,off,cap,h1,h2,Nat.lt_of_lt_of_le h3 hs,fun j l hj=>?_⟩
 obtain⟨vj,h5,h6⟩:=h4 j l hj
 refine⟨vj,?_,h6.keep hs hk⟩
 rw[<-h5]
 simp only[World.cell?,hk b h3 h2]
structure BldI (ρ:Rl) (w:World) (l:Nat) (g n:Nat) (L:Lk) (f:Nat->Two) (wr:World):Prop where
 blk:Blk wr g 101 (pcells (2*n) f).toArray
 lk:LkR ρ wr l L
 st:Ste rtOrc ρ w ρ wr
theorem BldI.step {ρ:Rl}{w wr w1:World}{l g n:Nat}{L L':Lk}{f:Nat->Two}(h:BldI ρ w l g n L f wr) (hs:Ste rtOrc ρ wr ρ w1) (hL:LkR ρ w1 l L') (hg:ρ g=0):BldI ρ w l g n L' f w1:=
 ⟨h.blk.ch hs.ch (by rw[hg];unfold rtOrc;decide),hL,h.st.trans hs⟩
theorem BldI.put {ρ:Rl}{w w1:World}{l g n:Nat}{L:Lk}{f:Nat->Two}(h:BldI ρ w l g n L f w1) (hg:ρ g=0) (hgw:w.heap.size<=g) {k:Nat}(hk:k<2*n) (t:Two) {i j:Nat}(hi:i=2*k) (hj:j=2*k+1):
 BldI ρ w l g n L (fun i=>if i=k then t else f i) ((w1.setCell ⟨g,i,none⟩ (.int .u64 t.1)).setCell ⟨g,j,none⟩ (.int .u64 t.2)):=by
 subst hi hj
 have g2:=only_set2 w1 g (2*k) (2*k+1) (.int .u64 t.1) (.int .u64 t.2)
 refine⟨?_,lk_back h.lk g2 hg,ste_back (Below.refl _ _) h.st g2 hgw⟩
 refine(h.blk.set_to (2*k) _ (cs':=((pcells (2*n) f).set (2*k) (.int .u64 t.1)).toArray) (by rw[List.setIfInBounds_toArray])).set_to (2*k+1) _ ?_
 rw[List.setIfInBounds_toArray,pcells_set f t hk]
theorem cset_ne (w:World) (g i o:Nat) (v:Value) (h:o≠i):(w.setCell ⟨g,i,none⟩ v).cell? ⟨g,o,none⟩=w.cell? ⟨g,o,none⟩:=by
 apply World.cell?_setCell_other
 intro e
 injection e with _ e2
 exact h e2.symm
set_option maxHeartbeats 8000000 in
set_option maxRecDepth 100000 in
theorem build_ok (HS:SumOk) (ρ:Rl) (l:Nat) (L:Lk) (v:Value) (R:List By) (w:World) (hf:Fresh ρ w) (h:LkR ρ w l L) (hV:V R.length) (hv:RowsP (fun b=>¬rtOrc (ρ b)) w v R) (hR:∀x∈R,x.length=32) (hlim:L.lim 800000):
 Calls Tryz.prog 101 #[.pointer (some ⟨l,0,none⟩),v] w fun e w'=>∃g,e=.returned (.tuple #[.slice (some ⟨g,0,none⟩) (2*R.length) (2*R.length),.bool true])/\Blk w' g 101 (pcells (2*R.length) (bldN L R)).toArray/\w.heap.size<=g/\LkR ρ w' l (bldL L R)/\Ste rtOrc ρ w ρ w':=by
 have hn16:R.length<=16/\4<=R.length:=by unfold V at hV;omega
 have hiy:=fun W=>is_yes (R.length:Int) W hV
 obtain⟨b,off,cap,rfl,hb1,hb2,hb3⟩:=hv
 obtain⟨n,hn⟩:∃n,n=R.length:=⟨_,rfl⟩
 rw[<-hn]at hiy hn16 ⊢
 have HN:=Lib.hid hn
 have hm:∀W,(Instr.makeSlice 190 (.int .i64 (2*(n:Int))) (.int .i64 (2*(n:Int)))).run Tryz.prog W=.ok (.slice (some ⟨W.heap.size,0,none⟩) (2*n) (2*n)) (W.alloc (.cells (pcells (2*n) (fun _=>(0,0))).toArray 101)):=fun W=>by
  have:=make_pairs (2*n) (by omega) W
  rw[Int.natCast_mul]at this
  exact this
 clear hn hV
 go_enter Tryz.func101,Tryz.ntmps101
 go_wp2_with fail
 refine(hiy _).mono ?_
 rintro e w1 ⟨rfl,rfl⟩
 go_wp2_with fail
 have hg0:ρ w.heap.size=0:=hf _ (Nat.le_refl _)
 have hb0:Below w.heap.size w (w.alloc (.cells (pcells (2*n) fun _=>(0,0)).toArray 101)):=(Below.refl _ _).alloc (Nat.le_refl _) _
 have hrw:∀wr:World,Ste rtOrc ρ w ρ wr->∀(j:Nat) (x:By),R[j]? =some x->∃vj,wr.cell? ⟨b,off+j,none⟩=some vj/\HasP (fun b=>¬rtOrc (ρ b)) wr vj x:=fun wr hs j x hj=>by
  obtain⟨vj,h5,h6⟩:=hb3 j x hj
  exact⟨vj,(hs.ch.cell hb2 hb1).trans h5,h6.keep hs.size (fun b hb e=>hs.ch.keep b hb e)⟩
 have HW:=Lib.hid hrw
 have HB:=Lib.hid (And.intro hb1 (And.intro hb2 hb3))
 have HL:=Lib.hid (And.intro hlim (And.intro hR hg0))
 obtain⟨g,hg⟩:∃g,g=w.heap.size:=⟨_,rfl⟩
 have hstart:BldI ρ w l g n L (nd1 L R 0) (w.alloc (.cells (pcells (2*n) fun _=>(0,0)).toArray 101)):=by
  refine⟨?_,h.below_ hb0,Ste.of_below hb0 hf⟩
  have:nd1 L R 0=fun _=>(0,0):=by funext k;unfold nd1;rw[if_neg (by omega)]
  rw[hg,this]
  exact Blk.new w 101 _
 rw[<-hg]
 have HG:=Lib.hid hg
 generalize (w.alloc (.cells (pcells (2*n) fun _=>(0,0)).toArray 101))=w1 at hstart ⊢
 clear hrw hb1 hb2 hb3 hlim hR hg0 hb0 hm hiy h hg
 go_loopw [21] (fun t wr=>∃i:Nat,t=.int .i64 i/\i<=n/\BldI ρ w l g n (lfL L R i) (nd1 L R i) wr) (fun t _=>n-(intOf t).toNat)
 case atStart=>exact⟨0,rfl,by omega,hstart⟩
 case round=>
  obtain⟨i,rfl,hi,hI⟩:=hrel
  clear hstart
  by_cases hlt:i<n
  ·obtain⟨x,hx⟩:∃x,R[i]? =some x:=⟨_,List.getElem?_eq_getElem (by have:=HN.out;omega)⟩
   obtain⟨vj,hc,hvj⟩:=HW.out wr hI.st i x hx
   obtain⟨A,z,rfl⟩:=hvj.slice
   have m0:(0:Int)<=(i:Int):=by omega
   have m1:(i:Int)<(n:Int):=by omega
   have m2:(n:Int)+(i:Int)<2*(n:Int):=by omega
   have hS:=hI.st
   have HX:=Lib.hid (And.intro hx (And.intro hI hvj))
   clear hx hI hvj
   go_wp2_with fail
   have hx32:x.length=32:=HL.out.2.1 x (List.mem_of_getElem? HX.out.1)
   refine(tleaf_ok HS ρ _ l (lfL L R i) _ x wr HX.out.2.1.st.fresh HX.out.2.1.lk HX.out.2.2 (by intro e;rw[e]at hx32;simp at hx32) (by omega) (Lk.lim_mono (lfL_lim HL.out.1 i) (by omega))).mono ?_
   rintro e w2 ⟨rfl,h2,s2⟩
   have hI2:=HX.out.2.1.step s2 h2 (by rw[HG.out];exact HL.out.2.2)
   have hni:n+i<2*n:=by omega
   have x0:=hI2.blk.cell_ ((n+i)*2) (by rw[List.getElem?_toArray,Nat.mul_comm (n+i) 2];exact(pcells_at _ hni).1)
   have x1:=hI2.blk.cell_ ((n+i)*2+1) (by rw[List.getElem?_toArray,Nat.mul_comm (n+i) 2];exact(pcells_at _ hni).2)
   have y0:=hI2.blk.frozen ((n+i)*2)
   have y1:=hI2.blk.frozen ((n+i)*2+1)
   have yl:=hI2.blk.lt
   have hput:=hI2.put (k:=n+i) (by rw[HG.out];exact HL.out.2.2) (by rw[HG.out];exact Nat.le_refl _) hni (lfN L R i) (i:=(n+i)*2) (j:=(n+i)*2+1) (Nat.mul_comm _ _) (by rw[Nat.mul_comm])
   have HP:=Lib.hid hput
   clear hput hI2 s2 h2 hx32 hS
   unfold pv
   obtain⟨t,ht⟩:∃t,t=(lfL L R i).sum (leafS x):=⟨_,rfl⟩
   rw[<-ht]
   obtain⟨ta,tb⟩:=t
   have HT:=Lib.hid ht
   clear ht
   go_wp2_with fail
   go_roundw
   case rel=>
    refine⟨i+1,by go_num,by omega,?_⟩
    have hgd:R.getD i []=x:=by rw[List.getD_eq_getElem?_getD,HX.out.1];rfl
    have e1:(ta,tb)=lfN L R i:=by rw[HT.out];unfold lfN;rw[hgd]
    have e2:lfL L R (i+1)=(lfL L R i).summed (leafS x):=by simp only[lfL,hgd]
    have e3:nd1 L R (i+1)=fun k=>if k=n+i then lfN L R i else nd1 L R i k:=by
     funext k
     unfold nd1
     rw[<-HN.out]
     by_cases c:k=n+i
     ·subst c
      rw[if_pos (by omega),if_pos rfl,Nat.add_sub_cancel_left]
     ·rw[if_neg c]
      by_cases d:n<=k/\k<n+i
      ·rw[if_pos d,if_pos (by omega)]
      ·rw[if_neg d,if_neg (by omega)]
    rw[e2,e3]
    have:=HP.out
    rw[<-e1]at this ⊢
    exact this
   case measure=>simp[intOf];omega
  ·obtain rfl:n=i:=by omega
   have hd:decide ((n:Int)<(n:Int))=false:=by simp
   have HI:=Lib.hid hI
   clear hI
   go_wp2_with fail
   have hI:=HI.out
   obtain⟨wo,rfl⟩:∃wo:World,wo=wr:=⟨_,rfl⟩
   have n0:(4:Int)<=(n:Int):=by omega
   go_loopw [10] (fun t wr=>∃i:Nat,t=.int .i64 i/\i<=n-1/\BldI ρ w l g n (nd2 L R (n-1-i)).1 (nd2 L R (n-1-i)).2 wr) (fun t _=>(intOf t).toNat)
   case atStart=>
    refine⟨n-1,by go_num,by omega,?_⟩
    rw[Nat.sub_self]
    show BldI ρ w l g n (lfL L R R.length) (nd1 L R R.length) wo
    rw[<-HN.out]
    exact hI
   case round=>
    obtain⟨i,rfl,hi,hQ⟩:=hrel
    clear hI
    by_cases hlt:0<i
    ·have m0:(0:Int)<(i:Int):=by omega
     have m1:(i:Int)<=(n:Int)-1:=by omega
     have m2:2*(i:Int)<2*(n:Int):=by omega
     have m3:2*(i:Int)+1<2*(n:Int):=by omega
     have k0:=pcells_at (n:=2*n) (nd2 L R (n-1-i)).2 (k:=2*i) (by omega)
     have k1:=pcells_at (n:=2*n) (nd2 L R (n-1-i)).2 (k:=2*i+1) (by omega)
     obtain⟨X,hX⟩:∃X,X=(nd2 L R (n-1-i)).2 (2*i):=⟨_,rfl⟩
     obtain⟨Y,hY⟩:∃Y,Y=(nd2 L R (n-1-i)).2 (2*i+1):=⟨_,rfl⟩
     rw[<-hX]at k0
     rw[<-hY]at k1
     have hXY:=Lib.hid (And.intro hX hY)
     obtain⟨Xa,Xb⟩:=X
     obtain⟨Ya,Yb⟩:=Y
     simp only at k0 k1
     have hcl:=fun W h1 h2=>tnode_ok HS ρ l (nd2 L R (n-1-i)).1 (Xa,Xb) (Ya,Yb) W h1 h2 (by rw[hX];exact nd2_u HL.out.1 (by rw[<-HN.out];omega) (by omega) _ _ (by omega)) (by rw[hY];exact nd2_u HL.out.1 (by rw[<-HN.out];omega) (by omega) _ _ (by omega)) (Lk.lim_mono (nd2_lim HL.out.1 _) (by rw[<-HN.out];omega))
     have c0:wr.cell? ⟨g,2*i*2,none⟩=some (.int .u64 Xa):=hQ.blk.cell_ (2*i*2) (by rw[List.getElem?_toArray,Nat.mul_comm (2*i) 2];exact k0.1)
     have c1:wr.cell? ⟨g,2*i*2+1,none⟩=some (.int .u64 Xb):=hQ.blk.cell_ (2*i*2+1) (by rw[List.getElem?_toArray,Nat.mul_comm (2*i) 2];exact k0.2)
     have c2:wr.cell? ⟨g,(2*i+1)*2,none⟩=some (.int .u64 Ya):=hQ.blk.cell_ ((2*i+1)*2) (by rw[List.getElem?_toArray,Nat.mul_comm (2*i+1) 2];exact k1.1)
     have c3:wr.cell? ⟨g,(2*i+1)*2+1,none⟩=some (.int .u64 Yb):=hQ.blk.cell_ ((2*i+1)*2+1) (by rw[List.getElem?_toArray,Nat.mul_comm (2*i+1) 2];exact k1.2)
     have hQl:=hQ.blk.lt
     have hQb:=hQ.lk
     have hQs:=hQ.st
     have HQ:=Lib.hid hQ
     clear hQ hX hY k0 k1
     have hkeep:∀w2,Ste rtOrc ρ wr ρ w2->∀(o:Nat) (v:Value),wr.cell? ⟨g,o,none⟩=some v->w2.cell? ⟨g,o,none⟩=some v:=fun w2 s2 o v hc=>(s2.ch.cell hQl (by rw[HG.out,HL.out.2.2];unfold rtOrc;decide)).trans hc
     have hin:i<2*n:=by omega
     obtain⟨t,ht⟩:∃t,t=(nd2 L R (n-1-i)).1.sum (nodeS (Xa,Xb) (Ya,Yb)):=⟨_,rfl⟩
     have hnext:∀w2,Ste rtOrc ρ wr ρ w2->LkR ρ w2 l ((nd2 L R (n-1-i)).1.summed (nodeS (Xa,Xb) (Ya,Yb)))->
      w2.cell? ⟨g,i*2,none⟩=some (.int .u64 ((nd2 L R (n-1-i)).2 i).1)/\w2.cell? ⟨g,i*2+1,none⟩=some (.int .u64 ((nd2 L R (n-1-i)).2 i).2)/\w2.frozen? ⟨g,i*2,none⟩=false/\w2.frozen? ⟨g,i*2+1,none⟩=false/\g<w2.heap.size/\
      Hid (BldI ρ w l g n ((nd2 L R (n-1-i)).1.summed (nodeS (Xa,Xb) (Ya,Yb))) (fun k=>if k=i then t else(nd2 L R (n-1-i)).2 k) ((w2.setCell ⟨g,i*2,none⟩ (.int .u64 t.1)).setCell ⟨g,i*2+1,none⟩ (.int .u64 t.2)))/\
      (∀(o:Nat) (v:Value),o≠i*2->o≠i*2+1->w2.cell? ⟨g,o,none⟩=some v->((w2.setCell ⟨g,i*2,none⟩ (.int .u64 t.1)).setCell ⟨g,i*2+1,none⟩ (.int .u64 t.2)).cell? ⟨g,o,none⟩=some v):=fun w2 s2 h2=>by
      have hI2:=HQ.out.step s2 h2 (by rw[HG.out];exact HL.out.2.2)
      refine⟨hI2.blk.cell_ (i*2) (by rw[List.getElem?_toArray,Nat.mul_comm i 2];exact(pcells_at _ hin).1),hI2.blk.cell_ (i*2+1) (by rw[List.getElem?_toArray,Nat.mul_comm i 2];exact(pcells_at _ hin).2),hI2.blk.frozen _,hI2.blk.frozen _,hI2.blk.lt,Lib.hid (hI2.put (k:=i) (by rw[HG.out];exact HL.out.2.2) (by rw[HG.out];exact Nat.le_refl _) hin t (Nat.mul_comm _ _) (by rw[Nat.mul_comm])),fun o v h1 h2 hc=>?_⟩
      exact(cset_ne _ g (i*2+1) o _ h2).trans ((cset_ne _ g (i*2) o _ h1).trans hc)
     have h00:2*i*2≠i*2:=by omega
     have h01:2*i*2≠i*2+1:=by omega
     have h10:2*i*2+1≠i*2:=by omega
     have h11:2*i*2+1≠i*2+1:=by omega
     have h20:(2*i+1)*2≠i*2:=by omega
     have h21:(2*i+1)*2≠i*2+1:=by omega
     have h30:(2*i+1)*2+1≠i*2:=by omega
     have h31:(2*i+1)*2+1≠i*2+1:=by omega
     have p0:(0:Int)<=2*(i:Int):=by omega
     have p1:(0:Int)<=2*(i:Int)+1:=by omega
     have p2:(i:Int)<2*(n:Int):=by omega
     have p3:(2*(i:Int)).toNat=2*i:=by omega
     have p4:(2*(i:Int)+1).toNat=2*i+1:=by omega
     have p5:(i:Int)<(n:Int):=by omega
     have p6:i<n:=by omega
     have e1:IntKind.i64.wrap (2*(i:Int))=2*(i:Int):=IntWalk.i64_in _ (by omega)
     have e2:IntKind.i64.wrap (2*(i:Int)+1)=2*(i:Int)+1:=IntWalk.i64_in _ (by omega)
     rw[<-ht]at hcl
     unfold pv at hcl
     obtain⟨ta,tb⟩:=t
     have HT:=Lib.hid ht
     clear ht
     simp only at hnext hcl
     have hst2:Ste rtOrc ρ wr ρ wr.drew:=Ste.of_below (Below.refl _ _).drew hQs.fresh
     have hcl2:=hcl wr.drew hst2.fresh (hQb.below_ (Below.refl _ _).drew)
     go_wp2_with fail
     go_region_held3 (fun w'=>w'.cell? ⟨g,2*i*2,none⟩=some (.int .u64 Xa)/\w'.cell? ⟨g,2*i*2+1,none⟩=some (.int .u64 Xb)/\w'.cell? ⟨g,(2*i+1)*2,none⟩=some (.int .u64 Ya)/\w'.cell? ⟨g,(2*i+1)*2+1,none⟩=some (.int .u64 Yb))
      (first|(with_reducible exact⟨c0,c1,c2,c3⟩)|(with_reducible exact⟨z0,z1,z2,z3⟩)|exact⟨c0,c1,c2,c3⟩)
      ((go_at_call 140;(with_reducible refine hcl2.mono ?_);rintro e w2 ⟨rfl,h2,s2⟩;replace s2:=hst2.trans s2;replace c0:=hkeep w2 s2 _ _ c0;replace c1:=hkeep w2 s2 _ _ c1;replace c2:=hkeep w2 s2 _ _ c2;replace c3:=hkeep w2 s2 _ _ c3;obtain⟨x0,x1,y0,y1,yl,hP,hz⟩:=hnext w2 s2 h2;have z0:=hz _ _ h00 h01 c0;have z1:=hz _ _ h10 h11 c1;have z2:=hz _ _ h20 h21 c2;have z3:=hz _ _ h30 h31 c3))
     have HH:=Lib.hid (And.intro hP hz)
     clear hP hz x0 x1 y0 y1 c0 c1 c2 c3 z0 z1 z2 z3 hkeep hnext hcl hcl2 hst2 s2 h2 hQs hQb
     clear e1 e2
     go_wp2_with fail
     go_roundw
     case rel=>
      refine⟨i-1,by have:((i-1:Nat):Int)=(i:Int)-1:=(by omega);rw[this],by omega,?_⟩
      have q1:n-1-(i-1)=(n-1-i)+1:=by omega
      have q2:R.length-1-(n-1-i)=i:=by rw[<-HN.out];omega
      have hP:=HH.out.1.out
      have q3:=HT.out
      obtain⟨q4,q5⟩:=hXY.out
      rw[q1]
      simp only[nd2,q2]
      rw[<-q4,<-q5,<-q3]
      exact hP
     case measure=>simp[intOf];omega
    ·obtain rfl:i=0:=by omega
     have HQ:=Lib.hid hQ
     clear hQ
     go_wp2_with fail
     go_ret2
     have hQ:=HQ.out
     rw[Nat.sub_zero]at hQ
     refine⟨g,rfl,?_,by rw[HG.out];exact Nat.le_refl _,?_,hQ.st⟩
     ·unfold bldN
      rw[<-HN.out]
      exact hQ.blk
     ·unfold bldL
      rw[<-HN.out]
      exact hQ.lk
end Go.Proofs.YtggmdjdflaglpaaGreat
namespace Go.Proofs.YtggmdjdflaglpaaGreat
open Go.RowKit Go.Proofs.YtggmdjdflaglpaaGreat.geo
set_option linter.unusedVariables false
theorem aris_ok (wl:Nat) (k:Nat) (hk:k<2) (w:World):Calls Tryz.prog 99 #[.pointer (some ⟨wl,0,none⟩),.int .i64 k] w fun e w'=>e=.returned (.bool true)/\w=w':=by
 have k0:(0:Int)<=(k:Int):=by omega
 have k1:(k:Int)<2:=by omega
 go_enter Tryz.func99,Tryz.ntmps99
 go_wp2_with fail
 go_ret
 exact⟨rfl,rfl⟩
def lcs (ls:List Lf):List Value:=ls.flatMap lfc
theorem lfc_len (l:Lf):(lfc l).length=8:=rfl
theorem lcs_len (ls:List Lf):(lcs ls).length=8*ls.length:=by
 induction ls with
 |nil=>rfl
 |cons a ls ih=>simp only[lcs,List.flatMap_cons,List.length_append,lfc_len,List.length_cons];unfold lcs at ih;rw[ih];omega
theorem lcs_at:∀{ls:List Lf}{i:Nat}{l:Lf},ls[i]? =some l->∀j u,(lfc l)[j]? =some u->(lcs ls)[8*i+j]? =some u
 |[],i,l,h,j,u,hj=>by simp at h
 |a::ls,0,l,h,j,u,hj=>by
  simp at h
  subst h
  have hj8:j<8:=(List.getElem?_eq_some_iff.1 hj).1
  show(lfc a++lcs ls)[8*0+j]? =some u
  rw[Nat.mul_zero,Nat.zero_add,List.getElem?_append_left (by rw[lfc_len];exact hj8)]
  exact hj
 |a::ls,i+1,l,h,j,u,hj=>by
  have:=lcs_at (ls:=ls) (i:=i) (l:=l) (by simpa using h) j u hj
  show(lfc a++lcs ls)[8*(i+1)+j]? =some u
  rw[List.getElem?_append_right (by rw[lfc_len];omega),lfc_len]
  have e:8*(i+1)+j-8=8*i+j:=by omega
  rw[e]
  exact this
def LvsP (p:Nat->Prop) (w:World) (v:Value) (ls:List Lf):Prop:=
 ∃g cap r,v=.slice (some ⟨g,0,none⟩) ls.length cap/\p g/\Blk w g 103 (lcs ls++r).toArray
theorem Blk.leaf {w:World}{g:Nat}{ls:List Lf}{r:List Value}(h:Blk w g 103 (lcs ls++r).toArray) {i:Nat}{l:Lf}(hi:ls[i]? =some l):w.rangeAt g (i*8) (lfc l):=fun j v hv=>by
 have e:=lcs_at hi j v hv
 exact h.cell_ (i*8+j) (by rw[List.getElem?_toArray,Nat.mul_comm,List.getElem?_append_left (List.getElem?_eq_some_iff.1 e).1];exact e)
theorem info32:(Tryz.prog.info? 32).map (fun i=>(i.zero,i.size,i.bytes))=some (some (.slice none 0 0),1,24):=by kernel_rfl
def allB (ls:List Lf) (i:Nat):By:=((ls.take i).map leafB).flatten
theorem allB_succ {ls:List Lf}{i:Nat}{l:Lf}(h:ls[i]? =some l):allB ls (i+1)=allB ls i++leafB l:=by
 unfold allB
 rw[List.take_add_one,h]
 simp
theorem allB_len (ls:List Lf) (i:Nat) (h:i<=ls.length):(allB ls i).length=32*i:=by
 induction i with
 |zero=>rfl
 |succ i ih=>
  obtain⟨l,hl⟩:∃l,ls[i]? =some l:=⟨_,List.getElem?_eq_getElem (by omega)⟩
  rw[allB_succ hl,List.length_append,ih (by omega),leafB_len]
  omega
structure Awi (h:Nat) (ls:List Lf) (i:Nat) (v8 v9:Value) (wr:World):Prop where
 rows:∃xs:List Value,wr.ownsRow h 32 1 v8 i xs/\xs.length=i/\∀(j:Nat) (x:Value) (l:Lf),xs[j]? =some x->ls[j]? =some l->HasP (fun b=>h<=b/\v8.ownBlock≠some b/\v9.ownBlock≠some b) wr x (leafB l)
 all:OwnB h wr v9 (allB ls i)
 ne:∀b,v8.ownBlock=some b->v9.ownBlock≠some b
theorem HasP.own_lt {p:Nat->Prop}{w:World}{v:Value}{l:By}(h:HasP p w v l) {b:Nat}(hb:v.ownBlock=some b):p b/\b<w.heap.size:=by
 rcases h with⟨rfl,_⟩|⟨b',o,c,rfl,h1,h2,_⟩
 ·simp[Value.ownBlock]at hb
 ·simp only[Value.ownBlock]at hb
  injection hb with hb
  rw[<-hb]
  exact⟨h1,h2⟩
theorem Awi.push {h:Nat}{ls:List Lf}{i:Nat}{l:Lf}{v8 v9 x v8' v9':Value}{w1 w2 w3:World}{xs:List Value}(hi:ls[i]? =some l)
 (hrow:w1.ownsRow h 32 1 v8 i xs) (hxs:xs.length=i) (hhas:∀(j:Nat) (x:Value) (l:Lf),xs[j]? =some x->ls[j]? =some l->HasP (fun b=>h<=b/\v8.ownBlock≠some b/\v9.ownBlock≠some b) w1 x (leafB l))
 (hall:OwnB h w1 v9 (allB ls i)) (hne:∀b,v8.ownBlock=some b->v9.ownBlock≠some b) (hx:HasP (fun b=>h<=b/\v8.ownBlock≠some b/\v9.ownBlock≠some b) w1 x (leafB l))
 (hr2:w2.ownsRow h 32 1 v8' (i+1) (xs++[x])) (hg2:w1.grownBy w2 v8.ownBlock) (ho2:v8'.ownBlock=v8.ownBlock\/v8'.ownBlock=some w1.heap.size)
 (hr3:OwnB h w3 v9' (allB ls i++leafB l)) (hg3:w2.grownBy w3 v9.ownBlock) (ho3:v9'.ownBlock=v9.ownBlock\/v9'.ownBlock=some w2.heap.size):Awi h ls (i+1) v8' v9' w3:=by
 have hs2:=hg2.size
 have n1:∀b,v8'.ownBlock=some b->v9.ownBlock≠some b:=fun b hb c=>by
  rcases ho2 with e|e
  ·exact hne b (e▸hb) c
  ·rw[e]at hb
   injection hb with hb
   have:=(hall.ge c).2
   omega
 have hfar:∀{y:Value}{m:By},HasP (fun b=>h<=b/\v8.ownBlock≠some b/\v9.ownBlock≠some b) w1 y m->HasP (fun b=>h<=b/\v8'.ownBlock≠some b/\v9'.ownBlock≠some b) w3 y m:=fun {y m} hy=>by
  have k1:HasP (fun b=>(h<=b/\v8.ownBlock≠some b/\v9.ownBlock≠some b)/\b<w1.heap.size) w1 y m:=hy.weakB (fun b hb e=>⟨e,hb⟩)
  have k2:=k1.keep hg2.size (fun b hb e=>hg2.block b hb (fun c=>e.1.2.1 c.symm))
  have k3:=k2.keep hg3.size (fun b hb e=>hg3.block b hb (fun c=>e.1.2.2 c.symm))
  refine k3.weak (fun b e=>⟨e.1.1,fun c=>?_,fun c=>?_⟩)
  ·rcases ho2 with q|q
   ·exact e.1.2.1 (q▸c)
   ·rw[q]at c
    injection c with c
    have:=e.2
    omega
  ·rcases ho3 with q|q
   ·exact e.1.2.2 (q▸c)
   ·rw[q]at c
    injection c with c
    have:=e.2
    omega
 refine⟨⟨xs++[x],row_keep hr2 (fun b hb e=>hg3.block b hb (fun c=>n1 b e c.symm)),by simp[hxs],fun j y m hj hm=>?_⟩,by rw[allB_succ hi];exact hr3,fun b hb c=>?_⟩
 ·by_cases c:j<xs.length
  ·rw[List.getElem?_append_left c]at hj
   exact hfar (hhas j y m hj hm)
  ·have hjl:=(List.getElem?_eq_some_iff.1 hj).1
   rw[List.length_append,List.length_singleton]at hjl
   obtain rfl:j=i:=by omega
   rw[List.getElem?_append_right (by omega),hxs]at hj
   simp at hj
   subst hj
   rw[hi]at hm
   injection hm with hm
   rw[<-hm]
   exact hfar hx
 ·rcases ho3 with q|q
  ·exact n1 b hb (q▸c)
  ·rw[q]at c
   injection c with c
   have:=row_lt hr2 hb
   omega
end Go.Proofs.YtggmdjdflaglpaaGreat
