/- Lemmas and contracts under the claims of this seat. No condition. -/
import Derived.BigQuiet
import Derived.Outline
import Derived.Test.YtchinbgemenenaaGreatDoorZr1
import Derived.Test.YtchinbgemenenaaGreatDoorZr7
import Derived.Test.YtchinbgemenenaaGreatDoorZr8
import Derived.Test.YtchinbgemenenaaGreatDoorZr11
import Derived.Test.YtchinbgemenenaaGreatDoorZr12
import Derived.Test.YtchinbgemenenaaGreatDoorZr13
import Derived.Test.YtchinbgemenenaaGreatDoorZr16
namespace Go.Proofs.YtchinbgemenenaaGreatDoor
set_option linter.unusedVariables false
set_option linter.unusedSimpArgs false
set_option maxRecDepth 100000
set_option maxHeartbeats 12800000
section
open Go.RowKit
def cP(a:Option Addr)(j:Nat):Prop:=∃ad,a=some ad∧ad.block=j
def DoR(B:Nat)(X:Nat→Prop)(w:World)(q ra:Nat)(most:Int)(t:List Int)(cm:Nat)(code n:Int)(d l:List Int)(e:Ending)(w':World):Prop:=
 ∃da dc pa pc,e= .returned (.agg #[.int .i64 code, .int .i64 n, .slice da d.length dc, .slice pa l.length pc])∧Reads w' .u8 da d∧Reads w' .i64 pa l∧
  (∃c,c≤cm∧StT B (fun j=>X j∨cP da j∨cP pa j) w' q ra most t c)∧Chg (exT B X) w w'∧∀j,cP da j∨cP pa j→w.heap.size≤j
section
variable {B:Nat}{X:Nat→Prop}{w w':World}{q ra:Nat}{most:Int}{t:List Int}{c:Nat}
theorem aZ{j:Nat}(h:cP none j):False:=by obtain⟨ad,e,_⟩:=h;cases e
theorem sK{b:Nat}{x0 x1 x2 x3:Value}{ty:TypeId}(h:w.heap[b]? =some (.cells #[x0,x1,x2,x3] ty (0,0)))(v0 v1 v2 v3:Value):
  ((((w.setCell ⟨b,0,none⟩ v0).setCell ⟨b,1,none⟩ v1).setCell ⟨b,2,none⟩ v2).setCell ⟨b,3,none⟩ v3).heap[b]? =some (.cells #[v0,v1,v2,v3] ty (0,0))∧Chg (fun j=>j=b) w ((((w.setCell ⟨b,0,none⟩ v0).setCell ⟨b,1,none⟩ v1).setCell ⟨b,2,none⟩ v2).setCell ⟨b,3,none⟩ v3):=
 ⟨bT (bT (bT (bT h 0 v0) 1 v1) 2 v2) 3 v3,by
  have h1:=(Chg.refl (S:=fun j=>j=b) (w:=w)).setCell ⟨b,0,none⟩ (Ei rfl) v0
  have h2:=h1.setCell ⟨b,1,none⟩ (Ei rfl) v1
  have h3:=h2.setCell ⟨b,2,none⟩ (Ei rfl) v2
  exact h3.setCell ⟨b,3,none⟩ (Ei rfl) v3⟩
theorem oG{b:Nat}{v0 v1 v2 v3:Value}{a:Act}{Rp:Ending→World→Prop}(h4:a.tmps[4]?.getD undef= .pointer (some ⟨b,0,none⟩))(hd:a.defers=[])(hb:w.heap[b]? =some (.cells #[v0,v1,v2,v3] 38 (0,0)))(hR:Rp (.returned (.agg #[v0,v1,v2,v3])) w):bodyPost Tryz.prog Tryz.f11 Rp .ret a w:=by
 have e0:=aG7 w b 0 _ _ _ hb;have e1:=aG7 w b 1 _ _ _ hb;have e2:=aG7 w b 2 _ _ _ hb;have e3:=aG7 w b 3 _ _ _ hb;show a.defers=[]∧∃v,(results Tryz.f11 a.tmps).run Tryz.prog w= .ok v w∧Rp (.returned v) w;refine⟨hd,_,?_,hR⟩;simp[results,Tryz.f11,go_sem,h4,e0,e1,e2,e3]
theorem gS(h:StT B X w q ra most t c){k at_ n:Int}{da:Option Addr}{dn dc:Nat}{code:Int}{t':List Int}{cm:Nat}(hk:k=1∨k=2∨k=3)
  (hE:∀w1 X',StT B X' w1 q ra most t c→Below w.heap.size w w1→(∀j,X' j→X j∨w.heap.size≤j)→(∀j,X j→X' j)→Calls Tryz.prog 23 #[.pointer (some ⟨q,0,none⟩),bD k at_ n da dn dc] w1 fun e w'=>e= .returned (.int .i64 code)∧(∃c',c'≤cm∧StT B X' w' q ra most t' c')∧Chg (exT B X') w1 w'):
  Calls Tryz.prog 11 #[.pointer (some ⟨q,0,none⟩),bD k at_ n da dn dc] w (DoR B X w q ra most t' cm code 0 [] []):=by
 have HE:=θ hE;have H:=θ h;clear hE h;unfold bD at HE⊢;rcases hk with rfl | rfl | rfl
 ·go_enter aD7,aE1;go_wp2_with fail;obtain⟨b4,hb4⟩:∃b4,w.heap.size+1=b4:=⟨_,rfl⟩;have hbx:=aH5 (w.alloc (.cells #[.int .i64 1, .int .i64 at_, .int .i64 n, .slice da dn dc] 34)) (.cells #[.int .i64 0, .int .i64 0, .slice none 0 0, .slice none 0 0] 38);have hb1:Below w.heap.size w ((w.alloc (.cells #[.int .i64 1, .int .i64 at_, .int .i64 n, .slice da dn dc] 34)).alloc (.cells #[.int .i64 0, .int .i64 0, .slice none 0 0, .slice none 0 0] 38)):=((am4 _ _).alloc (aA5 _) _).alloc Es _;rw[aG3,hb4]at hbx;refine(HE.o _ (fun j=>X j∨j=b4) (H.o.less hb1 (fun j e=>e.imp id (fun e=>by subst e;simp;omega))) hb1 (fun j e=>e.imp id (fun e=>E)) (fun j e=>Ei e)).mono ?_;rintro e w2 ⟨rfl,⟨c',hc',hS⟩,hch⟩;have hb2:=hch.heap hbx (fun e=>e.2 (Ej rfl));have HS:=θ hS;have HCH:=θ hch;have HB2:=θ hb2;have f0:=aH3 w2 b4 0 _ _ hb2;have f1:=aH3 w2 b4 1 _ _ hb2;have f2:=aH3 w2 b4 2 _ _ hb2;have f3:=aH3 w2 b4 3 _ _ hb2;have e0:=aG7 w2 b4 0 _ _ _ hb2;have e1:=aG7 w2 b4 1 _ _ _ hb2;have e2:=aG7 w2 b4 2 _ _ _ hb2;have e3:=aG7 w2 b4 3 _ _ _ hb2;clear hS hch hb2;go_wp2_with fail;obtain⟨hb3,hc3⟩:=sK HB2.o (.int .i64 code) (.int .i64 0) (.slice none 0 0) (.slice none 0 0);refine oG rfl rfl hb3 ⟨none,0,none,0,rfl,Reads.nil,Reads.nil,⟨c',hc',(HS.o.aside hc3 (fun j e1 _ e2=>e1.2 (Ej e2))).mono (fun j e=>?_)⟩,((Chg.of_below hb1).trans (HCH.o.mono (S':=exT B X) (fun j e=>⟨e.1,fun hx=>e.2 (Ei hx)⟩)) (fun b e=>Ei e)).trans hc3 (fun b e=>Ej E),fun j e=>(e.elim aZ aZ).elim⟩;exact e.elim (fun e=>Ei (Ei e)) (fun e=>(e.elim aZ aZ).elim)
 ·go_enter aD7,aE1;go_wp2_with fail;obtain⟨b4,hb4⟩:∃b4,w.heap.size+1=b4:=⟨_,rfl⟩;have hbx:=aH5 (w.alloc (.cells #[.int .i64 2, .int .i64 at_, .int .i64 n, .slice da dn dc] 34)) (.cells #[.int .i64 0, .int .i64 0, .slice none 0 0, .slice none 0 0] 38);have hb1:Below w.heap.size w ((w.alloc (.cells #[.int .i64 2, .int .i64 at_, .int .i64 n, .slice da dn dc] 34)).alloc (.cells #[.int .i64 0, .int .i64 0, .slice none 0 0, .slice none 0 0] 38)):=((am4 _ _).alloc (aA5 _) _).alloc Es _;rw[aG3,hb4]at hbx;refine(HE.o _ (fun j=>X j∨j=b4) (H.o.less hb1 (fun j e=>e.imp id (fun e=>by subst e;simp;omega))) hb1 (fun j e=>e.imp id (fun e=>E)) (fun j e=>Ei e)).mono ?_;rintro e w2 ⟨rfl,⟨c',hc',hS⟩,hch⟩;have hb2:=hch.heap hbx (fun e=>e.2 (Ej rfl));have HS:=θ hS;have HCH:=θ hch;have HB2:=θ hb2;have f0:=aH3 w2 b4 0 _ _ hb2;have f1:=aH3 w2 b4 1 _ _ hb2;have f2:=aH3 w2 b4 2 _ _ hb2;have f3:=aH3 w2 b4 3 _ _ hb2;have e0:=aG7 w2 b4 0 _ _ _ hb2;have e1:=aG7 w2 b4 1 _ _ _ hb2;have e2:=aG7 w2 b4 2 _ _ _ hb2;have e3:=aG7 w2 b4 3 _ _ _ hb2;clear hS hch hb2;go_wp2_with fail;obtain⟨hb3,hc3⟩:=sK HB2.o (.int .i64 code) (.int .i64 0) (.slice none 0 0) (.slice none 0 0);refine oG rfl rfl hb3 ⟨none,0,none,0,rfl,Reads.nil,Reads.nil,⟨c',hc',(HS.o.aside hc3 (fun j e1 _ e2=>e1.2 (Ej e2))).mono (fun j e=>?_)⟩,((Chg.of_below hb1).trans (HCH.o.mono (S':=exT B X) (fun j e=>⟨e.1,fun hx=>e.2 (Ei hx)⟩)) (fun b e=>Ei e)).trans hc3 (fun b e=>Ej E),fun j e=>(e.elim aZ aZ).elim⟩;exact e.elim (fun e=>Ei (Ei e)) (fun e=>(e.elim aZ aZ).elim)
 ·go_enter aD7,aE1;go_wp2_with fail;obtain⟨b4,hb4⟩:∃b4,w.heap.size+1=b4:=⟨_,rfl⟩;have hbx:=aH5 (w.alloc (.cells #[.int .i64 3, .int .i64 at_, .int .i64 n, .slice da dn dc] 34)) (.cells #[.int .i64 0, .int .i64 0, .slice none 0 0, .slice none 0 0] 38);have hb1:Below w.heap.size w ((w.alloc (.cells #[.int .i64 3, .int .i64 at_, .int .i64 n, .slice da dn dc] 34)).alloc (.cells #[.int .i64 0, .int .i64 0, .slice none 0 0, .slice none 0 0] 38)):=((am4 _ _).alloc (aA5 _) _).alloc Es _;rw[aG3,hb4]at hbx;refine(HE.o _ (fun j=>X j∨j=b4) (H.o.less hb1 (fun j e=>e.imp id (fun e=>by subst e;simp;omega))) hb1 (fun j e=>e.imp id (fun e=>E)) (fun j e=>Ei e)).mono ?_;rintro e w2 ⟨rfl,⟨c',hc',hS⟩,hch⟩;have hb2:=hch.heap hbx (fun e=>e.2 (Ej rfl));have HS:=θ hS;have HCH:=θ hch;have HB2:=θ hb2;have f0:=aH3 w2 b4 0 _ _ hb2;have f1:=aH3 w2 b4 1 _ _ hb2;have f2:=aH3 w2 b4 2 _ _ hb2;have f3:=aH3 w2 b4 3 _ _ hb2;have e0:=aG7 w2 b4 0 _ _ _ hb2;have e1:=aG7 w2 b4 1 _ _ _ hb2;have e2:=aG7 w2 b4 2 _ _ _ hb2;have e3:=aG7 w2 b4 3 _ _ _ hb2;clear hS hch hb2;go_wp2_with fail;obtain⟨hb3,hc3⟩:=sK HB2.o (.int .i64 code) (.int .i64 0) (.slice none 0 0) (.slice none 0 0);refine oG rfl rfl hb3 ⟨none,0,none,0,rfl,Reads.nil,Reads.nil,⟨c',hc',(HS.o.aside hc3 (fun j e1 _ e2=>e1.2 (Ej e2))).mono (fun j e=>?_)⟩,((Chg.of_below hb1).trans (HCH.o.mono (S':=exT B X) (fun j e=>⟨e.1,fun hx=>e.2 (Ei hx)⟩)) (fun b e=>Ei e)).trans hc3 (fun b e=>Ej E),fun j e=>(e.elim aZ aZ).elim⟩;exact e.elim (fun e=>Ei (Ei e)) (fun e=>(e.elim aZ aZ).elim)
def doW(w:World)(k at_ n:Int)(da:Option Addr)(dn dc:Nat):World:=(w.alloc (.cells #[.int .i64 k, .int .i64 at_, .int .i64 n, .slice da dn dc] 34)).alloc (.cells #[.int .i64 0, .int .i64 0, .slice none 0 0, .slice none 0 0] 38)
def doX(X:Nat→Prop)(b:Nat)(j:Nat):Prop:=X j∨j=b∨j=b+1
theorem rD(h:StT B X w q ra most t c)(k at_ n:Int)(da:Option Addr)(dn dc:Nat):StT B (doX X w.heap.size) (doW w k at_ n da dn dc) q ra most t c∧(doW w k at_ n da dn dc).heap[w.heap.size]? =some (.cells #[.int .i64 k, .int .i64 at_, .int .i64 n, .slice da dn dc] 34 (0,0))∧
  (doW w k at_ n da dn dc).heap[w.heap.size+1]? =some (.cells #[.int .i64 0, .int .i64 0, .slice none 0 0, .slice none 0 0] 38 (0,0))∧Below w.heap.size w (doW w k at_ n da dn dc)∧(doW w k at_ n da dn dc).heap.size=w.heap.size+2:=by
 have hb1:Below w.heap.size w (doW w k at_ n da dn dc):=((am4 _ _).alloc (aA5 _) _).alloc Es _;have hs:(doW w k at_ n da dn dc).heap.size=w.heap.size+2:=by unfold doW;simp
 refine⟨h.less hb1 (fun j e=>e.imp id (fun e=>E)),?_,?_,hb1,hs⟩
 ·unfold doW;rw[heap_alloc_old _ _ Es];exact aH5 w _
 ·have :=aH5 (w.alloc (.cells #[.int .i64 k, .int .i64 at_, .int .i64 n, .slice da dn dc] 34)) (.cells #[.int .i64 0, .int .i64 0, .slice none 0 0, .slice none 0 0] 38);rw[aG3]at this;exact this
theorem rC{w1 w2:World}(hb:Below w.heap.size w w1)(hs1:w1.heap.size=w.heap.size+2){da pa:Option Addr}{t':List Int}{c' cm:Nat}(hS:StT B (fun j=>doX X w.heap.size j∨cP da j∨cP pa j) w2 q ra most t' c')(hc':c'≤cm)(hch:Chg (exT B (doX X w.heap.size)) w1 w2)
  (hr:w1.heap[w.heap.size+1]? =some (.cells #[.int .i64 0, .int .i64 0, .slice none 0 0, .slice none 0 0] 38 (0,0))) {d l:List Int} (hd:Reads w2 .u8 da d) (hl:Reads w2 .i64 pa l) (hv:∀j,cP da j∨cP pa j→w1.heap.size≤j) (code n:Int) (dc pc:Nat) {m1 m2:Nat} (hm1:d.length=m1) (hm2:l.length=m2)
  {a:Act} (h4:a.tmps[4]?.getD undef= .pointer (some ⟨w.heap.size+1,0,none⟩)) (hdf:a.defers=[]):
  bodyPost Tryz.prog Tryz.f11 (DoR B X w q ra most t' cm code n d l) .ret a ((((w2.setCell ⟨w.heap.size+1,0,none⟩ (.int .i64 code)).setCell ⟨w.heap.size+1,1,none⟩ (.int .i64 n)).setCell ⟨w.heap.size+1,2,none⟩ (.slice da m1 dc)).setCell ⟨w.heap.size+1,3,none⟩ (.slice pa m2 pc)):=by
 subst hm1 hm2;obtain⟨hb3,hc3⟩:=sK (hch.heap hr (fun e=>e.2 (Ej (Ej rfl)))) (.int .i64 code) (.int .i64 n) (.slice da d.length dc) (.slice pa l.length pc);refine oG h4 hdf hb3 ⟨da,dc,pa,pc,rfl,hc3.reads hd (fun ad e e2=>?_),hc3.reads hl (fun ad e e2=>?_),⟨c',hc',(hS.aside hc3 (fun j e1 _ e2=>e1.2 (Ei (Ej (Ej e2))))).mono (fun j e=>Ei (e.imp Ei id))⟩,((Chg.of_below hb).trans (hch.mono (S':=exT B X) (fun j e=>⟨e.1,fun hx=>e.2 (Ei hx)⟩)) (fun b e=>Ei e)).trans hc3 (fun b e=>Ej E),fun j e=>by have :=hv j e;omega⟩
 ·have :=hv ad.block (Ei ⟨ad,e,rfl⟩);omega
 ·have :=hv ad.block (Ej ⟨ad,e,rfl⟩);omega
theorem vnil{Y:Nat→Prop}(h:StT B Y w q ra most t c):StT B (fun j=>Y j∨cP none j∨cP none j) w q ra most t c:=h.mono (fun j e=>e.elim id (fun e=>(e.elim aZ aZ).elim))
theorem yZ(h:StT B X w q ra most t c)(o:Obj)(code n:Int){a:Act}(h4:a.tmps[4]?.getD undef= .pointer (some ⟨w.heap.size+1,0,none⟩))(hdf:a.defers=[]):
  bodyPost Tryz.prog Tryz.f11 (DoR B X w q ra most t c code n [] []) .ret a ((w.alloc o).alloc (.cells #[.int .i64 code, .int .i64 n, .slice none 0 0, .slice none 0 0] 38)):=by
 have hb1:Below w.heap.size w ((w.alloc o).alloc (.cells #[.int .i64 code, .int .i64 n, .slice none 0 0, .slice none 0 0] 38)):=((am4 _ _).alloc (aA5 _) _).alloc Es _;have hn:=aH5 (w.alloc o) (.cells #[.int .i64 code, .int .i64 n, .slice none 0 0, .slice none 0 0] 38);rw[aG3]at hn;exact oG h4 hdf hn ⟨none,0,none,0,rfl,Reads.nil,Reads.nil,⟨c,aA5 _,vnil (h.less hb1 (fun j e=>Ei e))⟩,Chg.of_below hb1,fun j e=>(e.elim aZ aZ).elim⟩
theorem aa5(h:StT B X w q ra most t c){at_ n:Int}{da:Option Addr}{dn dc:Nat}:
  Calls Tryz.prog 11 #[.pointer (some ⟨q,0,none⟩),bD 4 at_ n da dn dc] w (DoR B X w q ra most t c 0 t.length [] []):=by
 have HL:=θ (fun(w':World) (hb:Below w.heap.size w w')=>(show ∃p,w'.cell? ⟨q,0,none⟩=some (.pointer (some ⟨p,0,none⟩))∧Calls Tryz.prog 24 #[.pointer (some ⟨p,0,none⟩)] w' fun e w''=>e= .returned (.int .i64 t.length)∧w'=w'' by
  obtain⟨p,B',pk,pp,mv,R,M,h⟩:=h
  exact⟨p,(h.below hb).cells.1,kY (h.below hb).lv⟩))
 have H:=θ h;clear h;unfold bD;obtain⟨p,hc0,hlen⟩:=HL.o _ (((am4 w.heap.size w).alloc (aA5 _) (.cells #[.int .i64 4, .int .i64 at_, .int .i64 n, .slice da dn dc] 34)).alloc Es (.cells #[.int .i64 0, .int .i64 0, .slice none 0 0, .slice none 0 0] 38));have HLEN:=θ hlen;clear HL hlen;go_enter aD7,aE1;go_wp2_with fail;refine HLEN.o.mono ?_;rintro e w2 ⟨rfl,rfl⟩;clear HLEN hc0;go_wp2_with fail;exact yZ H.o _ _ _ rfl rfl
theorem aa4(h:StT B X w q ra most t c){k at_ n:Int}{da:Option Addr}{dn dc:Nat}(hk:¬(1≤k∧k≤8)):
  Calls Tryz.prog 11 #[.pointer (some ⟨q,0,none⟩),bD k at_ n da dn dc] w (DoR B X w q ra most t c 1 0 [] []):=by
 have H:=θ h;clear h;unfold bD;have d1:(k==1)=false:=by simp;omega
 have d2:(k==2)=false:=by simp;omega
 have d3:(k==3)=false:=by simp;omega
 have d4:(k==4)=false:=by simp;omega
 have d5:(k==5)=false:=by simp;omega
 have d6:(k==6)=false:=by simp;omega
 have d7:(k==7)=false:=by simp;omega
 have d8:(k==8)=false:=by simp;omega
 clear hk;go_enter aD7,aE1;go_wp2_with fail;exact yZ H.o _ _ _ rfl rfl
end
section
variable {B:Nat}{X:Nat→Prop}{w w':World}{q p ra:Nat}{most:Int}{t:List Int}{c B' pk pp:Nat}{mv:Int}{R:List Nat}{M:Nat→Bool}
theorem StE.own {b0:Nat}{e:TypeId}{v:Value}{n:Nat}{xs:List Value}(h:StE B X w q p ra most t c B' pk pp mv R M)(ho:LvO b0 e B' (inX B' X q) w' p pk pp ra mv t R c M v n xs)(hc:Chg (exT B' (inX B' X q)) w w')(hb:w.heap.size≤b0):
  StE B (fun j=>X j∨v.ownBlock=some j) w' q p ra most t c B' pk pp mv R M∧Chg (exT B X) w w'∧∀j,v.ownBlock=some j→w.heap.size≤j:=by
 have hv:∀j,v.ownBlock=some j→w.heap.size≤j:=fun j e=>by have :=ho.own.lt j e;omega
 refine⟨⟨ho.lv.mono (fun j e=>?_),h.le,hc.heap h.q0 (fun e=>inX_q e rfl),⟨h.qx.1,fun e=>e.elim h.qx.2 (fun e=>by have :=hv q e;have :=h.lt;omega)⟩⟩,hc.mono (fun j e=>Em h.le e),hv⟩;obtain⟨e1,(e | e) | e⟩:=e
 ·exact Ei ⟨e1,Ei e⟩
 ·exact Ej e
 ·exact Ei ⟨e1,Ej e⟩
theorem rK{a:Option Addr}{n c:Nat}{j:Nat}:cP a j↔(Value.slice a n c).ownBlock=some j:=by
 cases a with
 | none=>exact⟨fun h=>(aZ h).elim,fun h=>nomatch h⟩
 | some ad=>exact⟨fun⟨ad',e,e2⟩=>by cases e;rw[←e2];rfl,fun h=>⟨ad,rfl,by have h:some ad.block=some j:=h;injection h⟩⟩
theorem Tz(h:StT B X w q ra most t c)(hTab:BitTab w)(htl:0<B){k n:Nat}{da:Option Addr}{dn dc:Nat}(hkn:k+n≤t.length):
  Calls Tryz.prog 11 #[.pointer (some ⟨q,0,none⟩),bD 5 k n da dn dc] w (DoR B X w q ra most t c 0 0 ((t.drop k).take n) []):=by
 obtain⟨⟨p,B',pk,pp,mv,R,M,h1⟩,hbx,hrx,hb1,hs1⟩:=rD h 5 k n da dn dc;have hle:=h1.le;have h1d:StE B (doX X w.heap.size) (doW w 5 k n da dn dc).drew q p ra most t c B' pk pp mv R M:=h1.below ⟨rfl,rfl,rfl,aA5 _,fun _ _=>rfl⟩;have HT:=θ (Jr h1d.lv (show BitTab (doW w 5 k n da dn dc)from hTab.below' hb1) E hkn);have H1:=θ h1d;have HCL:=θ (And.intro h1.cells.1 (And.intro (aG7 _ w.heap.size 1 _ _ _ hbx) (aG7 _ w.heap.size 2 _ _ _ hbx)));have e0:=aG7 _ w.heap.size 0 _ _ _ hbx;have HR:=θ (And.intro hrx (And.intro hb1 hs1));clear h h1 h1d hbx hrx hb1 hs1 hTab;unfold bD;go_enter aD7,aE1;go_wp2_with fail;change Code.wp _ _ _ _ (doW w 5 k n da dn dc);generalize hw1:doW w 5 k n da dn dc=w1 at *;refine aE (fun w'=>w'.cell? ⟨q,0,none⟩=some (.pointer (some ⟨p,0,none⟩))∧w'.cell? ⟨w.heap.size,1,none⟩=some (.int .i64 k)∧w'.cell? ⟨w.heap.size,2,none⟩=some (.int .i64 n)) Ek (HCL.o) (fun hh=>?_);refine rt 0 hh ?_;refine rt 1 hh ?_;refine rt 2 hh ?_;refine rt 3 hh ?_;refine rt 4 hh ?_;refine rt 5 hh ?_;refine rt 6 hh ?_;refine rt 7 hh ?_;refine rg 8 fun κ hK=>?_;go_simp;refine HT.o.mono ?_;rintro e w2 ⟨a,cap,rfl,ho,hch⟩;obtain⟨hE,hc2,hv⟩:=H1.o.own ho hch (aA5 _);have hcl2:=And.intro hE.cells.1 (And.intro (hc2.cell HCL.o.2.1 (fun e=>e.2 (Ej (Ei rfl)))) (hc2.cell HCL.o.2.2 (fun e=>e.2 (Ej (Ei rfl)))));have HE:=θ (And.intro hE (And.intro hc2 hv));have HO:=θ ho;clear hE hc2 hv ho hch HT;refine hK.out _ _ (hcl2) ?_;intro hh;try simp only[pt]
 refine rt 9 hh ?_;refine rt 10 hh ?_;refine rt 11 hh ?_;refine rt 12 hh ?_;refine rt 13 hh ?_;refine rz ?_;obtain⟨hE,hc2,hv⟩:=HE.o;have hb4:=hc2.heap HR.o.1 (fun e=>e.2 (Ej (Ej rfl)));have f0:=aH3 w2 _ 0 _ _ hb4;have f1:=aH3 w2 _ 1 _ _ hb4;have f2:=aH3 w2 _ 2 _ _ hb4;have f3:=aH3 w2 _ 3 _ _ hb4;have g0:=aG7 w2 _ 0 _ _ _ hb4;have g1:=aG7 w2 _ 1 _ _ _ hb4;have g2:=aG7 w2 _ 2 _ _ _ hb4;have g3:=aG7 w2 _ 3 _ _ _ hb4;clear hE hc2 hv hb4;go_wp2_with fail;obtain⟨hE,hc2,hv⟩:=HE.o;exact rC (pa:=none) (l:=[]) HR.o.2.1 HR.o.2.2 (show StT B (fun j=>doX X w.heap.size j∨cP a j∨cP none j) w2 q ra most t c from(StT.mono ⟨p,B',pk,pp,mv,R,M,hE⟩ (fun j e=>e.imp id (fun e=>e.elim rK.1 (fun e=>(aZ e).elim))))) (aA5 _) (Chg.refl.drew.trans hc2 (fun b e=>Ei e)) HR.o.1 (jC HO.o.own) Reads.nil (fun j e=>hv j (e.elim rK.1 (fun e=>(aZ e).elim))) 0 0 cap 0 (by rw[at5,as8];omega) rfl rfl rfl
theorem Gr(h:StT B X w q ra most t c){k n:Int}{da:Option Addr}{dn dc:Nat}(hno:cN t k n=false):
  Calls Tryz.prog 11 #[.pointer (some ⟨q,0,none⟩),bD 5 k n da dn dc] w (DoR B X w q ra most t c 2 0 [] []):=by
 obtain⟨h1,hbx,hrx,hb1,hs1⟩:=rD h 5 k n da dn dc;have H1:=θ h1;obtain⟨p,B',pk,pp,mv,R,M,h1⟩:=h1;have hT:=fun n'=>Pe (h1.below (w':=(doW w 5 k n da dn dc).drewN n') ⟨rfl,rfl,rfl,aA5 _,fun _ _=>rfl⟩).lv (at_:=k) (n:=n) (fun h=>by rw[cN,aH1 h]at hno;cases hno);have HT:=θ (fun n'=>(hT n').mono (fun e w' h=>And.intro h.1 h.2.symm));have e0:=aG7 _ w.heap.size 0 _ _ _ hbx;have e1:=aG7 _ w.heap.size 1 _ _ _ hbx;have e2:=aG7 _ w.heap.size 2 _ _ _ hbx;have hq:=h1.cells.1;have f0:=aH3 _ _ 0 _ _ hrx;have f1:=aH3 _ _ 1 _ _ hrx;have f2:=aH3 _ _ 2 _ _ hrx;have f3:=aH3 _ _ 3 _ _ hrx;have g0:=aG7 _ _ 0 _ _ _ hrx;have g1:=aG7 _ _ 1 _ _ _ hrx;have g2:=aG7 _ _ 2 _ _ _ hrx;have g3:=aG7 _ _ 3 _ _ _ hrx;have HR:=θ (And.intro hrx (And.intro hb1 hs1));clear h h1 hbx hrx hb1 hs1 hT;unfold bD;go_enter aD7,aE1;go_wp2_with fail;change Code.wp _ _ _ _ (doW w 5 k n da dn dc);generalize hw1:doW w 5 k n da dn dc=w1 at *;go_quiet ((go_at_call 25;exact Calls.quiet_of_same (HT.o _)));go_wp2_with fail;have hb9:Below w1.heap.size w1 (w1.drewN nq):=⟨rfl,rfl,rfl,aA5 _,fun _ _=>rfl⟩;exact rC (w2:=w1.drewN nq) HR.o.2.1 HR.o.2.2 (vnil (H1.o.below hb9)) (aA5 _) (Chg.refl.drewN _) HR.o.1 Reads.nil Reads.nil (fun j e=>(e.elim aZ aZ).elim) 2 0 0 0 rfl rfl rfl rfl
theorem Nz(h:StT B X w q ra most t c){k n:Int}{da:Option Addr}{dc:Nat}{d:List Int}(hrd:Reads w .u8 da d)(hnil:da=none→d.length=0∧dc=0)(hl:d.length≤1000000)(hby:aU d){f:Nat→Bool}(hf:∀q,q≤t.length→(f q=true↔jW t d q)):
  Calls Tryz.prog 11 #[.pointer (some ⟨q,0,none⟩),bD 6 k n da d.length dc] w (DoR B X w q ra most t c 0 ((List.range (t.length+1)).countP f) [] []):=by
 obtain⟨⟨p,B',pk,pp,mv,R,M,h1⟩,hbx,hrx,hb1,hs1⟩:=rD h 6 k n da d.length dc;have HC:=θ (fun(w':World) (hb:Below (doW w 6 k n da d.length dc).heap.size (doW w 6 k n da d.length dc) w') (b:Nat) (hbk:w'.heap[b]? =some (.cells #[.slice da d.length dc] 32 (0,0)))=>
  Ib (h1.below hb).lv (some ⟨b,0,none⟩) 1 [⟨da,dc,d⟩] (fun i hi=>⟨b,0,rfl,(am0.1 hbk).1,fun j u hj=>by
   match j,hj with
   | 0,hj=>simp[kO]at hj;subst hj;exact aG7 w' b 0 _ _ _ hbk⟩) (fun r hr=>by
    simp only[List.mem_singleton]at hr
    subst hr
    exact⟨(hrd.below hb1).below hb,hnil⟩) (by simp[bJ];exact hl) Es (by simpa[bJ]using hby))
 have hcat:bJ [⟨da,dc,d⟩]=d:=by simp[bJ]
 rw[hcat]at HC;have H1:=θ h1;have HQL:=θ (And.intro h1.lt (am0.1 hbx).1);have HCL:=θ (And.intro h1.cells.1 (aG7 _ w.heap.size 3 _ _ _ hbx));have e0:=aG7 _ w.heap.size 0 _ _ _ hbx;have HR:=θ (And.intro hrx (And.intro hb1 hs1));clear h h1 hbx hrx hb1 hs1 hrd hnil;unfold bD;go_enter aD7,aE1;go_wp2_with fail;change Code.wp _ _ _ _ (doW w 6 k n da d.length dc);generalize hw1:doW w 6 k n da d.length dc=w1 at *;refine aE (fun w'=>w'.cell? ⟨q,0,none⟩=some (.pointer (some ⟨p,0,none⟩))∧w'.cell? ⟨w.heap.size,3,none⟩=some (.slice da d.length dc)) Ek (HCL.o) (fun hh=>?_);refine rt 0 hh ?_;refine rt 1 hh ?_;refine rt 2 hh ?_;refine rt 3 hh ?_;refine rt 4 hh ?_;refine rt 5 hh ?_;refine rg 6 fun κ hK=>?_;go_simp;refine hK.out _ _ (⟨jQ HQL.o.1 hh.1,jQ HQL.o.2 hh.2⟩) ?_;intro hh;try simp only[pt]
 refine rg 7 fun κ hK=>?_;go_simp;have hb3:Below w1.heap.size w1 ((w1.alloc (.cells #[.slice da d.length dc] 32)).drew):=((am4 _ _).alloc (aA5 _) _).drew;refine(HC.o _ hb3 w1.heap.size (aH5 w1 _)).mono ?_;rintro e w4 ⟨lo,hi,rfl,hN,hL,hch⟩;have hcnt:=Nar.count (tJ H1.o.lv.byte H1.o.lv.rows) hN hf;obtain⟨hE,hc4⟩:=(H1.o.below hb3).live hL hch;have hc5:Chg (exT B (doX X w.heap.size)) w1 w4:=(Chg.of_below hb3).trans hc4 (fun b e=>Ei e);have hcl4:=And.intro hE.cells.1 (hc5.cell HCL.o.2 (fun e=>e.2 (Ej (Ei rfl))));have hb4:=hc5.heap HR.o.1 (fun e=>e.2 (Ej (Ej rfl)));have f0:=aH3 w4 _ 0 _ _ hb4;have f1:=aH3 w4 _ 1 _ _ hb4;have f2:=aH3 w4 _ 2 _ _ hb4;have f3:=aH3 w4 _ 3 _ _ hb4;have g0:=aG7 w4 _ 0 _ _ _ hb4;have g1:=aG7 w4 _ 1 _ _ _ hb4;have g2:=aG7 w4 _ 2 _ _ _ hb4;have g3:=aG7 w4 _ 3 _ _ _ hb4;have HE:=θ (And.intro hE (And.intro hc5 hcnt));clear hN hL hch hE hc4 hc5 hb4 hcnt HC;refine hK.out _ _ (hcl4) ?_;intro hh;try simp only[pt]
 refine rt 8 hh ?_;refine rg 9 fun κ hK=>?_;go_simp;have hs4:=sK (HE.o.2.1.heap HR.o.1 (fun e=>e.2 (Ej (Ej rfl)))) (.int .i64 0) (.int .i64 (hi-lo:Nat)) (.slice none 0 0) (.slice none 0 0);refine hK.out _ _ (⟨hs4.2.cell hcl4.1 (fun e=>HE.o.1.qx.2 (Ej (Ej e))),hs4.2.cell hcl4.2 (fun e=>by have e:w.heap.size=w.heap.size+1:=e;omega)⟩) ?_;intro hh;try simp only[pt]
 refine rz ?_;clear hh hs4;go_wp2_with fail;rw[HE.o.2.2];exact rC HR.o.2.1 HR.o.2.2 (vnil ⟨p,B',pk,pp,mv,R,M,HE.o.1⟩) (aA5 _) HE.o.2.1 HR.o.1 Reads.nil Reads.nil (fun j e=>(e.elim aZ aZ).elim) 0 _ 0 0 rfl rfl rfl rfl
theorem Iz(h:StT B X w q ra most t c){k n:Int}{da:Option Addr}{dc:Nat}{d:List Int}(hrd:Reads w .u8 da d)(hnil:da=none→d.length=0∧dc=0)(hl:d.length≤1000000)(hby:aU d){f:Nat→Bool}(hf:∀q,q≤t.length→(f q=true↔jW t d q)):
  Calls Tryz.prog 11 #[.pointer (some ⟨q,0,none⟩),bD 7 k n da d.length dc] w (DoR B X w q ra most t c 0 ((List.range (t.length+1)).countP f) [] (cC ((List.range (t.length+1)).filter f))):=by
 obtain⟨⟨p,B',pk,pp,mv,R,M,h1⟩,hbx,hrx,hb1,hs1⟩:=rD h 7 k n da d.length dc;have HC:=θ (fun(w':World) (hb:Below (doW w 7 k n da d.length dc).heap.size (doW w 7 k n da d.length dc) w') (b:Nat) (hbk:w'.heap[b]? =some (.cells #[.slice da d.length dc] 32 (0,0)))=>
  Vi (h1.below hb).lv h1.lv.sm.1 (some ⟨b,0,none⟩) 1 [⟨da,dc,d⟩] (fun i hi=>⟨b,0,rfl,(am0.1 hbk).1,fun j u hj=>by
   match j,hj with
   | 0,hj=>simp[kO]at hj;subst hj;exact aG7 w' b 0 _ _ _ hbk⟩) (fun r hr=>by
    simp only[List.mem_singleton]at hr
    subst hr
    exact⟨(hrd.below hb1).below hb,hnil⟩) (by simp[bJ];exact hl) Es (by simpa[bJ]using hby) (f:=f) (fun q hq=>by have :bJ [⟨da,dc,d⟩]=d:=(by simp[bJ]);rw[this];exact hf q hq))
 have hFN:(cC ((List.range (t.length+1)).filter f)).length=(List.range (t.length+1)).countP f:=by rw[mU];exact List.countP_eq_length_filter.symm
 generalize (List.range (t.length+1)).countP f=N at *;generalize cC ((List.range (t.length+1)).filter f)=F at *;have H1:=θ h1;have HQL:=θ (And.intro h1.lt (am0.1 hbx).1);have HCL:=θ (And.intro h1.cells.1 (aG7 _ w.heap.size 3 _ _ _ hbx));have e0:=aG7 _ w.heap.size 0 _ _ _ hbx;have HR:=θ (And.intro hrx (And.intro hb1 hs1));clear h h1 hbx hrx hb1 hs1 hrd hnil;unfold bD;go_enter aD7,aE1;go_wp2_with fail;change Code.wp _ _ _ _ (doW w 7 k n da d.length dc);generalize hw1:doW w 7 k n da d.length dc=w1 at *;refine aE (fun w'=>w'.cell? ⟨q,0,none⟩=some (.pointer (some ⟨p,0,none⟩))∧w'.cell? ⟨w.heap.size,3,none⟩=some (.slice da d.length dc)) Ek (HCL.o) (fun hh=>?_);refine rt 0 hh ?_;refine rt 1 hh ?_;refine rt 2 hh ?_;refine rt 3 hh ?_;refine rt 4 hh ?_;refine rt 5 hh ?_;refine rg 6 fun κ hK=>?_;go_simp;refine hK.out _ _ (⟨jQ HQL.o.1 hh.1,jQ HQL.o.2 hh.2⟩) ?_;intro hh;try simp only[pt]
 refine rg 7 fun κ hK=>?_;go_simp;have hb3:Below w1.heap.size w1 ((w1.alloc (.cells #[.slice da d.length dc] 32)).drew):=((am4 _ _).alloc (aA5 _) _).drew;refine(HC.o _ hb3 w1.heap.size (aH5 w1 _)).mono ?_;rintro e w4 ⟨a,cap,rfl,ho,hch⟩;obtain⟨hE,hc4,hv⟩:=(H1.o.below hb3).own ho hch (aA5 _);have hc5:Chg (exT B (doX X w.heap.size)) w1 w4:=(Chg.of_below hb3).trans hc4 (fun b e=>Ei e);have hcl4:=And.intro hE.cells.1 (hc5.cell HCL.o.2 (fun e=>e.2 (Ej (Ei rfl))));have HE:=θ (And.intro hE (And.intro hc5 hv));have HO:=θ ho;clear ho hch hE hc4 hc5 hv HC;refine hK.out _ _ (hcl4) ?_;intro hh;try simp only[pt]
 refine rt 8 hh ?_;refine rz ?_;clear hh;obtain⟨hE,hc5,hv⟩:=HE.o;have hb4:=hc5.heap HR.o.1 (fun e=>e.2 (Ej (Ej rfl)));have f0:=aH3 w4 _ 0 _ _ hb4;have f1:=aH3 w4 _ 1 _ _ hb4;have f2:=aH3 w4 _ 2 _ _ hb4;have f3:=aH3 w4 _ 3 _ _ hb4;have g0:=aG7 w4 _ 0 _ _ _ hb4;have g1:=aG7 w4 _ 1 _ _ _ hb4;have g2:=aG7 w4 _ 2 _ _ _ hb4;have g3:=aG7 w4 _ 3 _ _ _ hb4;clear hE hc5 hv hb4;go_wp2_with fail;obtain⟨hE,hc5,hv⟩:=HE.o;refine rC (da:=none) (d:=[]) (m1:=0) (m2:=N) HR.o.2.1 HR.o.2.2 (show StT B (fun j=>doX X w.heap.size j∨cP none j∨cP a j) w4 q ra most t c from(StT.mono ⟨p,B',pk,pp,mv,R,M,hE⟩ (fun j e=>e.imp id (fun e=>e.elim (fun e=>(aZ e).elim) rK.1)))) (aA5 _) hc5 HR.o.1 Reads.nil (jC HO.o.own) (fun j e=>by have :=hv j (e.elim (fun e=>(aZ e).elim) rK.1);simp at this;omega) 0 _ 0 cap rfl hFN ?_ ?_<;>rfl
end
section
variable {B:Nat}{X:Nat→Prop}{w w':World}{q p ra:Nat}{most:Int}{t:List Int}{c B' pk pp:Nat}{mv:Int}{R:List Nat}{M:Nat→Bool}
theorem lvRate(h:LvT B X w p pk pp ra mv t R c M):Calls Tryz.prog 66 #[.pointer (some ⟨p,0,none⟩)] w fun e w'=>e= .returned (.int .i64 ra)∧w=w':=by
 have h2:=h.lv.e.cell2;clear h;go_enter Tryz.func66,Tryz.ntmps66;go_wp2;go_ret;exact⟨rfl,rfl⟩
theorem stRate(h:StT B X w q ra most t c):Calls Tryz.prog 40 #[.pointer (some ⟨q,0,none⟩)] w fun e w'=>e= .returned (.int .i64 ra)∧w=w':=by
 obtain⟨p,B',pk,pp,mv,R,M,h⟩:=h;have h0:=h.cells.1;have HR:=θ (lvRate h.lv);clear h;go_enter Tryz.func40,Tryz.ntmps40;go_wp2_with fail;refine HR.o.mono ?_;rintro e w' ⟨rfl,rfl⟩;go_wp2_with fail;go_ret;exact⟨rfl,rfl⟩
theorem RowC.reads {g:Nat}{L:List Nat}{T:TypeId}(h:RowC w g (L.map wsV) T):Reads w .i64 (some ⟨g,0,none⟩) (bF L):=fun i hi=>⟨g,0,rfl,h.lt,fun j hj=>by
 have hj':j<L.length:=by simpa[bF]using hj
 rw[aC7];refine h.cell ?_;rw[ar6,ar3 hj'];simp[bF,hj',wsV]⟩
theorem lvLast(h:LvT B X w p pk pp ra mv t R c M):Calls Tryz.prog 44 #[.pointer (some ⟨p,0,none⟩)] w fun e w'=>∃g,e= .returned (.slice (some ⟨g,0,none⟩) (t.length+1) (t.length+1))∧Reads w' .i64 (some ⟨g,0,none⟩) (bZ (aA t) R)∧LvT B X w' p pk pp ra mv t R c M∧Chg (exT B X) w w':=by
 have H:=θ h;have hln:=h.llen;have hlm:=h.len;have hlt:=mT (dY h.byte) R;obtain⟨Y,Z,k⟩:=h.lv.e;have h0:=k.cells.1;have HA:=θ (wkAll k.k E);have HK:=θ k;rw[hln]at HA;clear h k;go_enter Tryz.func44,Tryz.ntmps44;go_wp2_with fail;refine HA.o.mono ?_;rintro e w' ⟨g,rfl,hr,hg,hk,hc⟩;have HF:=θ (And.intro hr (HK.o.stepK (hk.mono (fun j e=>Ei e)) hc));clear hr hg hk hc HA;go_wp2_with fail;go_ret;obtain⟨hr,he,hch⟩:=HF.o;refine⟨g,rfl,?_,H.o.step he,hch⟩;rw[hlt];exact hr.reads
theorem stLast(h:StT B X w q ra most t c):Calls Tryz.prog 18 #[.pointer (some ⟨q,0,none⟩)] w fun e w'=>∃g R,e= .returned (.slice (some ⟨g,0,none⟩) (t.length+1) (t.length+1))∧IsRows (aA t) R∧Reads w' .i64 (some ⟨g,0,none⟩) (bZ (aA t) R)∧StT B X w' q ra most t c∧Chg (exT B X) w w':=by
 obtain⟨p,B',pk,pp,mv,R,M,h⟩:=h;have h0:=h.cells.1;have HR:=θ (lvLast h.lv);have H:=θ h;clear h;go_enter Tryz.func18,Tryz.ntmps18;go_wp2_with fail;refine HR.o.mono ?_;rintro e w' ⟨g,rfl,hr,hl,hc⟩;have HF:=θ (And.intro hr (H.o.live hl hc));clear hr hl hc HR;go_wp2_with fail;go_ret;exact⟨g,R,rfl,H.o.lv.rows,HF.o.1,⟨p,B',pk,pp,mv,R,M,HF.o.2.1⟩,HF.o.2.2⟩
theorem af1(h:LvT B X w p pk pp ra mv t R c M):Calls Tryz.prog 82 #[.pointer (some ⟨p,0,none⟩)] w (jL w.heap.size w (prL 0 (plS M R))):=by
 obtain⟨Y,Z,k⟩:=h.lv.e;have h0:=k.cells.2.1;have HA:=θ (all_e k.q rfl);clear h k;go_enter Tryz.func82,Tryz.ntmps82;go_wp2_with fail;refine HA.o.mono ?_;rintro e w' ⟨a,c,rfl,ho,hb⟩;have HF:=θ (And.intro ho hb);clear ho hb HA;go_wp2_with fail;go_ret;exact⟨a,c,rfl,HF.o⟩
theorem aj6(h:StT B X w q ra most t c):Calls Tryz.prog 39 #[.pointer (some ⟨q,0,none⟩)] w fun e w'=>∃R M,IsRows (aA t) R∧R.Perm (List.range (t.length+1))∧oZ M (t.length+1) ra∧jL w.heap.size w (prL 0 (plS M R)) e w':=by
 obtain⟨p,B',pk,pp,mv,R,M,h⟩:=h;have h0:=h.cells.1;have hp:=h.lv.lv.perm;rw[aI]at hp;have HH:=θ (And.intro h.lv.rows (And.intro hp h.lv.sm));have HR:=θ (af1 h.lv);clear h hp;go_enter Tryz.func39,Tryz.ntmps39;go_wp2_with fail;refine HR.o.mono ?_;rintro e w' ⟨a,c,rfl,ho,hb⟩;have HF:=θ (And.intro ho hb);clear ho hb HR;go_wp2_with fail;go_ret;exact⟨R,M,HH.o.1,HH.o.2.1,HH.o.2.2,a,c,rfl,HF.o⟩
end
def oF:Option ST→Nat
 | none=>0
 | some t=>t.size
def xH:Option ST→Nat
 | none=>0
 | some t=>t.leaves
def pA(o:Option ST):Prop:=oY o∧(aF o).length≤2147483648∧0<(aF o).length∧aO o≤1000000000
theorem xG{o:Option ST}(h:pA o):oF o≤(aF o).length/16+1∧xH o≤1000000000∧oF o≤2000000000:=by
 cases o with
 | none=>exact⟨aC8 _,aC8 _,aC8 _⟩
 | some t=>
  obtain⟨f1,f2,f3,f4,f5,f6,f7⟩:=Bl h.1.1 h.1.2 h.2.1;show t.size≤t.bits.length/16+1∧t.leaves≤_∧t.size≤_;omega
theorem vD(o:Option ST):gR o=[.int .i64 ((aF o).length:Nat), .int .i64 (aO o:Nat), .int .i64 (xH o:Nat), .int .i64 (oF o:Nat)]:=by
 cases o<;>rfl
def fG(ys:List (Option ST)):Nat:=(ys.map oF).sum
theorem Rq(ys:List (Option ST))(o:Option ST):fG (ys++[o])=fG ys+oF o:=by simp[fG]
theorem af5{ys:List (Option ST)}(h:∀o∈ys,pA o):fG ys≤((ys.map aF).map List.length).sum/16+ys.length:=by
 induction ys with
 | nil=>simp[fG]
 | cons y ys ih=>
  have h1:=(xG (h y Es)).1;have h2:=ih (fun o ho=>h o (by simp[ho]));unfold fG at h2⊢;simp only[at8,List.sum_cons,as7];omega
theorem Af(l:List (List Bool)):((l.filter (fun b=>decide (0<b.length))).map List.length).sum=(l.map List.length).sum:=by
 induction l with
 | nil=>rfl
 | cons x l ih=>
  rw[aq5];by_cases h:0<x.length
  ·simp[h,ih]
  ·simp only[h,decide_false,Bool.false_eq_true,aH7,ih,at8,List.sum_cons];omega
theorem aj9(m p:Nat)(h:p<m):((List.range m).map (fun q=>if p=q then 1 else 0)).sum=1:=by
 induction m with
 | zero=>omega
 | succ m ih=>
  rw[ay4,at6,ay8];by_cases e:p=m
  ·subst e;have :∀k,k≤p→((List.range k).map (fun q=>if p=q then 1 else 0)).sum=0:=by
    intro k;induction k with
    | zero=>intro _;rfl
    | succ k ih=>intro hk;rw[ay4,at6,ay8,ih E];simp;omega
   rw[this p (aA5 _)];simp
  ·rw[ih E];simp[e]
theorem Jd(f g:Nat→Nat)(l:List Nat):(l.map (fun q=>f q+g q)).sum=(l.map f).sum+(l.map g).sum:=by
 induction l with
 | nil=>rfl
 | cons x l ih=>simp only[at8,List.sum_cons,ih];omega
theorem af2{L:List Nat}(hL:∀s∈L,s<512){l:Nat}(hl:l≤9):((List.range (pw l)).map (fun p=>(lvl L l p).length)).sum=L.length:=by
 induction L with
 | nil=>
  have :∀m:Nat,((List.range m).map (fun p=>(lvl [] l p).length)).sum=0:=by
   intro m;induction m with
   | zero=>rfl
   | succ m ih=>rw[ay4,at6,ay8,ih];simp[lvl]
  exact this _
 | cons s L ih=>
  have e:∀p,(lvl (s::L) l p).length=(if pth s l=p then 1 else 0)+(lvl L l p).length:=by
   intro p;unfold lvl;rw[at1,at1,aq5];by_cases h:pth s l=p
   ·simp[h];omega
   ·simp[h]
  have h1:=aj9 (pw l) _ (yS (hL s Es) hl);rw[at7 (fun p _=>e p),Jd,ih (fun x hx=>hL x (by simp[hx])),h1,as7];omega
theorem Xx{L:List Nat}(hL:∀s∈L,s<512){l:Nat}(hl:l≤9):((cW L l).map List.length).sum=l*L.length:=by
 induction l with
 | zero=>simp[cW]
 | succ l ih=>
  have e:cW L (l+1)=cW L l++((List.range (pw l)).map (lvl L l)).filter (fun b=>decide (0<b.length)):=by
   unfold cW;rw[ay4,aq6];simp
  rw[e,at6,ay8,ih E,Af,av0];have :=af2 hL (l:=l) E;rw[show (List.length∘lvl L l)=(fun p=>(lvl L l p).length)from rfl,this,aC1]
theorem Xt{ys:List (Option ST)}(h:∀o∈ys,pA o){L:List Nat}(hL:Syms L)(he:ys.map aF=cW L 9):fG ys≤9*(8*L.length/128+1024):=by
 have h1:=af5 h;have h2:=Xx (L:=L) (fun s hs=>by have :=hL s hs;omega) (l:=9) (aA5 _);have h3:=Ky L;have h4:=yW he;rw[he,h2]at h1;omega
theorem Rs{L:List Nat}(hL:Syms L)(h:0<L.length):(cW L 9)[0]? =some (lvl L 0 0)∧(lvl L 0 0).length=L.length:=by
 have e:=Xg (L:=L) (fun s hs=>by have :=hL s hs;omega);have h1:=Xy L (l:=0) (p:=0) E (Fm _) E;exact⟨by simpa[kZ,cW]using h1,e⟩
theorem Sp{M:Nat→Bool}{R:List Nat}{n:Nat}(hp:R.Perm (List.range n)):
  (∀(j:Nat) (x:Int×Int),(prL 0 (plS M R))[j]? =some x→∃r p:Nat,x=((r:Int),(p:Int))∧R[r]? =some p∧M p=true∧p<n)∧
  (prL 0 (plS M R)).length≤n∧∀p,p<n→M p=true→∃j,j<(prL 0 (plS M R)).length∧((prL 0 (plS M R))[j]?.getD default).2=(p:Int):=by
 have hm:∀r p:Int,(r,p)∈prL 0 (plS M R)→∃r' p':Nat,r=r'∧p=p'∧R[r']? =some p'∧M p'=true∧p'<n:=by
  intro r p h;obtain⟨j,h1,h2,h3⟩:=(mM _ _ _ _).1 h;unfold plS at h2;rw[ar6]at h2;obtain⟨q,hq⟩:∃q,R[j]? =some q:=by
   cases e:R[j]? with
   | none=>rw[e]at h2;simp at h2
   | some q=>exact⟨q,rfl⟩
  rw[hq]at h2;simp only[aD3,aD4]at h2;have hqn:q<n:=by have :=(hp.mem_iff (a:=q)).1 (ax2 hq);simpa using this
  by_cases hM:M q=true
  ·rw[aH9 hM]at h2;exact⟨j,q,E,E,hq,hM,hqn⟩
  ·rw[aH8 hM]at h2;omega
 refine⟨fun j x hx=>?_,?_,fun p hpn hM=>?_⟩
 ·obtain⟨r,p,e1,e2,e3,e4,e5⟩:=hm x.1 x.2 (ax2 hx);exact⟨r,p,by rw[←e1,←e2],e3,e4,e5⟩
 ·have key:∀(l:List Int) (i:Nat),(prL i l).length≤l.length:=by
   intro l;induction l with
   | nil=>intro i;simp[prL]
   | cons x l ih=>
    intro i;have :=ih (i+1);unfold prL;split<;>simp<;>omega
  have :=key (plS M R) 0;have e1:(plS M R).length=R.length:=by unfold plS;rw[at1]
  have e2:=hp.length_eq;rw[List.length_range]at e2;omega
 ·obtain⟨r,hr⟩:=List.getElem?_of_mem ((hp.mem_iff (a:=p)).2 (by simpa using hpn));have :((r:Int),(p:Int))∈prL 0 (plS M R):=(mM _ _ _ _).2 ⟨r,E,by
   unfold plS
   rw[ar6,hr]
   simp[hM],E⟩
  obtain⟨j,hj⟩:=ar7 this;exact⟨j,(ar5.1 hj).1,by rw[hj];rfl⟩
theorem Sq{M:Nat→Bool}{R:List Nat}{i j:Nat}{x y:Int×Int}(hi:(prL 0 (plS M R))[i]? =some x)(hj:(prL 0 (plS M R))[j]? =some y)(hij:i<j):x.1<y.1:=by
 have h:=mB (plS M R) 0;rw[ay2]at h;obtain⟨h1,rfl⟩:=ar5.1 hi;obtain⟨h2,rfl⟩:=ar5.1 hj;exact h i j h1 h2 hij
def iQ(M:Nat→Bool):Nat→Nat
 | 0=>0
 | k+1=>if M k=true then 0 else iQ M k+1
theorem zS(M:Nat→Bool):∀k,iQ M k≤k∧∀j,k≤j+iQ M k→j<k→M j=false
 | 0=>⟨aA5 _,fun j _ h=>absurd h E⟩
 | k+1=>by
  obtain⟨h1,h2⟩:=zS M k;unfold iQ;by_cases h:M k=true
  ·rw[aH9 h];exact⟨E,fun j h3 h4=>E⟩
  ·rw[aH8 h];refine⟨E,fun j h3 h4=>?_⟩;by_cases e:j=k
   ·subst e;simpa using h
   ·exact h2 j E E
theorem ad7{M:Nat→Bool}{n ra:Nat}(h:oZ M n ra){k:Nat}(hk:k≤n):iQ M k<ra:=by
 obtain⟨h1,h2⟩:=zS M k;refine Nat.lt_of_not_le (fun hle=>?_);obtain⟨j,hj,hm⟩:=h.2 (k-iQ M k) E;have :=h2 (k-iQ M k+j) E E;rw[this]at hm;cases hm
def isP(ps:List (Int×Int))(k j:Nat):Bool:=(ps.take k).any (fun x=>x.2==(j:Int))
theorem Wo(ps:List (Int×Int))(j:Nat):isP ps 0 j=false:=by simp[isP]
theorem Wm{ps:List (Int×Int)}{k p:Nat}{r:Int}(h:ps[k]? =some (r,(p:Int)))(j:Nat):isP ps (k+1) j=if j=p then true else isP ps k j:=by
 unfold isP;rw[ay9,h,List.any_append];by_cases e:j=p
 ·subst e;simp
 ·rw[aH8 e];simp;omega
theorem ae4{ps:List (Int×Int)}{M:Nat→Bool}{n:Nat}(h1:∀(j:Nat) (x:Int×Int),ps[j]? =some x→∃r p:Nat,x=((r:Int),(p:Int))∧M p=true∧p<n)(h2:∀p,p<n→M p=true→∃j,j<ps.length∧(ps[j]?.getD default).2=(p:Int)){p:Nat}(hp:p<n):isP ps ps.length p=M p:=by
 unfold isP;rw[az2];cases hM:M p with
 | true=>
  obtain⟨j,hj,hx⟩:=h2 p hp hM;rw[ao6];rw[ar3 hj]at hx;exact⟨ps[j],List.getElem_mem hj,by simpa using hx⟩
 | false=>
  rw[List.any_eq_false];intro x hx he;obtain⟨j,hj⟩:=ar7 hx;obtain⟨r,q,rfl,hq,_⟩:=h1 j x hj;have :q=p:=by
   have he:(q:Int)=(p:Int):=by simpa using he
   omega
  subst this;rw[hM]at hq;cases hq
theorem xL{f g:Nat→Value}{n:Nat}(h:∀j,j<n→f j=g j):aP f n=aP g n:=by
 unfold aP;exact at7 (fun j hj=>h j (ax4.1 hj))
theorem Iv{w:World}{pa ra2:Option Addr}{pc rc n ra:Nat}{ps:List (Int×Int)}{R:List Nat}{M:Nat→Bool}(hp:RdP w pa ps)(hr:Reads w .i64 ra2 (cC R))(hR:R.length=n)
  (h1:∀(j:Nat) (x:Int×Int),ps[j]? =some x→∃r p:Nat,x=((r:Int),(p:Int))∧R[r]? =some p∧M p=true∧p<n)
  (h2:∀{i j:Nat} {x y:Int×Int},ps[i]? =some x→ps[j]? =some y→i<j→x.1<y.1)
  (h3:∀p,p<n→M p=true→∃j,j<ps.length∧(ps[j]?.getD default).2=(p:Int)) (hs:oZ M n ra) (h0:1≤n) (h9:n≤1000000) (hl:ps.length≤n):
  Calls Tryz.prog 38 #[.slice pa ps.length pc, .slice ra2 n rc, .int .i64 ra] w fun e w'=>e= .returned (.bool true)∧Below w.heap.size w w':=by
 have HP:=θ hp;have HR:=θ hr;have H1:=θ h1;have H2:Hid (∀{i j:Nat} {x y:Int×Int},ps[i]? =some x→ps[j]? =some y→i<j→x.1<y.1):=θ h2;have HM:Hid (∀p,p<n→isP ps ps.length p=M p):=θ (fun p hp=>ae4 (fun j x hx=>by obtain⟨r,p,e1,_,e2,e3⟩:=h1 j x hx;exact⟨r,p,e1,e2,e3⟩) h3 hp);have HG:Hid (∀k,k≤n→iQ M k<ra):=θ (fun k hk=>ad7 hs hk);have HS0:=θ hs.1;have hmk:=fun w=>yL n E w;have HRL:=θ hR;have hra:ra≤1000000000∨1000000000<ra:=E;clear hp hr h1 h2 h3 hs hR;go_enter Tryz.func38,Tryz.ntmps38;go_wp2_with fail;have HO:Hid ((w.alloc (.cells (aP (fun _=> .bool false) n).toArray 4)).ownsRow w.heap.size 4 1 (.slice (some ⟨w.heap.size,0,none⟩) n n) n (aP (fun j=> .bool (isP ps 0 j)) n)):=θ (by
  rw[xL (f:=fun j=>Value.bool (isP ps 0 j)) (g:=fun _=>Value.bool false) (fun j _=>by rw[Wo])]
  exact vY (heap_alloc_new w _) (Nat.le_refl _) (by unfold maxLen;omega))
 have HB:Hid (Below w.heap.size w (w.alloc (.cells (aP (fun _=> .bool false) n).toArray 4))):=θ ((am4 _ _).alloc (aA5 _) _);generalize w.alloc (.cells (aP (fun _=> .bool false) n).toArray 4)=w1 at *;clear hmk;go_loopw [8] (fun v wr=>∃k:Nat,k≤ps.length∧v= .int .i64 k∧wr.ownsRow w.heap.size 4 1 (.slice (some ⟨w.heap.size,0,none⟩) n n) n (aP (fun j=> .bool (isP ps k j)) n)∧Below w.heap.size w wr) (fun v _=>ps.length-(intOf v).toNat);case atStart=>exact⟨0,aC8 _,rfl,HO.o,HB.o⟩
 case round=>as_aux_lemma=>
  clear HO HB;obtain⟨k,hk,rfl,hown,hb⟩:=hrel;have HO:=θ hown;have HB:=θ hb;by_cases hlt:k<ps.length
  ·obtain⟨b,off,rfl,hbl,hcells⟩:=(HP.o.below hb) k hlt;obtain⟨x,hx⟩:∃x,ps[k]? =some x:=⟨_,ar3 hlt⟩;obtain⟨r,p,rfl,hRr,hMp,hpn⟩:=H1.o k x hx;have hrn:r<n:=by rw[←HRL.o];exact(ar5.1 hRr).1
   obtain⟨c1,c2⟩:=hcells k hlt;have e1:aD ps k=(r:Int):=by unfold aD;rw[hx];rfl
   have e2:aH ps k=(p:Int):=by unfold aH;rw[hx];rfl
   rw[e1]at c1;rw[e2]at c2;obtain⟨b2,off2,rfl,hbl2,hcells2⟩:=(Reads.below HR.o hb).some (by unfold cC;rw[at1,HRL.o];omega);have c3:wr.cell? ⟨b2,off2+r,none⟩=some (.int .i64 (p:Int)):=by
    have :=hcells2 r (by unfold cC;rw[at1,HRL.o];omega);rw[this];unfold cC;rw[ar6,hRr];rfl
   have c4:=jD hown hpn;have c5:=sC hown p;have HO2:Hid ((wr.setCell ⟨w.heap.size,p,none⟩ (.bool true)).ownsRow w.heap.size 4 1 (.slice (some ⟨w.heap.size,0,none⟩) n n) n (aP (fun j=> .bool (isP ps (k+1) j)) n)):=θ (by
    have :=vZ hown p (.bool true)
    rw[xL (f:=fun j=>Value.bool (isP ps (k+1) j)) (g:=fun i=>if i=p then Value.bool true else Value.bool (isP ps k i)) (fun j _=>by rw[Wm hx];split<;>rfl)]
    exact this)
   have HB2:Hid (Below w.heap.size w (wr.setCell ⟨w.heap.size,p,none⟩ (.bool true))):=θ (hb.setCell (aA5 _) _);have k0:(0:Int)≤(k:Int):=E;have k1:(k:Int)<(ps.length:Int):=E;have r0:decide ((r:Int)<0)=false:=aG9 E;have r1:decide (n≤r)=false:=aG9 E;cases k with
   | zero=>
    clear hown hb hcells hcells2;rw[aC9,aA0]at c1 c2;rw[show ((0:Nat):Int)=0 from rfl]at k0 k1⊢;go_wp2_with fail;go_quiet (fail);go_wp2_with fail;go_roundw;case rel=>exact⟨1,E,rfl,HO2.o,aX HB2.o _⟩
    case measure=>simp[intOf];omega
   | succ j=>
    obtain⟨y,hy⟩:∃y,ps[j]? =some y:=⟨_,ar3 E⟩;obtain⟨r',p',rfl,_,_,_⟩:=H1.o j y hy;have hrr:(r':Int)<(r:Int):=H2.o hy hx E;have c6:=(hcells j E).1;have e3:aD ps j=(r':Int):=by unfold aD;rw[hy];rfl
    rw[e3]at c6;have hw:IntKind.i64.wrap (((j+1:Nat):Int)-1)=(j:Int):=by rw[ao4 _ E];omega
    have d1:decide ((0:Int)<((j+1:Nat):Int))=true:=aH1 E;have d2:decide ((r:Int)≤(r':Int))=false:=aG9 E;have d3:decide (r≤r')=false:=aG9 E;have j0:(0:Int)≤(j:Int):=E;have j1:(j:Int)<(ps.length:Int):=E;obtain⟨i,hi⟩:∃i,j+1=i:=⟨_,rfl⟩;rw[hi]at c1 c2 k0 k1 hw d1 HO2⊢;have d5:decide (0<i)=true:=aH1 E;have d6:0<i:=E;have HI:=θ hi;clear hown hb hcells hcells2 hi hx e1 e2;go_wp2_with fail;go_quiet (fail);go_wp2_with fail;go_roundw;case rel=>exact⟨i+1,by have :=HI.o;omega,by go_num,HO2.o,aX HB2.o _⟩
    case measure=>have :=HI.o;simp[intOf];omega
  ·obtain rfl:k=ps.length:=E;have HOM:Hid (wr.ownsRow w.heap.size 4 1 (.slice (some ⟨w.heap.size,0,none⟩) n n) n (aP (fun j=> .bool (M j)) n)):=θ (by
    rw[xL (f:=fun j=>Value.bool (M j)) (g:=fun j=>Value.bool (isP ps ps.length j)) (fun j hj=>by rw[HM.o j hj])]
    exact hown)
   clear hown hb HO hk hlt;go_wp2_with fail;go_loopw [9,10] (fun gp v wx=>∃k:Nat,k≤n∧v= .int .i64 k∧gp= .int .i64 (iQ M k:Nat)∧wx=wr) (fun _ v _=>n-(intOf v).toNat);case atStart=>exact⟨0,aC8 _,rfl,rfl,rfl⟩
   case round=>as_aux_lemma=>
    obtain⟨k,hk,rfl,rfl,rfl⟩:=hrel;by_cases hlt:k<n
    ·have c1:=jD HOM.o hlt;have k0:(0:Int)≤(k:Int):=E;have k1:(k:Int)<(n:Int):=E;have hgl:=HG.o (k+1) E;have hgk:=(zS M k).1;have hg1:iQ M (k+1)=if M k=true then 0 else iQ M k+1:=rfl
     cases hM:M k with
     | true=>
      rw[hM]at hg1 c1;rw[aH9 rfl]at hg1;have HG1:=θ hg1;have d1:decide ((ra:Int)≤0)=false:=aG9 E;have d2:decide (ra=0)=false:=aG9 E;have d3:¬ra=0:=E;clear hg1 hgl hM;go_wp2_with fail;go_roundw;case rel=>exact⟨k+1,E,by go_num,by rw[HG1.o];rfl,trivial⟩
      case measure=>simp[intOf];omega
     | false=>
      rw[hM]at hg1 c1;rw[aH8 Ed]at hg1;have HG1:=θ hg1;have d1:decide ((ra:Int)≤(iQ M k:Int)+1)=false:=aG9 E;have d2:decide (ra≤iQ M k+1)=false:=aG9 E;clear hg1 hM;generalize iQ M k=gk at *;go_wp2_with fail;go_roundw;case rel=>exact⟨k+1,E,by go_num,by rw[HG1.o];first | rfl | go_num,trivial⟩
      case measure=>simp[intOf];omega
    ·obtain rfl:k=n:=E;have c1:=jD HOM.o (j:=0) E;rw[HS0.o]at c1;have k1:(0:Int)<(k:Int):=E;generalize iQ M k=gk at *;go_wp2_with fail;go_ret;exact⟨rfl,HB.o⟩
theorem Tt{O:Nat→Nat→Option ST}{o:Option ST}(h:o∈fJ O 9):(∃l k,l<9∧k<pw l∧o=O l k)∧0<(aF o).length:=by
 unfold fJ at h;obtain⟨l,hl,h⟩:=List.mem_flatMap.1 h;unfold shL at h;obtain⟨h1,h2⟩:=List.mem_filter.1 h;obtain⟨k,hk,rfl⟩:=ax1.1 h1;refine⟨⟨l,k,ax4.1 hl,ax4.1 hk,rfl⟩,?_⟩;unfold zV at h2;simpa using h2
section
variable {B:Nat}{X:Nat→Prop}{w w':World}{q p ra:Nat}{most:Int}{t:List Int}{c B' pk pp:Nat}{mv:Int}{R:List Nat}{M:Nat→Bool}{L:List Nat}
theorem Vk(h:Wv B X w p L):Calls Tryz.prog 86 #[.pointer (some ⟨p,0,none⟩)] w fun e w'=>∃v ys,e= .returned v∧ShRow w' w.heap.size v ys∧ys.map aF=cW L 9∧(∀o∈ys,pA o)∧Below w.heap.size w w':=by
 obtain⟨D,O,v,h1,h2⟩:=h;have hok:∀o∈fJ O 9,pA o:=fun o ho=>by
  obtain⟨⟨l,k,hl,hk,rfl⟩,h5⟩:=Tt ho;exact⟨(h1.tGood hl hk).1,(h1.tGood hl hk).2,h5,fX h1 l k hl hk⟩
 refine(Ka h1).mono ?_;rintro e w' ⟨v,rfl,h3,h4⟩;exact⟨v,_,rfl,h3,Tv h2,hok,h4⟩
theorem Rg(h:LvT B X w p pk pp ra mv t R c M):Calls Tryz.prog 45 #[.pointer (some ⟨p,0,none⟩)] w fun e w'=>∃v ys,e= .returned v∧ShRow w' w.heap.size v ys∧ys.map aF=cW (lvR (aA t) R) 9∧(∀o∈ys,pA o)∧Below w.heap.size w w':=by
 obtain⟨Y,Z,k⟩:=h.lv.e;have h0:=k.cells.1;obtain⟨pw,pt,hk⟩:=k.k;have h1:=hk.cells.1;have HA:=θ (Vk hk.v);clear h k hk;go_enter Tryz.func45,Tryz.ntmps45;go_wp2_with fail;refine HA.o.mono ?_;rintro e w' ⟨v,ys,rfl,hF⟩;obtain⟨sa,sc,rfl,_,_⟩:=aM hF.1;have HF:=θ hF;clear hF HA;go_wp2_with fail;go_ret;exact⟨_,ys,rfl,HF.o⟩
theorem Ub(h:StT B X w q ra most t c):Calls Tryz.prog 19 #[.pointer (some ⟨q,0,none⟩)] w fun e w'=>∃L a cap ys,L.length=t.length+1∧Syms L∧e= .returned (.slice a ys.length cap)∧ShRow w' w.heap.size (.slice a ys.length cap) ys∧ys.map aF=cW L 9∧(∀o∈ys,pA o)∧Below w.heap.size w w':=by
 obtain⟨p,B',pk,pp,mv,R,M,h⟩:=h;have h0:=h.cells.1;have HH:=θ (And.intro h.lv.llen (show Syms (lvR (aA t) R) by obtain⟨Y,Z,k⟩:=h.lv.lv.e;exact k.k.sy));have HR:=θ (Rg h.lv);clear h;go_enter Tryz.func19,Tryz.ntmps19;go_wp2_with fail;refine HR.o.mono ?_;rintro e w' ⟨v,ys,rfl,hF⟩;obtain⟨sa,sc,rfl,_,_⟩:=aM hF.1;have HF:=θ hF;clear hF HR;go_wp2_with fail;go_ret;exact⟨_,sa,sc,ys,HH.o.1,HH.o.2,rfl,HF.o⟩
theorem aj1{base n cp:Nat}{a:Option Addr}{ys:List (Option ST)}(h:ShRow w base (.slice a n cp) ys){i:Nat}{o:Option ST}(hi:ys[i]? =some o):
  ∃g:Nat,a=some ⟨g,0,none⟩∧g<w.heap.size∧w.cell? ⟨g,i*4,none⟩=some (.int .i64 ((aF o).length:Nat))∧w.cell? ⟨g,i*4+1,none⟩=some (.int .i64 (aO o:Nat))∧
   w.cell? ⟨g,i*4+2,none⟩=some (.int .i64 (xH o:Nat))∧w.cell? ⟨g,i*4+3,none⟩=some (.int .i64 (oF o:Nat)):=by
 obtain⟨g,a2,a3,h1,h2,h3,h4,h5,h6,h7⟩:=shRead h hi;rw[vD]at h3;simp only[List.cons.injEq,Value.int.injEq,true_and,and_true]at h3;rw[←h3.1]at h6;rw[←h3.2]at h7;exact⟨g,h1,h2,h4,h5,h6,h7⟩
end
theorem Ae{l:List Int}{a b:Nat}(h:sufLt l a b):fK l a b=true:=eO.2 h
theorem xJ{l:List Int}{a b:Nat}(h:¬sufLt l a b):fK l a b=false:=by rw[←am7];exact fun e=>h (eO.1 e)
theorem Fx(s:ByteArray)(a b:Nat)(w:World)(ha:a≤s.size)(hb:b≤s.size)(hs:s.size≤1000000):
  Calls Tryz.prog 71 #[.string s, .int .i64 a, .int .i64 b] w fun e w'=>e= .returned (.bool (fK (aA (bP s)) a b))∧∃n,w'=w.drewN n:=by
 go_enter Tryz.func71,Tryz.ntmps71;go_wp2_with fail;go_loopw [1,2] (fun v1 v2 wr=>∃d:Nat,a+d≤s.size∧b+d≤s.size∧v1= .int .i64 (a+d:Nat)∧v2= .int .i64 (b+d:Nat)∧eqK (aA (bP s)) d a b∧∃n,wr=w.drewN n) (fun v1 _ _=>s.size-(intOf v1).toNat);case atStart=>exact⟨0,E,E,rfl,rfl,fun x hx=>E,0,rfl⟩
 case round=>
  obtain⟨d,h1,h2,rfl,rfl,heq,nd,rfl⟩:=hrel;have hsh:=Uf heq;by_cases hin:a+d<s.size∧b+d<s.size
  ·obtain⟨k1,k2⟩:=hin;have e1:=qC k1;have e2:=qC k2;have HSH:Hid (sufLt (aA (bP s)) a b↔sy (aA (bP s)) (a+d)<sy (aA (bP s)) (b+d)∨(sy (aA (bP s)) (a+d)=sy (aA (bP s)) (b+d)∧sufLt (aA (bP s)) (a+d+1) (b+d+1))):=hsh.trans gT;have HEQ:=θ heq;have HE1:=θ e1;have HE2:=θ e2;clear hsh heq e1 e2;obtain⟨x,hx⟩:∃x,a+d=x:=⟨_,rfl⟩;obtain⟨y,hy⟩:∃y,b+d=y:=⟨_,rfl⟩;rw[hx]at k1;rw[hy]at k2;rw[hx,hy];have HX:=θ hx;have HY:=θ hy;clear hx hy;have i0:(0:Int)≤(x:Int):=E;have i1:(x:Int)<(s.size:Int):=E;have j0:(0:Int)≤(y:Int):=E;have j1:(y:Int)<(s.size:Int):=E;have hE1:sy (aA (bP s)) (a+d)=(s[x].toNat:Int)+1:=by
    have h1:=HE1.o;have h2:=HX.o;subst h2;exact h1
   have hE2:sy (aA (bP s)) (b+d)=(s[y].toNat:Int)+1:=by
    have h1:=HE2.o;have h2:=HY.o;subst h2;exact h1
   have E1:=θ hE1;have E2:=θ hE2;clear hE1 hE2;by_cases he:s[x].toNat=s[y].toNat
   ·have hne:(s[x].toNat != s[y].toNat)=false:=by simp[he]
    have HE:=θ he;clear he;go_wp2_with fail;go_quiet (fail);go_wp2_with fail;go_roundw;case rel=>
     have h1:=HX.o;have h2:=HY.o;exact⟨d+1,E,E,by congr 1;omega,by congr 1;omega,Wd HEQ.o (by rw[E1.out,E2.out,HE.o]),_,rfl⟩
    case measure=>simp[intOf];omega
   ·have hne:(s[x].toNat != s[y].toNat)=true:=by simp[he]
    have HR:Hid (decide (s[x].toNat<s[y].toNat)=fK (aA (bP s)) a b):=by
     show _=_;by_cases hl:s[x].toNat<s[y].toNat
     ·rw[aH1 hl,Ae (HSH.o.2 (Ei (by rw[E1.out,E2.out];omega)))]
     ·rw[aG9 hl,xJ (fun h=>by
       rcases HSH.o.1 h with k | ⟨k,_⟩
       ·rw[E1.out,E2.out]at k;omega
       ·rw[E1.out,E2.out]at k;omega)]
    clear he;go_wp2_with fail;go_quiet (fail);go_wp2_with fail;go_quiet (fail);go_wp2_with fail;go_ret;exact⟨dV HR.o,_,by rw[aG0,aG0]⟩
  ·have HR:Hid (decide (b+d<a+d)=fK (aA (bP s)) a b):=by
    show _=_;have e0:=He s;have hn:=(dY (sS s)).nn;by_cases hl:b+d<a+d
    ·have e1:a+d=s.size:=E;have h1:=hn (b+d) (by rw[aI,iW];omega);have h2:=qC (show b+d<s.size by omega);rw[aH1 hl,Ae (hsh.2 (gT.2 (Ei (by rw[e1,e0,h2];omega))))]
    ·rw[aG9 hl,xJ (fun h=>by
      have h3:=hsh.1 h
      rcases aB0 (a+d) s.size with k | k
      ·have e1:b+d=s.size:=E
       have h2:=qC k
       rw[e1]at h3
       rcases gT.1 h3 with q | ⟨q,_⟩<;>rw[e0,h2]at q<;>omega
      ·have e1:a+d=b+d:=E
       rw[e1]at h3
       exact sufLt.irrefl h3)]
   have hor:¬a+d<s.size∨(a+d<s.size∧¬b+d<s.size):=E;clear hsh heq;generalize a+d=x at *;generalize b+d=y at *;rcases hor with h | ⟨h,h'⟩
   ·have d1:decide (x<s.size)=false:=aG9 h;go_wp2_with fail;go_ret;exact⟨dV HR.o,_,rfl⟩
   ·have d2:decide (y<s.size)=false:=aG9 h';go_wp2_with fail;go_ret;exact⟨dV HR.o,_,rfl⟩
theorem Ro(r:List Nat)(k p:Nat):(bY (cC r) k (p:Int))=cC (bY r k p):=by simp[bY,cC,av6,at9]
theorem sG(s:ByteArray)(w:World)(hs:s.size≤100000):Calls Tryz.prog 31 #[.string s] w (Df w.heap.size w (aA (bP s))):=by
 go_enter Tryz.func31,Tryz.ntmps31;go_wp2_with fail;go_loopw [3,4] (fun v3 v4 wr=>∃(q:Nat) (r:List Nat),q≤s.size+1∧v4= .int .i64 ((q:Int)-1)∧r.Perm (List.range' q (s.size+1-q))∧r.Pairwise (sufLt (aA (bP s)))∧wr.ownsRow w.heap.size 3 1 v3 r.length (r.map bG)∧Below w.heap.size w wr) (fun _ v4 _=>(intOf v4+1).toNat);case atStart=>exact⟨s.size+1,[],aA5 _,by congr 1;omega,Es,List.Pairwise.nil,aG2 _ _ _ _,am4 _ _⟩
 case round=>
  obtain⟨q,r,hq,rfl,hperm,hsort,hown,hb⟩:=hrel;have hs1:=hb.size;have hlen:r.length=s.size+1-q:=by have :=hperm.length_eq;simpa using this
  rcases aA2 q with rfl | hq0
  ·have hrows:IsRows (aA (bP s)) r:=⟨by rw[aI,iW,List.range_eq_range'];exact hperm,hsort⟩;have HRW:=θ hrows;have HOW:=θ hown;clear hrows hown hperm hsort;go_wp2_with fail;go_ret;exact⟨r,HRW.o,_,rfl,HOW.o,hb⟩
  ·obtain⟨p,rfl⟩:∃p,q=p+1:=⟨q-1,E⟩;obtain⟨a,c,rfl,hnil,_⟩:=aM hown;have hcap:r.length≤c∧c≤maxLen:=by
    rcases hown.2 with ⟨hv,h0⟩ | ⟨g,cap,cur,hv,_,_,h1,h2,_⟩
    ·injection hv with _ _ e3;subst e3;rw[h0];exact⟨Nat.le_refl _,by unfold maxLen;omega⟩
    ·injection hv with _ _ e3;subst e3;exact⟨h1,h2⟩
   have hmem:∀i (hi:i<r.length),p<r[i]∧r[i]≤s.size:=fun i hi=>by
    have :=List.mem_range'_1.1 (hperm.mem_iff.1 (as3 hi));omega
   have HMEM:=θ hmem;have HPERM:=θ hperm;have HSORT:=θ hsort;have HOW:=θ hown;have HNIL:=θ hnil;have HCAP:=θ hcap;have HLEN:=θ hlen;have hrl:r.length≤100001:=E;have HB:=θ hb;clear hperm hsort hown hnil hcap hmem hlen hb;have ecast:((p+1:Nat):Int)-1=(p:Int):=E;rw[ecast];clear ecast;go_wp2_with fail;obtain⟨wo,rfl⟩:∃wo:World,wo=wr:=⟨_,rfl⟩;go_loopw [5,6] (fun v5 v6 wx=>∃lo hi:Nat,lo≤hi∧hi≤r.length∧v5= .int .i64 lo∧v6= .int .i64 hi∧(∀i (h:i<r.length),i<lo→sufLt (aA (bP s)) r[i] p)∧(∀i (h:i<r.length),hi≤i→¬sufLt (aA (bP s)) r[i] p)∧∃n,wx=wo.drewN n) (fun v5 v6 _=>(intOf v6).toNat-(intOf v5).toNat);case atStart=>exact⟨0,r.length,E,aA5 _,rfl,rfl,fun i h h'=>E,fun i h h'=>E,0,rfl⟩
   case round=>
    obtain⟨lo,hi,h1,h2,rfl,rfl,hlo,hhi,nd,rfl⟩:=hrel;have HLO:=θ hlo;have HHI:=θ hhi;clear hlo hhi;by_cases hlt:lo<hi
    ·obtain⟨m,hm⟩:∃m,(lo+hi)/2=m:=⟨_,rfl⟩;have hm1:lo≤m:=E;have hm2:m<hi:=E;have hmr:m<r.length:=E;have hmi:((lo:Int)+(hi:Int))/2=(m:Int):=E;obtain⟨g,cap,hv,_,_,_,_,hcell,_⟩:=cL HOW.o E;injection hv with ha hb1 hc1
     subst ha;clear hb1 hc1;have e1:(wo.drewN nd).cell? ⟨g,m,none⟩=some (.int .i64 (r[m]:Int)):=by
      show wo.cell? _=_;rw[hcell m hmr,ar6,ar3 hmr];rfl
     have hx:=HMEM.o m hmr;have hless:=Fx s r[m] p (wo.drewN nd) hx.2 E E;have HT:Hid (sufLt (aA (bP s)) r[m] p→∀i (h:i<r.length),i<m+1→sufLt (aA (bP s)) r[i] p):=fun hs i h hi'=>by
      rcases aB0 i m with k | k
      ·exact(ay2.1 HSORT.o i m h hmr k:sufLt _ _ _).trans hs
      ·obtain rfl:i=m:=E;exact hs
     have HF:Hid (¬sufLt (aA (bP s)) r[m] p→∀i (h:i<r.length),m≤i→¬sufLt (aA (bP s)) r[i] p):=fun hs i h hi' hc=>by
      rcases aB0 m i with k | k
      ·exact hs ((ay2.1 HSORT.o m i hmr h k:sufLt _ _ _).trans hc)
      ·obtain rfl:i=m:=E;exact hs hc
     have HLESS:=θ hless;have HM:=θ hm;clear hcell hless hm;generalize r[m]=x at *;by_cases hsf:sufLt (aA (bP s)) x p
     ·have HLS:=HLESS.o;rw[Ae hsf]at HLS;have HLS:=θ HLS;have HT2:=θ (HT.o hsf);clear hsf HLESS;go_wp2_with fail;refine HLS.o.mono ?_;rintro e w' ⟨rfl,nq,rfl⟩;go_wp2_with fail;go_roundw;case rel=>exact⟨m+1,hi,E,h2,by go_num,rfl,HT2.o,HHI.o,_,rfl⟩
      case measure=>simp[intOf];omega
     ·have HLS:=HLESS.o;rw[xJ hsf]at HLS;have HLS:=θ HLS;have HF2:=θ (HF.o hsf);clear hsf HLESS;go_wp2_with fail;refine HLS.o.mono ?_;rintro e w' ⟨rfl,nq,rfl⟩;go_wp2_with fail;go_roundw;case rel=>exact⟨lo,m,E,E,rfl,rfl,HLO.o,HF2.o,_,rfl⟩
      case measure=>simp[intOf];omega
    ·obtain rfl:lo=hi:=E;have hown:(wo.drewN nd).ownsRow w.heap.size 3 1 (.slice a r.length c) r.length (r.map bG):=HOW.o;have hln:(cC r).length=r.length:=mU r;have hrv:ReadsV (wo.drewN nd) a ((cC r).map (Value.int .i64)):=by
      rw[←eT];exact eB hown
     have hin:=Np a c (cC r) lo (p:Int) (wo.drewN nd) hrv E (by rw[hln];exact HCAP.o.1) HCAP.o.2 E (fun h=>by rw[hln];exact HNIL.o h);rw[hln,Ro]at hin;have HIN:=θ hin;have HB2:=θ (aX HB.o nd);have hrp:(bY r lo p).Perm (List.range' p (s.size+1-p)):=by
      refine(rV r lo p).trans ?_;rw[show s.size+1-p=(s.size+1-(p+1))+1 by omega,List.range'_succ];exact HPERM.o.cons p
     have hrs:(bY r lo p).Pairwise (sufLt (aA (bP s))):=by
      refine Ii E HSORT.o (fun i hi h=>HLO.o i hi h) (fun i hi h=>?_);have hm:=HMEM.o i hi;have hl:(aA (bP s)).length=s.size+1:=by rw[aI,iW]
      rcases aj7 (dY (sS s)).nn (a:=p) (b:=r[i]) E E E with k | k
      ·exact k
      ·exact absurd k (HHI.o i hi h)
     have HRP:=θ hrp;have HRS:=θ hrs;have hs2:=HB2.o.size;clear hown hln hrv hin hrp hrs;go_wp2_with fail;refine HIN.o.mono ?_;rintro e w' ⟨v,rfl,hov,hb'⟩;rw[mU,←eT]at hov;have HOV:=θ (mV hov hs2);have HB3:=θ (HB2.o.trans (hb'.mono hs2));clear hov hb';go_wp2_with fail;go_roundw;case rel=>exact⟨p,bY r lo p,E,rfl,HRP.o,HRS.o,HOV.o,HB3.o⟩
     case measure=>simp[intOf]
theorem Fv(s:ByteArray)(w:World)(hs:s.size≤100000):Calls Tryz.prog 33 #[.string s] w (vI w.heap.size w (bP s)):=by
 go_enter Tryz.func33,Tryz.ntmps33;have hrows:=sG s w hs;have HROWS:=θ hrows;clear hrows;go_wp2_with fail;refine HROWS.o.mono ?_;rintro e w3 ⟨r,hrw,v,rfl,hown,hb3⟩;have hls:(aA (bP s)).length=s.size+1:=by rw[aI,iW]
 have hrl:r.length=s.size+1:=by rw[hrw.len];exact hls
 obtain⟨n,hn⟩:∃n,s.size+1=n:=⟨_,rfl⟩;rw[hn]at hrl hls;rw[hrl]at hown;have hn0:0<n:=E;have hnm:n≤100001:=E;obtain⟨g3,cap3,rfl,hg3a,hg3b,_,_,hc3,_⟩:=cL hown hn0;have HC3:Hid (∀W,Below w3.heap.size w3 W→∀j,j<n→W.cell? ⟨g3,j,none⟩=some (.int .i64 ((r[j]?.getD 0:Nat):Int))):=by
  intro W hW j hj;refine(hW.cell (p:=⟨g3,j,none⟩) hg3b).trans ?_;rw[hc3 j hj,ar6,ar3 E];rfl
 have hrlt:∀k,k<n→r[k]?.getD 0<n:=by
  intro k hk;have h1:k<r.length:=E;have h2:=hrw.lt h1;rw[bW h1];omega
 have HLM:Hid (∀k,k<n→(bZ (aA (bP s)) r)[k]? =some (if r[k]?.getD 0=0 then 0 else sy (aA (bP s)) (r[k]?.getD 0-1))):=by
  intro k hk;have h0:=hrlt k hk;unfold bZ;rw[ar6,ar3 (show k<r.length by omega),hls];rw[ar3 (show k<r.length by omega),aD0]at h0;simp only[aD3,aD0];congr 1;by_cases e:r[k]=0
  ·rw[aH9 e,e,show (0+n-1)%n=s.size by rw[←hn];simp];exact He s
  ·rw[aH8 e];congr 1;rw[show r[k]+n-1=(r[k]-1)+n by omega,az8,aB3 E]
 have HIS:Hid (IsLast (bP s) (bZ (aA (bP s)) r)):=⟨sS s,r,hrw,rfl⟩;have hml:(bZ (aA (bP s)) r).length=n:=by rw[lG];exact hrl
 have HML:=θ hml;have HRL:=θ hrlt;have HN:=θ hn;have HB3:=θ hb3;clear hown hb3 hrw hc3 hrl hml hrlt hls hn HROWS;generalize bZ (aA (bP s)) r=m at *;go_wp2_with fail;go_loopw [4,5] (fun v i wr=>∃k:Nat,k≤n∧i= .int .i64 k∧wr.ownsRow w3.heap.size 3 1 v k ((m.take k).map (Value.int .i64))∧Below w3.heap.size w3 wr) (fun _ i _=>n-(intOf i).toNat);case atStart=>exact⟨0,aC8 _,rfl,aG2 _ _ _ _,am4 _ _⟩
 case round=>
  obtain⟨k,hk,rfl,hown,hbw⟩:=hrel;have hs':=hbw.size;by_cases hlt:k<n
  ·have e1:=HC3.o wr hbw k hlt;have hx:=HRL.o k hlt;have hm:=HLM.o k hlt;have hol:=θ (fun j hj=>bX hown (k:=j) hj);by_cases h0:r[k]?.getD 0=0
   ·rw[aH9 h0]at hm;rw[h0]at e1;rw[show ((0:Nat):Int)=0 from rfl]at e1;have htk:(m.take (k+1)).map (Value.int .i64)=(m.take k).map (Value.int .i64)++[.int .i64 0]:=by
     rw[ay9,hm,at6];rfl
    have HTK:=θ htk;clear htk hm h0;generalize (m.take k).map (Value.int .i64)=row at *;go_wp2_with (at_builtin;refine lC rfl _ _ 36 rfl w3.heap.size 3 Tryz.infoIntG Tryz.underlying36 rfl _ _ _ rfl hown rfl rfl (by unfold maxLen;omega) E E ?_);intro v' w1 hown' hgrow;have hnx':Below w3.heap.size w3 w1:=hbw.grown hgrow hs' (fun j hj=>(hol.out j hj).1);go_wp2_with fail;go_roundw;case rel=>exact⟨k+1,E,by go_num,by rw[HTK.o];exact hown',hnx'⟩
    case measure=>simp[intOf];omega
   ·rw[aH8 h0]at hm;obtain⟨p,hp⟩:∃p,r[k]?.getD 0=p+1:=⟨r[k]?.getD 0-1,E⟩;rw[hp]at e1 hx hm;have hps:p<s.size:=by have :=HN.o;omega
    rw[show p+1-1=p from rfl,qC hps]at hm;have htk:(m.take (k+1)).map (Value.int .i64)=(m.take k).map (Value.int .i64)++[.int .i64 ((s[p].toNat:Int)+1)]:=by
     rw[ay9,hm,at6];rfl
    have HTK:=θ htk;have hb:s[p].toNat<256:=s[p].toNat_lt;have i0:(0:Int)≤(p:Int):=E;have i1:(p:Int)<(s.size:Int):=E;have ep:((p+1:Nat):Int)=(p:Int)+1:=rfl;rw[ep]at e1;have d0:((p:Int)+1==0)=false:=by rw[aG5];omega
    have d1:(p:Int)+1-1=(p:Int):=E;clear htk hm h0 hp ep;generalize (m.take k).map (Value.int .i64)=row at *;go_wp2_with (at_builtin;refine lC rfl _ _ 36 rfl w3.heap.size 3 Tryz.infoIntG Tryz.underlying36 rfl _ _ _ rfl hown rfl rfl (by unfold maxLen;omega) E E ?_);intro v' w1 hown' hgrow;have hnx':Below w3.heap.size w3 w1:=hbw.grown hgrow hs' (fun j hj=>(hol.out j hj).1);go_wp2_with fail;go_roundw;case rel=>exact⟨k+1,E,by go_num,by rw[HTK.o];exact hown',hnx'⟩
    case measure=>simp[intOf];omega
  ·obtain rfl:k=n:=E;rw[az3 (by rw[HML.o];exact aA5 _)]at hown;have h3:=HB3.o.size;go_wp2_with fail;go_ret;exact⟨m,HIS.o,_,rfl,by rw[HML.o];exact mV hown h3,HB3.o.trans (hbw.mono h3)⟩
theorem vC(a b:Option Addr)(n m c d:Nat)(xs ys:List Int)(w:World)(hx:Reads w .i64 a xs)(hy:Reads w .i64 b ys)(hn:n=xs.length)(hm:m=ys.length)(hmx:xs.length≤9223372036854775806)(he:xs=ys):
  Calls Tryz.prog 17 #[.slice a n c, .slice b m d] w fun e w'=>e= .returned (.bool true)∧∃k,w'=w.drewN k:=by
 refine(Iq a b n m c d xs ys w hx hy hn hm hmx).mono ?_;rintro e w' ⟨rfl,h⟩;exact⟨dV (aH1 he),h⟩
theorem It{w:World}{code n:Int}{da db pa pb:Option Addr}{dc dd pc pd:Nat}{d l:List Int}(h1:Reads w .u8 da d)(h2:Reads w .u8 db d)(h3:Reads w .i64 pa l)(h4:Reads w .i64 pb l)(hl:l.length≤1000000):
  Calls Tryz.prog 20 #[.agg #[.int .i64 code, .int .i64 n, .slice da d.length dc, .slice pa l.length pc], .agg #[.int .i64 code, .int .i64 n, .slice db d.length dd, .slice pb l.length pd]] w fun e w'=>e= .returned (.bool true)∧Below w.heap.size w w':=by
 have hb:Below w.heap.size w ((w.alloc (.cells #[.int .i64 code, .int .i64 n, .slice da d.length dc, .slice pa l.length pc] 38)).alloc (.cells #[.int .i64 code, .int .i64 n, .slice db d.length dd, .slice pb l.length pd] 38)):=((am4 _ _).alloc (aA5 _) _).alloc Es _;have hc1:=qP (P:=Tryz.prog) (src:=32) (dst:=9) (c:=dc) aE9 aF2 aF3 (h1.below hb);have hc2:=qP (P:=Tryz.prog) (src:=32) (dst:=9) (c:=dd) aE9 aF2 aF3 (h2.below hb);have HS:=θ (vC pa pb l.length l.length pc pd l l _ (h3.below hb) (h4.below hb) rfl rfl E rfl);have HB:=θ hb;generalize strOfNums d=sd at *;clear h1 h2 h3 h4 hb;go_enter Tryz.func20,Tryz.ntmps20;go_wp2_with fail;refine HS.o.mono ?_;rintro e w' ⟨rfl,k,rfl⟩;clear HS hc1 hc2;go_wp2_with fail;go_ret;exact⟨rfl,aG4 HB.o k⟩
def ShRd(w:World)(a:Option Addr)(ys:List (Option ST)):Prop:=∀(i:Nat) (o:Option ST),ys[i]? =some o→∃g:Nat,a=some ⟨g,0,none⟩∧g<w.heap.size∧w.cell? ⟨g,i*4,none⟩=some (.int .i64 ((aF o).length:Nat))∧w.cell? ⟨g,i*4+1,none⟩=some (.int .i64 (aO o:Nat))∧
   w.cell? ⟨g,i*4+2,none⟩=some (.int .i64 (xH o:Nat))∧w.cell? ⟨g,i*4+3,none⟩=some (.int .i64 (oF o:Nat))
theorem ShRd.below {w w':World}{a:Option Addr}{ys:List (Option ST)}(h:ShRd w a ys)(hb:Below w.heap.size w w'):ShRd w' a ys:=by
 intro i o hi;obtain⟨g,rfl,hg,c0,c1,c2,c3⟩:=h i o hi;have :=hb.size;exact⟨g,rfl,E,(hb.cell (p:=⟨g,i*4,none⟩) hg).trans c0,(hb.cell (p:=⟨g,i*4+1,none⟩) hg).trans c1,(hb.cell (p:=⟨g,i*4+2,none⟩) hg).trans c2,(hb.cell (p:=⟨g,i*4+3,none⟩) hg).trans c3⟩
theorem shV_eq(o:Option ST):sN o= .agg #[.int .i64 ((aF o).length:Nat), .int .i64 (aO o:Nat), .int .i64 (xH o:Nat), .int .i64 (oF o:Nat)]:=by
 rw[Gl,vD]
theorem Ve{w:World}{a:Option Addr}{cap n:Nat}{ys:List (Option ST)}{o0:Option ST}(h:ShRd w a ys)(hok:∀o∈ys,pA o)(h0:ys[0]? =some o0)(hn:(aF o0).length=n)(hl:ys.length≤1000000):
  Calls Tryz.prog 41 #[.slice a ys.length cap, .int .i64 n] w fun e w'=>e= .returned (.bool true)∧Below w.heap.size w w':=by
 have HH:=θ h;have HOK:=θ hok;have HN:=θ h0;have hpos:=(ar5.1 h0).1;clear h hok h0;go_enter Tryz.func41,Tryz.ntmps41;go_wp2_with fail;go_loopw [5] (fun v wr=>∃k:Nat,k≤ys.length∧v= .int .i64 k∧Below w.heap.size w wr) (fun v _=>ys.length-(intOf v).toNat);case atStart=>exact⟨0,aC8 _,rfl,am4 _ _⟩
 case round=>as_aux_lemma=>
  obtain⟨k,hk,rfl,hb⟩:=hrel;have HB:=θ hb;by_cases hlt:k<ys.length
  ·obtain⟨o,ho⟩:∃o,ys[k]? =some o:=⟨_,ar3 hlt⟩;obtain⟨g,rfl,hg,c0,c1,c2,c3⟩:=(HH.o.below hb) k o ho;have hoo:=HOK.o o (ax2 ho);have HM:=θ (Nq hoo.1 hoo.2.1 wr);rw[shV_eq]at HM;have hp:=hoo.2.2.1;have c4:∀w',Below wr.heap.size wr w'→w'.cell? ⟨g,k*4,none⟩=some (.int .i64 ((aF o).length:Nat)):=fun w' hb'=>(hb'.cell (p:=⟨g,k*4,none⟩) hg).trans c0;have HC4:=θ c4;have k0:(0:Int)≤(k:Int):=E;have k1:(k:Int)<(ys.length:Int):=E;clear hb hoo ho c4 HN hn;generalize (aF o).length=n0 at *;generalize aO o=n1 at *;generalize xH o=n2 at *;generalize oF o=n3 at *;have d1:decide ((n0:Int)<1)=false:=aG9 E;go_wp2_with fail;refine HM.o.mono ?_;rintro e w2 ⟨rfl,hb2⟩;have c5:=HC4.o w2 hb2;have HB2:Hid (Below w.heap.size w w2):=θ (HB.o.trans (hb2.mono HB.o.size));clear HM HC4 hb2 HB c0 c1 c2 c3;go_wp2_with fail;go_roundw;case rel=>exact⟨k+1,E,by go_num,HB2.o⟩
   case measure=>simp[intOf];omega
  ·obtain rfl:k=ys.length:=E;obtain⟨g,rfl,hg,c0,_,_,_⟩:=(HH.o.below hb) 0 o0 HN.o;rw[hn,aC9]at c0;clear hb;go_wp2_with fail;go_ret;exact⟨rfl,HB.o⟩
theorem Rr(n:Nat)(hn:n≤1000000)(w:World):
  Calls Tryz.prog 43 #[.int .i64 n] w fun e w'=>e= .returned (.int .i64 ((9*(8*(n+1)/128+1024):Nat):Int))∧w=w':=by
 have HL:Hid (Calls Tryz.prog 84 #[.int .i64 n] w fun e w'=>e= .returned (.int .i64 (n:Int))∧w=w'):=by
  show Calls _ _ _ _ _;have d1:decide ((n:Int)<0)=false:=aG9 E;have d2:decide ((n:Int)<2147483648)=true:=aH1 E;have d3:¬((n:Int)<0):=E;have d4:(n:Int)<2147483648:=E;have d5:¬((2147483648:Int)<(n:Int)):=E;have d6:min (n:Int) 2147483648=(n:Int):=E;go_enter Tryz.func84,Tryz.ntmps84;go_wp2_with fail;go_ret;exact⟨rfl,rfl⟩
 have e2:IntKind.i64.wrap (8*((n:Int)+1)/128)=((8*(n+1)/128:Nat):Int):=by
  rw[ao4 _ E];omega
 have e3:(8*((n:Int)+1)).tdiv 128=((8*(n+1)/128:Nat):Int):=by
  rw[ao0 E];omega
 have e4:8*((n:Int)+1)/128=((8*(n+1)/128:Nat):Int):=E;have hm:8*(n+1)/128≤1000000:=E;generalize hx:8*(n+1)/128=x at *;clear hx;go_enter Tryz.func43,Tryz.ntmps43;go_wp2_with fail;refine HL.o.mono ?_;rintro e w' ⟨rfl,rfl⟩;go_wp2_with fail;go_ret;exact⟨by first | rfl | go_num,rfl⟩
theorem Xs{ys:List (Option ST)}(h:∀o∈ys,pA o):fG ys≤2000000000*ys.length:=by
 induction ys with
 | nil=>simp[fG]
 | cons y ys ih=>
  have h1:=(xG (h y Es)).2.2;have h2:=ih (fun o ho=>h o (by simp[ho]));unfold fG at h2⊢;simp only[at8,List.sum_cons,as7];omega
theorem sumFin{w:World}{b:Nat}{v0 v1 v2 v3:Value}{a:Act}{Rp:Ending→World→Prop}(h2:a.tmps[2]?.getD undef= .pointer (some ⟨b,0,none⟩))(hd:a.defers=[])(hb:w.heap[b]? =some (.cells #[v0,v1,v2,v3] 85 (0,0)))(hR:Rp (.returned (.agg #[v0,v1,v2,v3])) w):bodyPost Tryz.prog Tryz.f42 Rp .ret a w:=by
 have e0:=aG7 w b 0 _ _ _ hb;have e1:=aG7 w b 1 _ _ _ hb;have e2:=aG7 w b 2 _ _ _ hb;have e3:=aG7 w b 3 _ _ _ hb;show a.defers=[]∧∃v,(results Tryz.f42 a.tmps).run Tryz.prog w= .ok v w∧Rp (.returned v) w;refine⟨hd,_,?_,hR⟩;simp[results,Tryz.f42,go_sem,h2,e0,e1,e2,e3]
theorem aj8{w:World}{a:Option Addr}{cap:Nat}{ys:List (Option ST)}(h:ShRd w a ys)(hok:∀o∈ys,pA o)(hl:ys.length≤1000000):
  Calls Tryz.prog 42 #[.slice a ys.length cap] w fun e w'=>∃x y z:Int,e= .returned (.agg #[.int .i64 x, .int .i64 y, .int .i64 z, .int .i64 (fG ys:Int)])∧Below w.heap.size w w':=by
 have HH:=θ h;have HOK:=θ hok;clear h hok;go_enter Tryz.func42,Tryz.ntmps42;go_wp2_with fail;have hb0:Below w.heap.size w ((w.alloc (.cells #[.int .i64 0, .int .i64 0, .int .i64 0, .int .i64 0] 85)).alloc (.cells #[.int .i64 0, .int .i64 0, .int .i64 0, .int .i64 0] 85)):=((am4 _ _).alloc (aA5 _) _).alloc Es _;have hx0:=aH5 w (.cells #[.int .i64 0, .int .i64 0, .int .i64 0, .int .i64 0] 85);have hx1:=aH5 (w.alloc (.cells #[.int .i64 0, .int .i64 0, .int .i64 0, .int .i64 0] 85)) (.cells #[.int .i64 0, .int .i64 0, .int .i64 0, .int .i64 0] 85);rw[aG3]at hx1;have hx2:=(Chg.of_below (S:=fun _=>False) (aC (w.alloc (.cells #[.int .i64 0, .int .i64 0, .int .i64 0, .int .i64 0] 85)) (.cells #[.int .i64 0, .int .i64 0, .int .i64 0, .int .i64 0] 85))).heap hx0 (fun e=>e);have HX:=θ (And.intro hb0 (And.intro hx2 hx1));clear hb0 hx0 hx1 hx2;generalize (w.alloc (.cells #[.int .i64 0, .int .i64 0, .int .i64 0, .int .i64 0] 85)).alloc (.cells #[.int .i64 0, .int .i64 0, .int .i64 0, .int .i64 0] 85)=w1 at *;go_loopw [4] (fun v wr=>∃(k:Nat) (x y z:Int),k≤ys.length∧v= .int .i64 k∧Below w.heap.size w wr∧wr.heap[w.heap.size]? =some (.cells #[.int .i64 0, .int .i64 0, .int .i64 0, .int .i64 0] 85 (0,0))∧
   wr.heap[w.heap.size+1]? =some (.cells #[.int .i64 x, .int .i64 y, .int .i64 z, .int .i64 (fG (ys.take k):Nat)] 85 (0,0))) (fun v _=>ys.length-(intOf v).toNat)
 case atStart=>exact⟨0,0,0,0,aC8 _,rfl,HX.o.1,HX.o.2.1,HX.o.2.2⟩
 case round=>as_aux_lemma=>
  clear HX;obtain⟨k,x,y,z,hk,rfl,hb,hx0,hx1⟩:=hrel;have HB:=θ hb;have HX0:=θ hx0;have HX1:=θ hx1;by_cases hlt:k<ys.length
  ·obtain⟨o,ho⟩:∃o,ys[k]? =some o:=⟨_,ar3 hlt⟩;obtain⟨g,rfl,hg,c0,c1,c2,c3⟩:=(HH.o.below hb) k o ho;have hoo:=xG (HOK.o o (ax2 ho));have hns:fG (ys.take (k+1))=fG (ys.take k)+oF o:=by rw[ay9,ho];exact Rq _ _
   have hnm:fG (ys.take k)≤2000000000*k:=by
    have :=Xs (ys:=ys.take k) (fun o ho=>HOK.o o (ax3 ho));rw[at5,aB2 hk]at this;exact this
   have e0:=aG7 wr (w.heap.size+1) 0 _ _ _ hx1;have e1:=aG7 wr (w.heap.size+1) 1 _ _ _ hx1;have e2:=aG7 wr (w.heap.size+1) 2 _ _ _ hx1;have e3:=aG7 wr (w.heap.size+1) 3 _ _ _ hx1;have f0:=aH3 wr (w.heap.size+1) 0 _ _ hx1;have f1:=aH3 wr (w.heap.size+1) 1 _ _ hx1;have f2:=aH3 wr (w.heap.size+1) 2 _ _ hx1;have f3:=aH3 wr (w.heap.size+1) 3 _ _ hx1;have k0:(0:Int)≤(k:Int):=E;have k1:(k:Int)<(ys.length:Int):=E;have HNS:=θ hns;clear hb hx0 hx1 ho hns;generalize (aF o).length=n0 at *;generalize aO o=n1 at *;generalize xH o=n2 at *;generalize oF o=n3 at *;generalize fG (ys.take k)=nn at *;obtain⟨q,hq⟩:∃q,w.heap.size+1=q:=⟨_,rfl⟩;rw[hq]at e0 e1 e2 e3 f0 f1 f2 f3 HX1⊢;have hwn:IntKind.i64.wrap ((nn:Int)+(n3:Int))=((nn+n3:Nat):Int):=by rw[ao4 _ E];omega
   have HNW:Hid (Below w.heap.size w ((((wr.setCell ⟨q,0,none⟩ (.int .i64 (wrap64 (x+(n0:Nat))))).setCell ⟨q,1,none⟩ (.int .i64 (max y (n1:Nat)))).setCell ⟨q,2,none⟩ (.int .i64 (wrap64 (z+(n2:Nat))))).setCell ⟨q,3,none⟩ (.int .i64 ((nn+n3:Nat):Int)))∧_∧_):=θ (by
    obtain⟨hb4,hc4⟩:=sK HX1.o (.int .i64 (wrap64 (x+(n0:Nat)))) (.int .i64 (max y (n1:Nat))) (.int .i64 (wrap64 (z+(n2:Nat)))) (.int .i64 ((nn+n3:Nat):Int))
    exact⟨HB.o.trans (hc4.below (fun b e=>E) HB.o.size),hc4.heap HX0.o (fun e=>E),hb4⟩)
   go_upto_region 5 with fail
   refine qZ (fun w'=>w'.cell? ⟨q,0,none⟩=some (.int .i64 x)∧w'.cell? ⟨q,1,none⟩=some (.int .i64 y)∧w'.cell? ⟨q,2,none⟩=some (.int .i64 z)∧w'.cell? ⟨q,3,none⟩=some (.int .i64 (nn:Nat))∧w'.cell? ⟨g,k*4,none⟩=some (.int .i64 (n0:Nat))∧w'.cell? ⟨g,k*4+1,none⟩=some (.int .i64 (n1:Nat))∧w'.cell? ⟨g,k*4+2,none⟩=some (.int .i64 (n2:Nat))∧w'.cell? ⟨g,k*4+3,none⟩=some (.int .i64 (n3:Nat))) 33 Ek (⟨e0,e1,e2,e3,c0,c1,c2,c3⟩) (fun hh=>?_);refine rl 0 hh ?_;refine rl 1 hh ?_;refine rl 2 hh ?_;refine rl 3 hh ?_;refine rl 4 hh ?_;refine rl 5 hh ?_;refine rl 6 hh ?_;refine rl 7 hh ?_;refine rl 8 hh ?_;refine rl 9 hh ?_;refine rl 10 hh ?_;refine rl 11 hh ?_;refine rl 12 hh ?_;refine rl 13 hh ?_;refine rl 14 hh ?_;refine rl 15 hh ?_;refine rl 16 hh ?_;refine rl 17 hh ?_;refine rl 18 hh ?_;refine rl 19 hh ?_;refine rl 20 hh ?_;refine rl 21 hh ?_;refine rl 22 hh ?_;refine rl 23 hh ?_;refine rl 24 hh ?_;refine rl 25 hh ?_;refine rl 26 hh ?_;refine rl 27 hh ?_;refine rl 28 hh ?_;refine rl 29 hh ?_;refine rl 30 hh ?_;refine rl 31 hh ?_;refine rl 32 hh ?_;refine tI rfl Ek Ek rfl ?_;clear hh;go_simp;go_wp2_with fail;go_roundw;case rel=>exact⟨k+1,wrap64 (x+(n0:Nat)),max y (n1:Nat),wrap64 (z+(n2:Nat)),E,by go_num,by
    have h3:=HNW.o
    rw[Int.natCast_add]at h3
    rw[HNS.o,Int.natCast_add]
    exact⟨aX h3.1 1,h3.2.1,h3.2.2⟩⟩
   case measure=>simp[intOf];omega
  ·obtain rfl:k=ys.length:=E;rw[az2]at hx1;have e0:=aG7 wr (w.heap.size+1) 0 _ _ _ hx1;have e1:=aG7 wr (w.heap.size+1) 1 _ _ _ hx1;have e2:=aG7 wr (w.heap.size+1) 2 _ _ _ hx1;have e3:=aG7 wr (w.heap.size+1) 3 _ _ _ hx1;have g0:=aG7 wr w.heap.size 0 _ _ _ hx0;have g1:=aG7 wr w.heap.size 1 _ _ _ hx0;have g2:=aG7 wr w.heap.size 2 _ _ _ hx0;have g3:=aG7 wr w.heap.size 3 _ _ _ hx0;have f0:=aH3 wr w.heap.size 0 _ _ hx0;have f1:=aH3 wr w.heap.size 1 _ _ hx0;have f2:=aH3 wr w.heap.size 2 _ _ hx0;have f3:=aH3 wr w.heap.size 3 _ _ hx0;obtain⟨hb4,hc4⟩:=sK hx0 (.int .i64 x) (.int .i64 y) (.int .i64 z) (.int .i64 (fG ys:Nat));have HFI:=θ (And.intro hb4 (hb.trans (hc4.below (fun b e=>E) hb.size)));clear hb hb4 hc4 hx0 hx1;go_wp2_with fail;exact sumFin rfl rfl HFI.o.1 ⟨x,y,z,rfl,HFI.o.2⟩
section
variable {B:Nat}{X:Nat→Prop}{w w':World}{q ra:Nat}{most:Int}{t:List Int}{c:Nat}
theorem Ea(h:StT B X w q ra most t c)(s:ByteArray)(hs:bP s=t)(hl:t.length≤100000):
  Calls Tryz.prog 16 #[.pointer (some ⟨q,0,none⟩), .string s] w fun e w'=>e= .returned (.bool true)∧StT B X w' q ra most t c∧Chg (exT B X) w w':=by
 have hsz:s.size=t.length:=by rw[←hs,iW]
 have HR:=θ (sG s w E);have HQ:Hid (∀w,Calls Tryz.prog 33 #[.string s] w (vI w.heap.size w t)):=θ (fun w=>by have :=Fv s w (E);rw[hs]at this;exact this);rw[hs]at HR;have H:=θ h;have HSZ:=θ hsz;have hs9:s.size≤100000:=E;clear h hs hsz;go_enter Tryz.func16,Tryz.ntmps16;go_wp2_with fail;refine HR.o.mono ?_;rintro e w1 ⟨R,hR,v,rfl,ho,hb⟩;obtain⟨ga,gc,rfl,_,had⟩:=aM ho;have hRl:R.length=t.length+1:=by rw[hR.len,aI]
 have HS1:Hid (StT B (fun j=>X j∨(w.heap.size≤j∧j<w1.heap.size)) w1 q ra most t c):=θ (H.o.less hb (fun j e=>e));have HC1:Hid (Chg (exT B X) w w1):=θ (Chg.of_below hb);have HRR:=θ (Mq ho);have HAD:Hid (∀ad,ga=some ad→w.heap.size≤ad.block∧ad.block<w1.heap.size):=θ (fun ad e=>by obtain⟨g,rfl,h1,h2,_⟩:=had ad e;exact⟨h1,h2⟩);have HIR:=θ hR;have HL1:=θ (stLast HS1.o);clear hR ho hb had HR;obtain⟨nn,hnn⟩:∃nn,R.length=nn:=⟨_,rfl⟩;have hnt:nn=t.length+1:=by rw[←hnn,hRl]
 rw[hnn];have HNT:=θ (And.intro hnn hnt);clear hnn hnt hRl;go_wp2_with fail;refine HL1.o.mono ?_;rintro e w2 ⟨g2,R2,rfl,hR2,hr2,hst2,hc2⟩;have HS2:=θ hst2;have HC2:Hid (Chg (exT B X) w w2):=θ (HC1.o.trans (hc2.mono (fun j e=>bS (fun k hk=>Ei hk) e)) (fun b e=>Ei e));have HRR2:Hid (Reads w2 .i64 ga (cC R)):=θ (hc2.reads HRR.o (fun ad e e2=>e2.2 (Ej (HAD.o ad e))));have HQ2:=θ (HQ.o w2);have HRL2:=θ (And.intro hR2 hr2);clear hR2 hr2 hst2 hc2 HL1 HC1 HRR HS1 HAD;go_wp2_with fail;refine HQ2.o.mono ?_;rintro e w3 ⟨m,hm,v3,rfl,ho3,hb3⟩;obtain⟨ga3,gc3,rfl,_,_⟩:=aM ho3;have hml:m.length=t.length+1:=hm.len;have HSM:=θ (vC (some ⟨g2,0,none⟩) ga3 (t.length+1) m.length (t.length+1) gc3 (bZ (aA t) R2) m w3 (Reads.below HRL2.o.2 hb3) (jC ho3) (by rw[lG,HRL2.o.1.len,aI]) rfl (by rw[lG,HRL2.o.1.len,aI];omega)
  (by obtain⟨_,r,h1,h2⟩:=hm;rw[←h2,pJ HRL2.o.1 h1]))
 have HS3:=θ (HS2.o.below hb3);have HC3:Hid (Chg (exT B X) w w3):=θ (HC2.o.trans (Chg.of_below hb3) (fun b e=>Ei e));have HRR3:Hid (Reads w3 .i64 ga (cC R)):=θ (Reads.below HRR2.o hb3);clear hm ho3 hb3 hml HQ2 HRL2 HS2 HC2 HRR2;go_wp2_with fail;refine HSM.o.mono ?_;rintro e w4 ⟨rfl,k4,rfl⟩;have hb4:Below w3.heap.size w3 (w3.drewN k4):=⟨rfl,rfl,rfl,aA5 _,fun _ _=>rfl⟩;have HS4:=θ (HS3.o.below hb4);have HC4:Hid (Chg (exT B X) w (w3.drewN k4)):=θ (HC3.o.trans (Chg.of_below hb4) (fun b e=>Ei e));have HRR4:Hid (Reads (w3.drewN k4) .i64 ga (cC R)):=θ (Reads.below HRR3.o hb4);clear hb4 HSM HS3 HC3 HRR3;generalize w3.drewN k4=w4 at *;have HPS:=θ (aj6 HS4.o);go_wp2_with fail;refine HPS.o.mono ?_;rintro e w5 ⟨R5,M,hR5,hpm,hsm,pa,pc,rfl,ho5,hb5⟩;obtain rfl:R5=R:=pJ hR5 HIR.o;obtain⟨f1,f2,f3⟩:=Sp (M:=M) hpm;have HS5:=θ (HS4.o.below hb5);have HC5:Hid (Chg (exT B X) w w5):=θ (HC4.o.trans (Chg.of_below hb5) (fun b e=>Ei e));have HRT:=θ (stRate HS5.o);have HSA:=θ (Iv (pc:=pc) (rc:=gc) (ai5 ho5 rfl) (Reads.below HRR4.o hb5) (n:=nn) (ra:=ra) (by have :=HNT.o;omega) (fun j x hx=>by obtain⟨r,p,e1,e2,e3,e4⟩:=f1 j x hx;exact⟨r,p,e1,e2,e3,by have :=HNT.o;omega⟩) (fun h1 h2 h3=>Sq h1 h2 h3) (fun p hp hM=>f3 p (by have :=HNT.o;omega) hM) (by rw[HNT.o.2];exact hsm) (by have :=HNT.o;omega) (by have :=HNT.o;omega) (by have :=HNT.o;omega));clear hR5 hpm hsm ho5 hb5 f1 f2 f3 HPS HS4 HC4 HRR4;generalize prL 0 (plS M R5)=ps at *;go_wp2_with fail;refine HRT.o.mono ?_;rintro e w6 ⟨rfl,rfl⟩;clear HRT;go_wp2_with fail;refine HSA.o.mono ?_;rintro e w6 ⟨rfl,hb6⟩;have HS6:=θ (HS5.o.below hb6);have HC6:Hid (Chg (exT B X) w w6):=θ (HC5.o.trans (Chg.of_below hb6) (fun b e=>Ei e));clear hb6 HSA HS5 HC5;have HSH:=θ (Ub HS6.o);go_wp2_with fail;refine HSH.o.mono ?_;rintro e w7 ⟨L,sa,sc,ys,hL,hsy,rfl,hsr,hys,hok,hb7⟩;have hrd:ShRd w7 sa ys:=fun i o hi=>aj1 hsr hi;have hmax:=Xt hok hsy hys;have hyl:ys.length≤1000000:=by have :=yW hys;have :=Ky L;omega
 obtain⟨hh1,hh2⟩:=Rs hsy E;obtain⟨o0,ho0,hob⟩:∃o0,ys[0]? =some o0∧aF o0=lvl L 0 0:=by
  rw[←hys,ar6]at hh1;cases h:ys[0]? with
  | none=>rw[h]at hh1;simp at hh1
  | some o=>rw[h]at hh1;exact⟨o,rfl,by simpa using hh1⟩
 have HTR:=θ (Ve (cap:=sc) hrd hok ho0 (n:=s.size+1) (by rw[hob,hh2,hL,HSZ.o]) hyl);have HSU:Hid (∀w',Below w7.heap.size w7 w'→Calls Tryz.prog 42 #[.slice sa ys.length sc] w' fun e w''=>∃x y z:Int,e= .returned (.agg #[.int .i64 x, .int .i64 y, .int .i64 z, .int .i64 (fG ys:Int)])∧Below w'.heap.size w' w''):=θ (fun w' hb=>aj8 (hrd.below hb) hok hyl);have HS7:=θ (HS6.o.below hb7);have HC7:Hid (Chg (exT B X) w w7):=θ (HC6.o.trans (Chg.of_below hb7) (fun b e=>Ei e));have hmx:fG ys≤9*(8*(s.size+1)/128+1024):=by rw[hL,←HSZ.o]at hmax;exact hmax
 clear hL hsy hsr hys hok hb7 hrd hmax hh1 hh2 ho0 hob HSH HS6 HC6;have hw1:IntKind.i64.wrap ((s.size:Int)+1)=((s.size+1:Nat):Int):=by rw[ao4 _ E];omega
 have HN:Hid (∀w',Calls Tryz.prog 43 #[.int .i64 s.size] w' fun e w''=>e= .returned (.int .i64 ((9*(8*(s.size+1)/128+1024):Nat):Int))∧w'=w''):=θ (fun w'=>Rr s.size E w');generalize 9*(8*(s.size+1)/128+1024)=nx at *;generalize fG ys=ny at *;have d1:decide ((ny:Int)≤(nx:Int))=true:=aH1 E;have d2:decide (ny≤nx)=true:=aH1 E;go_wp2_with fail;refine HTR.o.mono ?_;rintro e w8 ⟨rfl,hb8⟩;have HS8:=θ (HS7.o.below hb8);have HC8:Hid (Chg (exT B X) w w8):=θ (HC7.o.trans (Chg.of_below hb8) (fun b e=>Ei e));have HSU2:=θ (HSU.o w8 hb8);clear hb8 HTR HSU HS7 HC7;go_wp2_with fail;refine HSU2.o.mono ?_;rintro e w9 ⟨x,y,z,rfl,hb9⟩;have HS9:=θ (HS8.o.below hb9);have HC9:Hid (Chg (exT B X) w w9):=θ (HC8.o.trans (Chg.of_below hb9) (fun b e=>Ei e));clear hb9 HSU2 HS8 HC8;have hfd:∀w:World,(Instr.field 85 (.agg #[.int .i64 x, .int .i64 y, .int .i64 z, .int .i64 (ny:Int)]) 3).run Tryz.prog w= .ok (.int .i64 (ny:Int)) w:=fun w=>Ek;go_wp2_with fail;refine(HN.o w9).mono ?_;rintro e w' ⟨rfl,rfl⟩;go_wp2_with fail;go_ret;exact⟨rfl,HS9.o.mono (fun j e=>Ei e),HC9.o⟩
end
def zN(s p:ByteArray)(a:Nat):Bool:=decide (a+p.size≤s.size)&&((s.extract a (a+p.size)).toList==p.toList)
theorem rU(s:ByteArray)(a b:Nat):(s.extract a b).data.toList=(s.data.toList.drop a).take (b-a):=by
 rw[ByteArray.data_extract,Array.toList_extract]
theorem Vq{t u:List Int}(ht:aU t)(hu:aU u)(q:Nat)(hq:q≤t.length):zN (strOfNums t) (strOfNums u) q=true↔jW t u q:=by
 have e1:(strOfNums u).size=u.length:=aI9 u;have e2:(strOfNums t).size=t.length:=aI9 t;have key:q+u.length≤t.length→(((strOfNums t).extract q (q+u.length)).toList=(strOfNums u).toList↔(t.drop q).take u.length=u):=by
  intro hle;rw[ByteArray.toList_eq,ByteArray.toList_eq,rU,aI8,aI8,←at9,←av6,show q+u.length-q=u.length by omega];constructor
  ·intro h;have hb:aU ((t.drop q).take u.length):=fun x hx=>ht x (List.mem_of_mem_drop (ax3 hx));have h2:=aG8 (List.map fun b:UInt8=>(b.toNat:Int)) h;have f1:=tM hb;have f2:=tM hu;unfold bP at f1 f2;rw[aI8]at f1 f2;rw[f1,f2]at h2;exact h2
  ·intro h;rw[h]
 unfold zN;rw[e1,e2,am5,aH2,aG6];constructor
 ·rintro⟨h1,h2⟩ d hd;have h3:=(key h1).1 h2;rw[kS E];unfold sy;have h4:u[d]? =some t[q+d]:=by
   have h5:=aG8 (fun l:List Int=>l[d]?) h3;simp only[ar9,aH9 hd,ar2]at h5;rw[←h5,ar3 E]
  rw[h4];rfl
 ·intro h;have h1:q+u.length≤t.length:=by
   rcases aB0 t.length (q+u.length)with hc | hc
   ·have h2:=h (t.length-q) E;rw[show q+(t.length-q)=t.length by omega,oW]at h2;have h3:=(hu _ (as3 (show t.length-q<u.length by omega))).1;unfold sy at h2;rw[ar3 E]at h2;simp only[aD0]at h2;omega
   ·exact hc
  refine⟨h1,(key h1).2 ?_⟩;apply List.ext_getElem
  ·rw[at5,as8];omega
  ·intro i h2 h3;rw[as5,as1];have h4:=h i h3;rw[kS E]at h4;unfold sy at h4;rw[ar3 h3]at h4;simp only[aD0]at h4;omega
def plcK(s p:ByteArray)(k:Nat):List Int:=cC ((List.range k).filter (zN s p))
def plcL(s p:ByteArray):List Int:=plcK s p (s.size+1)
structure StR where
 t:List Int
 code:Int
 n:Int
 d:List Int
 l:List Int
def zX(t d:List Int):List Int:=plcL (strOfNums t) (strOfNums d)
def aK(most:Int)(t:List Int)(k at_ n:Int)(d:List Int):StR:=
 if k=1 then (if cN t at_ 0=true then (if (d.length:Int)≤most-t.length then ⟨fD t at_.toNat d,0,0,[],[]⟩else ⟨t,3,0,[],[]⟩)else ⟨t,2,0,[],[]⟩)
 else if k=2 then (if cN t at_ n=true then ⟨eC t at_.toNat n.toNat,0,0,[],[]⟩else ⟨t,2,0,[],[]⟩)
 else if k=3 then (if cN t at_ d.length=true then ⟨dD t at_.toNat d,0,0,[],[]⟩else ⟨t,2,0,[],[]⟩)
 else if k=4 then ⟨t,0,t.length,[],[]⟩
 else if k=5 then (if cN t at_ n=true then ⟨t,0,0,(t.drop at_.toNat).take n.toNat,[]⟩else ⟨t,2,0,[],[]⟩)
 else if k=6 then ⟨t,0,(zX t d).length,[],[]⟩
 else if k=7 then ⟨t,0,(zX t d).length,[],zX t d⟩
 else if k=8 then ⟨t,0,0,[],[]⟩
 else ⟨t,1,0,[],[]⟩
def eV(t:List Int)(k n:Int)(d:List Int):Nat:=if k=2 then min n.toNat t.length*(t.length+5)else d.length*(t.length+d.length+5)
theorem eH{t:List Int}{a n:Int}(h:cN t a n=true):∃x y:Nat,a=x∧n=y∧x+y≤t.length:=by
 have h:=aI4 h;exact⟨a.toNat,n.toNat,E,E,E⟩
theorem gG{x y:List Int}(hx:aU x)(hy:aU y):aU (x++y):=fun z hz=>(av8.1 hz).elim (hx z) (hy z)
theorem jP{x:List Int}(h:aU x)(k:Nat):aU (x.take k):=fun z hz=>h z (ax3 hz)
theorem lX{x:List Int}(h:aU x)(k:Nat):aU (x.drop k):=fun z hz=>h z (List.mem_of_mem_drop hz)
theorem Oe{most:Int}{t d:List Int}(k at_ n:Int)(ht:aU t)(hd:aU d):aU (aK most t k at_ n d).t:=by
 unfold aK;repeat' split
 all_goals first | exact ht | skip
 ·exact gG (gG (jP ht _) hd) (lX ht _)
 ·exact gG (jP ht _) (lX ht _)
 ·exact gG (gG (jP ht _) hd) (lX ht _)
theorem Ud{most:Int}{t d:List Int}(k at_ n:Int)(ht:(t.length:Int)≤most):((aK most t k at_ n d).t.length:Int)≤most:=by
 unfold aK;repeat' split
 all_goals first | exact ht | skip
 ·rename_i _ h1 h2;obtain⟨x,y,rfl,_,h3⟩:=eH h1;rw[ao2];show ((fD t x d).length:Int)≤most;rw[rE E];omega
 ·rename_i _ h1;obtain⟨x,y,rfl,rfl,h3⟩:=eH h1;rw[ao2,ao2];show ((eC t x y).length:Int)≤most;rw[sP E];omega
 ·rename_i _ h1;obtain⟨x,y,rfl,h2,h3⟩:=eH h1;rw[ao2];show ((dD t x d).length:Int)≤most;rw[rF E];exact ht
theorem Ey{t d:List Int}:cC ((List.range (t.length+1)).filter (zN (strOfNums t) (strOfNums d)))=zX t d:=by
 unfold zX plcL plcK;rw[aI9]
theorem Kf{t d:List Int}:(List.range (t.length+1)).countP (zN (strOfNums t) (strOfNums d))=(zX t d).length:=by
 rw[←Ey,mU,List.countP_eq_length_filter]
section
variable {B:Nat}{X:Nat→Prop}{w w':World}{q ra:Nat}{most:Int}{t:List Int}{c:Nat}
theorem DoR.up {t':List Int}{cm cn:Nat}{code n:Int}{d l:List Int}{e:Ending}(h:DoR B X w q ra most t' cm code n d l e w')(hc:cm≤cn):DoR B X w q ra most t' cn code n d l e w':=by
 obtain⟨da,dc,pa,pc,h1,h2,h3,⟨c',h4,h5⟩,h6⟩:=h;exact⟨da,dc,pa,pc,h1,h2,h3,⟨c',aA6 h4 hc,h5⟩,h6⟩
theorem StT.byte (h:StT B X w q ra most t c):aU t∧t.length≤100000:=by obtain⟨p,B',pk,pp,mv,R,M,h⟩:=h;exact⟨h.lv.byte,h.lv.len⟩
theorem Gq(h:StT B X w q ra most t c)(hTab:BitTab w)(htl:0<B){k at_ n:Int}{da:Option Addr}{dc:Nat}{d:List Int}(hrd:Reads w .u8 da d)(hnil:da=none→d.length=0∧dc=0)(hda:0<d.length→∀ad,da=some ad→¬exT B X ad.block)(hby:aU d)
  (h0:0≤most) (h9:most≤10000) (ht:(t.length:Int)≤most) (hd9:d.length≤10000) (hc:c+eV t k n d+t.length+d.length+10≤1000000) (h8:k≠8):
  Calls Tryz.prog 11 #[.pointer (some ⟨q,0,none⟩),bD k at_ n da d.length dc] w
   (DoR B X w q ra most (aK most t k at_ n d).t (c+eV t k n d) (aK most t k at_ n d).code (aK most t k at_ n d).n (aK most t k at_ n d).d (aK most t k at_ n d).l):=by
 have hda2:∀{X':Nat→Prop},(∀j,X j→X' j)→0<d.length→∀ad,da=some ad→¬exT B X' ad.block:=fun hX h0 ad e hx=>hda h0 ad e ⟨hx.1,fun e2=>hx.2 (hX _ e2)⟩;by_cases k1:k=1
 ·subst k1;by_cases hh:cN t at_ 0=true
  ·by_cases hr:(d.length:Int)≤most-t.length
   ·have e:aK most t 1 at_ n d=⟨fD t at_.toNat d,0,0,[],[]⟩:=by unfold aK;rw[aH9 rfl,aH9 hh,aH9 hr]
    rw[e];obtain⟨x,y,rfl,_,h3⟩:=eH hh;rw[ao2];have ec:eV t 1 n d=d.length*(t.length+d.length+5):=rfl;rw[ec]at hc⊢;exact gS h (Ei rfl) (fun w1 X' hS hb hX hX2=>Cv hS (hTab.below' hb) htl (hrd.below hb) (hda2 hX2) hby E h0 E hr E E)
   ·have e:aK most t 1 at_ n d=⟨t,3,0,[],[]⟩:=by unfold aK;rw[aH9 rfl,aH9 hh,aH8 hr]
    rw[e];exact(gS (cm:=c) h (Ei rfl) (fun w1 X' hS hb hX hX2=>(Ja hS hh h0 E E E).mono (fun e w' hq=>⟨hq.1,⟨c,aA5 _,hS.below hq.2⟩,Chg.of_below hq.2⟩))).mono (fun e w' hq=>hq.up (aA4 _ _))
  ·have e:aK most t 1 at_ n d=⟨t,2,0,[],[]⟩:=by unfold aK;rw[aH9 rfl,aH8 hh]
   rw[e];exact(gS (cm:=c) h (Ei rfl) (fun w1 X' hS hb hX hX2=>(sO hS (m:=0) rfl E (by simpa using hh)).mono (fun e w' hq=>⟨hq.1,⟨c,Nat.le_refl _,hS.below hq.2⟩,Chg.of_below hq.2⟩))).mono (fun e w' hq=>hq.up (Nat.le_add_right _ _))
 by_cases k2:k=2
 ·subst k2;by_cases hh:cN t at_ n=true
  ·have e:aK most t 2 at_ n d=⟨eC t at_.toNat n.toNat,0,0,[],[]⟩:=by unfold aK;rw[aH8 Ed,aH9 rfl,aH9 hh]
   rw[e];obtain⟨x,y,rfl,rfl,h3⟩:=eH hh;rw[ao2,ao2];have ec:eV t 2 y d=y*(t.length+5):=by unfold eV;rw[aH9 rfl,ao2,aB2 E]
   rw[ec]at hc⊢;exact gS h (Ej (Ei rfl)) (fun w1 X' hS hb hX hX2=>Ct hS (hTab.below' hb) htl h3 E)
  ·have e:aK most t 2 at_ n d=⟨t,2,0,[],[]⟩:=by unfold aK;rw[aH8 Ed,aH9 rfl,aH8 hh]
   rw[e];exact(gS (cm:=c) h (Ej (Ei rfl)) (fun w1 X' hS hb hX hX2=>(sO hS (m:=n) rfl E (by simpa using hh)).mono (fun e w' hq=>⟨hq.1,⟨c,Nat.le_refl _,hS.below hq.2⟩,Chg.of_below hq.2⟩))).mono (fun e w' hq=>hq.up (Nat.le_add_right _ _))
 by_cases k3:k=3
 ·subst k3;by_cases hh:cN t at_ d.length=true
  ·have e:aK most t 3 at_ n d=⟨dD t at_.toNat d,0,0,[],[]⟩:=by unfold aK;rw[aH8 Ed,aH8 Ed,aH9 rfl,aH9 hh]
   rw[e];obtain⟨x,y,rfl,h2,h3⟩:=eH hh;rw[ao2];have ec:eV t 3 n d=d.length*(t.length+d.length+5):=rfl;rw[ec]at hc⊢;have hm:d.length*(t.length+5)≤d.length*(t.length+d.length+5):=Nat.mul_le_mul_left _ E;exact(gS h (Ej (Ej rfl)) (fun w1 X' hS hb hX hX2=>Oa hS (hTab.below' hb) htl (hrd.below hb) (hda2 hX2) hby E E)).mono (fun e w' hq=>hq.up E)
  ·have e:aK most t 3 at_ n d=⟨t,2,0,[],[]⟩:=by unfold aK;rw[aH8 Ed,aH8 Ed,aH9 rfl,aH8 hh]
   rw[e];exact(gS (cm:=c) h (Ej (Ej rfl)) (fun w1 X' hS hb hX hX2=>(sO hS (m:=d.length) rfl E (by simpa using hh)).mono (fun e w' hq=>⟨hq.1,⟨c,Nat.le_refl _,hS.below hq.2⟩,Chg.of_below hq.2⟩))).mono (fun e w' hq=>hq.up (Nat.le_add_right _ _))
 by_cases k4:k=4
 ·subst k4;exact(aa5 h).mono (fun e w' hq=>hq.up (aA4 _ _))
 by_cases k5:k=5
 ·subst k5;by_cases hh:cN t at_ n=true
  ·have e:aK most t 5 at_ n d=⟨t,0,0,(t.drop at_.toNat).take n.toNat,[]⟩:=by unfold aK;rw[aH8 Ed,aH8 Ed,aH8 Ed,aH8 Ed,aH9 rfl,aH9 hh]
   rw[e];obtain⟨x,y,rfl,rfl,h3⟩:=eH hh;rw[ao2,ao2];exact(Tz h hTab htl h3).mono (fun e w' hq=>hq.up (aA4 _ _))
  ·have e:aK most t 5 at_ n d=⟨t,2,0,[],[]⟩:=by unfold aK;rw[aH8 Ed,aH8 Ed,aH8 Ed,aH8 Ed,aH9 rfl,aH8 hh]
   rw[e];exact(Gr h (by simpa using hh)).mono (fun e w' hq=>hq.up (Nat.le_add_right _ _))
 have hf:∀q,q≤t.length→(zN (strOfNums t) (strOfNums d) q=true↔jW t d q):=fun q hq=>Vq h.byte.1 hby q hq;by_cases k6:k=6
 ·subst k6;refine(Nz h hrd hnil E hby hf).mono (fun e w' hq=>?_);rw[Kf]at hq;exact hq.up (aA4 _ _)
 by_cases k7:k=7
 ·subst k7;refine(Iz h hrd hnil E hby hf).mono (fun e w' hq=>?_);rw[Kf,Ey]at hq;exact hq.up (aA4 _ _)
 have e:aK most t k at_ n d=⟨t,1,0,[],[]⟩:=by unfold aK;rw[aH8 k1,aH8 k2,aH8 k3,aH8 k4,aH8 k5,aH8 k6,aH8 k7,aH8 h8]
 rw[e];exact(aa4 h E).mono (fun e w' hq=>hq.up (aA4 _ _))
end
end
end Go.Proofs.YtchinbgemenenaaGreatDoor
