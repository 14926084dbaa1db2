/- Lemmas and contracts under the claims of this seat. No condition. -/
import Derived.BigQuiet
import Derived.Test.YtchinbgemenenaaGreatDoorZq1
import Derived.Test.YtchinbgemenenaaGreatDoorZq7
import Derived.Test.YtchinbgemenenaaGreatDoorZq8
import Derived.Test.YtchinbgemenenaaGreatDoorZq11
import Derived.Test.YtchinbgemenenaaGreatDoorZq17
namespace Go.Proofs.YtchinbgemenenaaGreatDoor
set_option linter.unusedVariables false
set_option linter.unusedSimpArgs false
set_option maxRecDepth 100000
set_option maxHeartbeats 12800000
section
open Go.RowKit
def fF(most:Int):List Int→List Stp→List Int
 | t,[]=>t
 | t,s::xs=>fF most (aS most t s.k s.p s.n s.r.l).t xs
def sE(most:Int):List Int→List Stp→List StR
 | _,[]=>[]
 | t,s::xs=>aS most t s.k s.p s.n s.r.l::sE most (aS most t s.k s.p s.n s.r.l).t xs
theorem Bz(most:Int)(s:Stp):∀(xs:List Stp) (t:List Int),fF most t (xs++[s])=(aS most (fF most t xs) s.k s.p s.n s.r.l).t
 | [],t=>rfl
 | x::xs,t=>by show fF most _ (xs++[s])=_;rw[Bz most s xs];rfl
theorem By(most:Int)(s:Stp):∀(xs:List Stp) (t:List Int),sE most t (xs++[s])=sE most t xs++[aS most (fF most t xs) s.k s.p s.n s.r.l]
 | [],t=>rfl
 | x::xs,t=>by show _::sE most _ (xs++[s])=_;rw[By most s xs];rfl
theorem Tf{most:Int}{t:List Int}{xs:List Stp}{k:Nat}{s:Stp}(h:xs[k]? =some s):fF most t (xs.take (k+1))=(aS most (fF most t (xs.take k)) s.k s.p s.n s.r.l).t:=by
 rw[az4,h];exact Bz _ _ _ _
theorem Te{most:Int}{t:List Int}{xs:List Stp}{k:Nat}{s:Stp}(h:xs[k]? =some s):sE most t (xs.take (k+1))=sE most t (xs.take k)++[aS most (fF most t (xs.take k)) s.k s.p s.n s.r.l]:=by
 rw[az4,h];exact By _ _ _ _
theorem Zk{most:Int}(xs:List Stp):∀t:List Int,(t.length:Int)≤most→((fF most t xs).length:Int)≤most:=by
 induction xs with
 | nil=>intro t h;exact h
 | cons x xs ih=>intro t h;exact ih _ (Ue _ _ _ h)
def RdS(w:World)(a:Option Addr)(xs:List Stp):Prop:=∀i,i<xs.length→∃b off,a=some ⟨b,off,none⟩∧b<w.heap.size∧∀j,j<xs.length→
  w.cell? ⟨b,off+j*4,none⟩=some (.int .i64 (xs[j]?.getD default).k)∧w.cell? ⟨b,off+j*4+1,none⟩=some (.int .i64 (xs[j]?.getD default).p)∧w.cell? ⟨b,off+j*4+2,none⟩=some (.int .i64 (xs[j]?.getD default).n)∧
  w.cell? ⟨b,off+j*4+3,none⟩=some (.slice (xs[j]?.getD default).r.a (xs[j]?.getD default).r.l.length (xs[j]?.getD default).r.cap)
theorem RdS.chg {S:Nat→Prop}{w w':World}{a:Option Addr}{xs:List Stp}(h:RdS w a xs)(hc:Chg S w w')(hn:∀ad,a=some ad→¬S ad.block):RdS w' a xs:=by
 intro i hi;obtain⟨b,off,rfl,hb,hx⟩:=h i hi;have hn:=hn _ rfl;have hs:=hc.size;refine⟨b,off,rfl,E,fun j hj=>?_⟩;obtain⟨h0,h1,h2,h3⟩:=hx j hj;exact⟨hc.cell h0 hn,hc.cell h1 hn,hc.cell h2 hn,hc.cell h3 hn⟩
structure RsR where
 o:StR
 da:Option Addr
 dc:Nat
 pa:Option Addr
 pc:Nat
def RsR.cells (r:RsR):List Value:=[.int .i64 r.o.code, .int .i64 r.o.n, .slice r.da r.o.d.length r.dc, .slice r.pa r.o.l.length r.pc]
def RsOk(w:World)(Y:Nat→Prop)(v:Value)(r:RsR):Prop:=Reads w .u8 r.da r.o.d∧Reads w .i64 r.pa r.o.l∧∀j,cP r.da j∨cP r.pa j→Y j∧j<w.heap.size∧v.ownBlock≠some j
theorem RsOk.chg {S Y Z:Nat→Prop}{w w':World}{v v':Value}{r:RsR}(h:RsOk w Y v r)(hc:Chg S w w')(hS:∀j,Y j→v.ownBlock≠some j→¬S j)(hY:∀j,Y j→Z j)(hv:∀j,j<w.heap.size→v.ownBlock≠some j→v'.ownBlock≠some j):RsOk w' Z v' r:=by
 obtain⟨h1,h2,h3⟩:=h;have hs:=hc.size;refine⟨hc.reads h1 (fun ad e=>?_),hc.reads h2 (fun ad e=>?_),fun j hj=>?_⟩
 ·obtain⟨a1,a2,a3⟩:=h3 ad.block (Ei ⟨ad,e,rfl⟩);exact hS _ a1 a3
 ·obtain⟨a1,a2,a3⟩:=h3 ad.block (Ej ⟨ad,e,rfl⟩);exact hS _ a1 a3
 ·obtain⟨a1,a2,a3⟩:=h3 j hj;exact⟨hY j a1,E,hv j a2 a3⟩
theorem Tryz.infoRes:(Tryz.prog.info? 38).map (fun i=>(i.zero,i.size,i.bytes))=some (some (.agg #[.int .i64 0, .int .i64 0, .slice none 0 0, .slice none 0 0]),4,64):=Ek
structure TdJ (B:Nat) (X:Nat→Prop) (w:World) (q ra:Nat) (most:Int) (t:List Int) (C:Nat) (xs:List Stp) (k:Nat) (v:Value) (wr:World) (rs:List RsR) (Y:Nat→Prop) (c:Nat):Prop where
 len:rs.length=k
 told:rs.map RsR.o=sE most t (xs.take k)
 own:wr.ownsRow w.heap.size 38 4 v k (rs.flatMap RsR.cells)
 xy:∀j,X j→Y j
 vy:∀j,v.ownBlock=some j→Y j
 ok:∀r∈rs,RsOk wr Y v r
 cb:c≤C+k*900
 st:StT B Y wr q ra most (fF most t (xs.take k)) c
 chg:Chg (exT B X) w wr
def TdI(B:Nat)(X:Nat→Prop)(w:World)(q ra:Nat)(most:Int)(t:List Int)(C:Nat)(xs:List Stp)(k:Nat)(v:Value)(wr:World):Prop:=∃rs Y c,TdJ B X w q ra most t C xs k v wr rs Y c
structure TdS (B:Nat) (X:Nat→Prop) (w:World) (most:Int) (t:List Int) (C:Nat) (xs:List Stp):Prop where
 ok:∀s∈xs,Reads w .u8 s.r.a s.r.l∧(s.r.a=none→s.r.l.length=0∧s.r.cap=0)∧(∀ad,s.r.a=some ad→¬exT B X ad.block)∧bA s.r.l∧s.r.l.length≤20∧s.k≠8
 tab:BitTab w
 tl:0<B
 le:B≤w.heap.size
 m0:0≤most
 m9:most≤20
 t:(t.length:Int)≤most
 len:xs.length≤100
 c:C≤100000
section
variable {B:Nat}{X:Nat→Prop}{w w':World}{q ra:Nat}{most:Int}{t:List Int}{c:Nat}
theorem StT.xlt (h:StT B X w q ra most t c){j:Nat}(hj:X j):j<w.heap.size:=by
 obtain⟨p,B',pk,pp,mv,R,M,h⟩:=h;by_cases hB:B'≤j
 ·exact h.lv.lv.e.xlt ⟨hB,Ei hj⟩
 ·have :=h.lv.le;omega
theorem aa6{t:List Int}{k n:Int}{d:List Int}(ht:t.length≤20)(hd:d.length≤20):eD t k n d≤900:=by
 unfold eD;split
 ·have :=aC0 (show min n.toNat t.length≤20 by omega) (show t.length+5≤25 by omega);omega
 ·have :=aC0 hd (show t.length+d.length+5≤45 by omega);omega
section
variable {C k:Nat}{xs:List Stp}{v:Value}{wr wa:World}{rs:List RsR}{Y:Nat→Prop}{s:Stp}
theorem TdJ.call (h:TdJ B X w q ra most t C xs k v wr rs Y c)(hS:TdS B X w most t C xs)(hs:xs[k]? =some s)(hk:k<xs.length)(hb:Below wr.heap.size wr wa):
  Calls Tryz.prog 11 #[.pointer (some ⟨q,0,none⟩),bZ s.k s.p s.n s.r.a s.r.l.length s.r.cap] wa
   (DoR B (fun j=>Y j∨(wr.heap.size≤j∧j<wa.heap.size)) wa q ra most (fF most t (xs.take (k+1))) (C+(k+1)*900) (aS most (fF most t (xs.take k)) s.k s.p s.n s.r.l).code (aS most (fF most t (xs.take k)) s.k s.p s.n s.r.l).n
    (aS most (fF most t (xs.take k)) s.k s.p s.n s.r.l).d (aS most (fF most t (xs.take k)) s.k s.p s.n s.r.l).l):=by
 obtain⟨o1,o2,o3,o4,o5,o6⟩:=hS.ok s (ax6 hs);have hl:=Zk (most:=most) (xs.take k) t hS.t;have h9:=hS.m9;have hlen:=hS.len;have hcc:=hS.c;have h1:=h.cb;have h2:=aa6 (t:=fF most t (xs.take k)) (k:=s.k) (n:=s.n) (d:=s.r.l) E o5;have hle:=h.st.le;have hB0:Below B w wr:=h.chg.below (fun j e=>e.1) hS.le;have hT:=(hS.tab.below hB0 hS.tl).below' hb;rw[Tf hs];refine(Gs (h.st.less hb (fun j e=>e)) hT hS.tl ((h.chg.reads o1 o3).below hb) o2 (fun _ ad e hx=>o3 ad e (bM (fun j hj=>Ei (h.xy j hj)) hx)) o4 hS.m0 E hl E E o6).mono ?_;intro e w' hq;exact hq.up E
theorem TdJ.push {w1 w2 w4:World}(h:TdJ B X w q ra most t C xs k v wr rs Y c)(hs:xs[k]? =some s)(hb:Below wr.heap.size wr wa){da pa:Option Addr}{dc pc gg cp:Nat}{o:StR}(ho:o=aS most (fF most t (xs.take k)) s.k s.p s.n s.r.l)
  (h1:Reads w1 .u8 da o.d) (h2:Reads w1 .i64 pa o.l) (h3:∃c,c≤C+(k+1)*900∧StT B (fun j=>(Y j∨(wr.heap.size≤j∧j<wa.heap.size))∨cP da j∨cP pa j) w1 q ra most (fF most t (xs.take (k+1))) c)
  (h4:Chg (exT B (fun j=>Y j∨(wr.heap.size≤j∧j<wa.heap.size))) wa w1) (h5:∀j,cP da j∨cP pa j→wa.heap.size≤j) (h6:Below w1.heap.size w1 w2)
  (h7:w4.ownsRow w.heap.size 38 4 (.slice (some ⟨gg,0,none⟩) (k+1) cp) (k+1) (rs.flatMap RsR.cells++RsR.cells ⟨o,da,dc,pa,pc⟩)) (h8:w2.grownBy w4 v.ownBlock) (h9:v.ownBlock=some gg∨w2.heap.size≤gg) (h10:gg<w4.heap.size):
  TdI B X w q ra most t C xs (k+1) (.slice (some ⟨gg,0,none⟩) (k+1) cp) w4:=by
 obtain⟨c',hc',hst⟩:=h3;have hB:=h.st.le;have s1:=hb.size;have s2:=h4.size;have s3:=h6.size;have s4:=h8.size;have hvl:∀j,v.ownBlock=some j→j<wr.heap.size:=fun j hj=>(h.own.lt j hj).2;have hcv:Chg (fun j=>v.ownBlock=some j) w2 w4:=Chg.refl.grown h8 (fun j e=>Ei e);have hst2:=hst.below h6;have hst4:=hst2.aside hcv (fun j e1 _ e2=>e1.2 (Ei (Ei (h.vy j e2))));have hnew:∀j,Value.ownBlock (.slice (some ⟨gg,0,none⟩) (k+1) cp)=some j→gg=j:=fun j e=>by
  have e:some gg=some j:=e;injection e
 refine⟨rs++[⟨o,da,dc,pa,pc⟩],_,c',⟨by rw[at1,h.len];rfl,by rw[av0,h.told,Te hs,ho];rfl,by rw[ar0];simpa using h7,fun j hj=>Ei (Ei (Ei (h.xy j hj))),fun j hj=>?_,fun r hr=>?_,hc',hst4,?_⟩⟩
 ·obtain rfl:=hnew j hj;exact h9.elim (fun e=>Ei (Ei (Ei (h.vy _ e)))) (fun e=>Ej ⟨e,h10⟩)
 ·rcases ax2.1 hr with hr | hr
  ·have k1:=(h.ok r hr).chg (v':=v) (Z:=Y) (Chg.of_below (S:=fun _=>False) hb) (fun _ _ _ e=>e) (fun _ e=>e) (fun _ _ e=>e);have k2:=k1.chg (v':=v) (Z:=Y) h4 (fun j e1 _ e2=>e2.2 (Ei e1)) (fun _ e=>e) (fun _ _ e=>e);have k3:=k2.chg (v':=v) (Z:=Y) (Chg.of_below (S:=fun _=>False) h6) (fun _ _ _ e=>e) (fun _ e=>e) (fun _ _ e=>e);exact k3.chg hcv (fun j _ e2 e3=>e2 e3) (fun j e=>Ei (Ei (Ei e))) (fun j e1 e2 e3=>by
    have e4:=hnew j e3
    subst e4
    exact h9.elim e2 (fun e=>E))
  ·obtain rfl:r=⟨o,da,dc,pa,pc⟩:=by simpa using hr
   have hx:∀j,cP da j∨cP pa j→j<w1.heap.size∧v.ownBlock≠some j:=fun j hj=>⟨hst.xlt (Ej hj),fun e=>by have :=hvl j e;have :=h5 j hj;omega⟩;have k1:RsOk w1 (fun j=>cP da j∨cP pa j) v ⟨o,da,dc,pa,pc⟩:=⟨h1,h2,fun j hj=>⟨hj,(hx j hj).1,(hx j hj).2⟩⟩;have k3:=k1.chg (v':=v) (Z:=fun j=>cP da j∨cP pa j) (Chg.of_below (S:=fun _=>False) h6) (fun _ _ _ e=>e) (fun _ e=>e) (fun _ _ e=>e);exact k3.chg hcv (fun j _ e2 e3=>e2 e3) (fun j e=>Ei (Ej e)) (fun j e1 e2 e3=>by
    have e4:=hnew j e3
    subst e4
    exact h9.elim e2 (fun e=>E))
 ·have c1:Chg (exT B X) wr wa:=Chg.of_below hb;have c2:Chg (exT B X) wa w1:=h4.mono (fun j e=>bM (fun j hj=>Ei (h.xy j hj)) e);have c3:Chg (exT B X) w1 w2:=Chg.of_below h6;have c4:=((h.chg.trans c1 (fun _ e=>Ei e)).trans c2 (fun _ e=>Ei e)).trans c3 (fun _ e=>Ei e);exact c4.grown h8 (fun j e=>Ej (h.own.lt j e).1)
end
theorem Nr(h:StT B X w q ra most t c){a:Option Addr}{cap:Nat}{xs:List Stp}(hS:RdS w a xs)(hsa:∀ad,a=some ad→¬exT B X ad.block)(hok:TdS B X w most t c xs):
  Calls Tryz.prog 51 #[.func (.func 11) #[.pointer (some ⟨q,0,none⟩)] #[], .slice a xs.length cap] w fun e w'=>∃v,e= .returned v∧TdI B X w q ra most t c xs xs.length v w':=by
 have H:=θ h;have HS:=θ hS;have HSA:=θ hsa;have hxl:=hok.len;have HOK:=θ hok;have eg:∀args w,(callFunc 11 args).run Tryz.prog w= .ok (.enter 11 args) w:=enters_of aE2 Ek rfl;clear h hS hsa hok;go_enter Tryz.func51,Tryz.ntmps51;go_wp2_with fail;go_loopw [5,10] (fun v i wr=>∃k:Nat,k≤xs.length∧i= .int .i64 k∧TdI B X w q ra most t c xs k v wr) (fun _ i _=>xs.length-(intOf i).toNat);case atStart=>exact⟨0,aD3 _,rfl,[],X,c,⟨rfl,rfl,aG7 _ _ _ _,fun j e=>e,fun j e=>by simp[Value.ownBlock]at e,fun r hr=>by simp at hr,E,H.o,Chg.refl⟩⟩
 case round=>as_aux_lemma=>
  obtain⟨k,hk,rfl,rs,Y,c1,hJ⟩:=hrel;by_cases hlt:k<xs.length
  ·obtain⟨s,hs⟩:∃s,xs[k]? =some s:=⟨_,ar7 hlt⟩;obtain⟨b,off,rfl,hbl,hcells⟩:=(HS.o.chg hJ.chg HSA.o) k hlt;obtain⟨s0,s1,s2,s3⟩:=hcells k hlt;rw[hs]at s0 s1 s2 s3;simp only[aD5]at s0 s1 s2 s3;have k0:(0:Int)≤(k:Int):=E;have k1:(k:Int)<(xs.length:Int):=E;have HJ:=θ hJ;have hba:=aC wr (.cells #[.int .i64 s.k, .int .i64 s.p, .int .i64 s.n, .slice s.r.a s.r.l.length s.r.cap] 34);have HD:=θ (hJ.call HOK.o hs hlt hba);have HBA:=θ hba;have HSS:=θ hs;clear hJ hcells hba hs;go_wp2_with fail;clear s0 s1 s2 s3;generalize wr.alloc (.cells #[.int .i64 s.k, .int .i64 s.p, .int .i64 s.n, .slice s.r.a s.r.l.length s.r.cap] 34)=wa at *;refine HD.o.mono ?_;rintro e w1 ⟨da,dc,pa,pc,rfl,h1,h2,h3,h4,h5⟩;obtain⟨o,ho⟩:∃o,o=aS most (fF most t (xs.take k)) s.k s.p s.n s.r.l:=⟨_,rfl⟩;rw[←ho]at h1 h2⊢;have HF:=θ (And.intro ho (And.intro h1 (And.intro h2 (And.intro h3 (And.intro h4 h5)))));have hown1:w1.ownsRow w.heap.size 38 4 u5 k (rs.flatMap RsR.cells):=h4.own (yM HJ.o.own HBA.o) (fun j e1 e2=>e2.2 (Ei (HJ.o.vy j e1)));have hsz:w.heap.size≤w1.heap.size:=by have :=h4.size;have :=HBA.o.size;have :=HJ.o.chg.size;omega
   clear HD ho h1 h2 h3 h4 h5;obtain⟨d,hd⟩:∃d,o.d.length=d:=⟨_,rfl⟩;obtain⟨l,hl⟩:∃l,o.l.length=l:=⟨_,rfl⟩;obtain⟨oc,hoc⟩:∃oc,o.code=oc:=⟨_,rfl⟩;obtain⟨n,hon⟩:∃n,o.n=n:=⟨_,rfl⟩;have HRC:Hid (RsR.cells ⟨o,da,dc,pa,pc⟩=[.int .i64 oc, .int .i64 n, .slice da d dc, .slice pa l pc]):=θ (by unfold RsR.cells;rw[hd,hl,hoc,hon]);rw[hd,hl,hoc,hon];clear hd hl hoc hon;obtain⟨ys,hys⟩:∃ys,rs.flatMap RsR.cells=ys:=⟨_,rfl⟩;rw[hys]at hown1;have HYS:=θ hys;clear hys;go_wp2_with (at_builtin;refine sS rfl _ _ 59 rfl w.heap.size 38 Tryz.infoRes Tryz.underlying59 rfl Ed _ _ _ rfl (aG6 hown1 _) w1.heap.size 1 [.int .i64 oc, .int .i64 n, .slice da d dc, .slice pa l pc] rfl rfl ?hus ?h1 ?c1 ?c2 ?c3 ?_);case hus=>
    intro j u hj;rw[aH2 _ w1.heap.size j _ _ _ (aI0 w1 _)];simpa using hj
   case h1=>intro u hu;simp at hu;rcases hu with rfl | rfl | rfl | rfl<;>rfl
   case c1=>unfold maxLen;omega
   case c2=>omega
   case c3=>simp;omega
   intro gg cp w4 hown hgrow hor hlt4;have HN:Hid (TdI B X w q ra most t c xs (k+1) (.slice (some ⟨gg,0,none⟩) (k+1) cp) w4):=θ (by
    obtain⟨ho,h1,h2,h3,h4,h5⟩:=HF.o
    exact HJ.o.push HSS.o HBA.o ho h1 h2 h3 h4 h5 (aC w1 _) (by rw[HYS.o,HRC.o];exact hown) hgrow (hor.imp id (fun e=>by simpa using e)) hlt4)
   clear hown hgrow hor hlt4 hown1 HF HJ HYS HRC;go_wp2_with fail;go_roundw;case rel=>exact⟨k+1,E,by go_num,HN.o⟩
   case measure=>simp[intOf];omega
  ·obtain rfl:k=xs.length:=E;obtain⟨va,vc,rfl,_,_⟩:=aK hJ.own;have HH:Hid (TdI B X w q ra most t c xs xs.length (.slice va xs.length vc) wr):=θ ⟨rs,Y,c1,hJ⟩;clear hJ;go_wp2_with fail;go_ret;exact⟨_,rfl,HH.o⟩
theorem Tj(h:StT B X w q ra most t c){a:Option Addr}{cap:Nat}{xs:List Stp}(hS:RdS w a xs)(hsa:∀ad,a=some ad→¬exT B X ad.block)(hok:TdS B X w most t c xs):
  Calls Tryz.prog 22 #[.pointer (some ⟨q,0,none⟩), .slice a xs.length cap] w fun e w'=>∃v,e= .returned v∧TdI B X w q ra most t c xs xs.length v w':=by
 have HT:=θ (Nr h hS hsa hok (cap:=cap));clear h hS hsa hok;go_enter Tryz.func22,Tryz.ntmps22;go_wp2_with fail;refine HT.o.mono ?_;rintro e w' ⟨v,rfl,hF⟩;have HF:=θ hF;obtain⟨rs,Y,c1,hJ⟩:=hF;obtain⟨va,vc,rfl,_,_⟩:=aK hJ.own;clear hJ HT;go_wp2_with fail;go_ret;exact⟨_,rfl,HF.o⟩
end
def MdT(w:World)(b:Nat)(most:Int)(t:List Int):Prop:=w.heap[b]? =some (.cells #[.string (strOfNums t), .int .i64 most] 31 (0,0))
def MoR(w:World)(b:Nat)(most:Int)(t:List Int)(code n:Int)(d l:List Int)(e:Ending)(w':World):Prop:=
 ∃da dc pa pc,e= .returned (.agg #[.int .i64 code, .int .i64 n, .slice da d.length dc, .slice pa l.length pc])∧Reads w' .u8 da d∧Reads w' .i64 pa l∧MdT w' b most t∧Chg (fun j=>j=b) w w'
section
variable {w w':World}{b:Nat}{most:Int}{t:List Int}
theorem MdT.lt (h:MdT w b most t):b<w.heap.size:=(am4.1 h).1
theorem MdT.chg {S:Nat→Prop}(h:MdT w b most t)(hc:Chg S w w')(hn:¬S b):MdT w' b most t:=hc.heap h hn
theorem MdT.below (h:MdT w b most t)(hb:Below w.heap.size w w'):MdT w' b most t:=h.chg (S:=fun _=>False) (Chg.of_below hb) (fun e=>e)
theorem MdT.cells (h:MdT w b most t):w.cell? ⟨b,0,none⟩=some (.string (strOfNums t))∧w.cell? ⟨b,1,none⟩=some (.int .i64 most):=⟨aH2 w b 0 _ _ _ h,aH2 w b 1 _ _ _ h⟩
theorem oI(w:World)(k at_ n:Int)(da:Option Addr)(dn dc:Nat):(doW w k at_ n da dn dc).heap[w.heap.size]? =some (.cells #[.int .i64 k, .int .i64 at_, .int .i64 n, .slice da dn dc] 34 (0,0))∧
  (doW w k at_ n da dn dc).heap[w.heap.size+1]? =some (.cells #[.int .i64 0, .int .i64 0, .slice none 0 0, .slice none 0 0] 38 (0,0))∧Below w.heap.size w (doW w k at_ n da dn dc)∧(doW w k at_ n da dn dc).heap.size=w.heap.size+2:=by
 refine⟨?_,?_,((Below.refl _ _).alloc (Nat.le_refl _) _).alloc Es _,by unfold doW;simp⟩
 ·unfold doW;rw[heap_alloc_old _ _ Es];exact aI0 w _
 ·have :=aI0 (w.alloc (.cells #[.int .i64 k, .int .i64 at_, .int .i64 n, .slice da dn dc] 34)) (.cells #[.int .i64 0, .int .i64 0, .slice none 0 0, .slice none 0 0] 38);rw[aG8]at this;exact this
theorem moFin{b4:Nat}{v0 v1 v2 v3:Value}{a:Act}{Rp:Ending→World→Prop}(h4:a.tmps[4]?.getD undef= .pointer (some ⟨b4,0,none⟩))(hd:a.defers=[])(hb:w.heap[b4]? =some (.cells #[v0,v1,v2,v3] 38 (0,0)))(hR:Rp (.returned (.agg #[v0,v1,v2,v3])) w):bodyPost Tryz.prog Tryz.f12 Rp .ret a w:=by
 have e0:=aH2 w b4 0 _ _ _ hb;have e1:=aH2 w b4 1 _ _ _ hb;have e2:=aH2 w b4 2 _ _ _ hb;have e3:=aH2 w b4 3 _ _ _ hb;show a.defers=[]∧∃v,(results Tryz.f12 a.tmps).run Tryz.prog w= .ok v w∧Rp (.returned v) w;refine⟨hd,_,?_,hR⟩;simp[results,Tryz.f12,go_sem,h4,e0,e1,e2,e3]
theorem moEnd{w1 w2:World}(hb:Below w.heap.size w w1)(hs1:w1.heap.size=w.heap.size+2){da pa:Option Addr}(hM:MdT w2 b most t)(hbl:b<w.heap.size)(hch:Chg (fun j=>j=b) w1 w2)
  (hr:w1.heap[w.heap.size+1]? =some (.cells #[.int .i64 0, .int .i64 0, .slice none 0 0, .slice none 0 0] 38 (0,0))) {d l:List Int} (hd:Reads w2 .u8 da d) (hl:Reads w2 .i64 pa l) (hv:∀j,cP da j∨cP pa j→w1.heap.size≤j) (code n:Int) (dc pc:Nat) {m1 m2:Nat} (hm1:d.length=m1) (hm2:l.length=m2)
  {a:Act} (h4:a.tmps[4]?.getD undef= .pointer (some ⟨w.heap.size+1,0,none⟩)) (hdf:a.defers=[]):
  bodyPost Tryz.prog Tryz.f12 (MoR w b most t code n d l) .ret a ((((w2.setCell ⟨w.heap.size+1,0,none⟩ (.int .i64 code)).setCell ⟨w.heap.size+1,1,none⟩ (.int .i64 n)).setCell ⟨w.heap.size+1,2,none⟩ (.slice da m1 dc)).setCell ⟨w.heap.size+1,3,none⟩ (.slice pa m2 pc)):=by
 subst hm1 hm2;obtain⟨hb3,hc3⟩:=sF (hch.heap hr (fun e=>by have e:w.heap.size+1=b:=e;omega)) (.int .i64 code) (.int .i64 n) (.slice da d.length dc) (.slice pa l.length pc);refine moFin h4 hdf hb3 ⟨da,dc,pa,pc,rfl,hc3.reads hd (fun ad e e2=>?_),hc3.reads hl (fun ad e e2=>?_),hM.chg hc3 (fun e=>E),((Chg.of_below hb).trans hch (fun b e=>Ei e)).trans hc3 (fun b e=>Ej E)⟩
 ·have :=hv ad.block (Ei ⟨ad,e,rfl⟩);omega
 ·have :=hv ad.block (Ej ⟨ad,e,rfl⟩);omega
end
theorem Py{a b:ByteArray}(h:a.data.toList=b.data.toList):a=b:=by
 cases a;cases b;simp only at h;rw[Array.toList_inj]at h;rw[h]
theorem Lo(t:List Int)(k m:Nat):(strOfNums t).extract k m=strOfNums ((t.drop k).take (m-k)):=by
 apply Py;rw[rP,aJ2,aJ2,ax0,av7]
theorem str_to(t:List Int)(k:Nat):(strOfNums t).extract 0 k=strOfNums (t.take k):=by
 rw[Lo,List.drop_zero,Nat.sub_zero]
theorem aa8(t:List Int)(k:Nat):(strOfNums t).extract k (strOfNums t).size=strOfNums (t.drop k):=by
 rw[Lo,aJ3,az8 (by rw[at3];omega)]
theorem slTo{t:List Int}{k:Nat}(hk:k≤t.length)(w:World):(Instr.slice 9 (.string (strOfNums t)) none (some (.int .i64 (k:Int))) none).run Tryz.prog w= .ok (.string (strOfNums (t.take k))) w:=by
 have h:=run_slice_string_to_if (P:=Tryz.prog) w 9 (strOfNums t) .i64 (k:Int) aF8;rw[aI4 (by rw[aJ3];omega),ao6,str_to]at h;exact h
theorem Tx{t:List Int}{k:Nat}(hk:k≤t.length)(w:World):(Instr.slice 9 (.string (strOfNums t)) (some (.int .i64 (k:Int))) none none).run Tryz.prog w= .ok (.string (strOfNums (t.drop k))) w:=by
 have h:=run_slice_string_from_if (P:=Tryz.prog) w 9 (strOfNums t) .i64 (k:Int) aF8;rw[aI4 (by rw[aJ3];omega),ao6,aa8]at h;exact h
theorem addS{x y:List Int}(h:x.length+y.length≤10000000)(w:World):(Op.stringOp .add (strOfNums x) (strOfNums y)).run Tryz.prog w= .ok (.string (strOfNums (x++y))) w:=by
 rw[run_string_add_sum w _ _ (by rw[aJ3,aJ3];omega),xD]
section
variable {w w':World}{b:Nat}{most:Int}{t:List Int}
structure MoW (w w1:World) (b:Nat) (most:Int) (t:List Int) (k at_ n:Int) (da:Option Addr) (dn dc:Nat):Prop where
 md:MdT w1 b most t
 bl:b<w.heap.size
 be:Below w.heap.size w w1
 sz:w1.heap.size=w.heap.size+2
 bx:w1.heap[w.heap.size]? =some (.cells #[.int .i64 k, .int .i64 at_, .int .i64 n, .slice da dn dc] 34 (0,0))
 rx:w1.heap[w.heap.size+1]? =some (.cells #[.int .i64 0, .int .i64 0, .slice none 0 0, .slice none 0 0] 38 (0,0))
theorem moW(h:MdT w b most t)(k at_ n:Int)(da:Option Addr)(dn dc:Nat)(m:Nat):MoW w ((doW w k at_ n da dn dc).drewN m) b most t k at_ n da dn dc:=by
 obtain⟨hbx,hrx,hb1,hs1⟩:=oI w k at_ n da dn dc;exact⟨h.below (aG9 hb1 m),h.lt,aG9 hb1 m,hs1,hbx,hrx⟩
theorem MoW.box {w1:World}{k at_ n:Int}{da:Option Addr}{dn dc:Nat}(h:MoW w w1 b most t k at_ n da dn dc):w1.cell? ⟨w.heap.size,0,none⟩=some (.int .i64 k)∧w1.cell? ⟨w.heap.size,1,none⟩=some (.int .i64 at_)∧w1.cell? ⟨w.heap.size,2,none⟩=some (.int .i64 n)∧w1.cell? ⟨w.heap.size,3,none⟩=some (.slice da dn dc):=
 ⟨aH2 w1 _ 0 _ _ _ h.bx,aH2 w1 _ 1 _ _ _ h.bx,aH2 w1 _ 2 _ _ _ h.bx,aH2 w1 _ 3 _ _ _ h.bx⟩
theorem MoW.store {w1:World}{k at_ n:Int}{da:Option Addr}{dn dc:Nat}(h:MoW w w1 b most t k at_ n da dn dc)(t':List Int):MdT (w1.setCell ⟨b,0,none⟩ (.string (strOfNums t'))) b most t'∧Chg (fun j=>j=b) w1 (w1.setCell ⟨b,0,none⟩ (.string (strOfNums t'))):=
 ⟨bG h.md 0 _,(Chg.refl (S:=fun j=>j=b) (w:=w1)).setCell ⟨b,0,none⟩ (Ei rfl) _⟩
theorem Sy{w2:World}{x:Nat}(h:w2.heap[x]? =some (.cells #[.int .i64 0, .int .i64 0, .slice none 0 0, .slice none 0 0] 38 (0,0))):
  (w2.cell? ⟨x,0,none⟩=some (.int .i64 0)∧w2.cell? ⟨x,1,none⟩=some (.int .i64 0)∧w2.cell? ⟨x,2,none⟩=some (.slice none 0 0)∧w2.cell? ⟨x,3,none⟩=some (.slice none 0 0))∧
  (w2.frozen? ⟨x,0,none⟩=false∧w2.frozen? ⟨x,1,none⟩=false∧w2.frozen? ⟨x,2,none⟩=false∧w2.frozen? ⟨x,3,none⟩=false):=
 ⟨⟨aH2 w2 _ 0 _ _ _ h,aH2 w2 _ 1 _ _ _ h,aH2 w2 _ 2 _ _ _ h,aH2 w2 _ 3 _ _ _ h⟩,aH8 w2 _ 0 _ _ h,aH8 w2 _ 1 _ _ h,aH8 w2 _ 2 _ _ h,aH8 w2 _ 3 _ _ h⟩
theorem MoW.drewN {w1:World}{k at_ n:Int}{da:Option Addr}{dn dc:Nat}(h:MoW w w1 b most t k at_ n da dn dc)(m:Nat):MoW w (w1.drewN m) b most t k at_ n da dn dc:=⟨h.md,h.bl,aG9 h.be m,h.sz,h.bx,h.rx⟩
theorem MoW.kept {w1:World}{k at_ n:Int}{da:Option Addr}{dn dc:Nat}(h:MoW w w1 b most t k at_ n da dn dc)(t':List Int):
  ((w1.setCell ⟨b,0,none⟩ (.string (strOfNums t'))).cell? ⟨w.heap.size,1,none⟩=some (.int .i64 at_)∧(w1.setCell ⟨b,0,none⟩ (.string (strOfNums t'))).cell? ⟨w.heap.size,2,none⟩=some (.int .i64 n)∧(w1.setCell ⟨b,0,none⟩ (.string (strOfNums t'))).cell? ⟨w.heap.size,3,none⟩=some (.slice da dn dc))∧
  (w1.setCell ⟨b,0,none⟩ (.string (strOfNums t'))).heap[w.heap.size+1]? =some (.cells #[.int .i64 0, .int .i64 0, .slice none 0 0, .slice none 0 0] 38 (0,0)):=by
 obtain⟨h1,h2⟩:=h.store t';have hl:=h.bl;exact⟨⟨h2.cell h.box.2.1 (fun e=>by have e:w.heap.size=b:=e;omega),h2.cell h.box.2.2.1 (fun e=>by have e:w.heap.size=b:=e;omega),h2.cell h.box.2.2.2 (fun e=>by have e:w.heap.size=b:=e;omega)⟩,h2.heap h.rx (fun e=>by have e:w.heap.size+1=b:=e;omega)⟩
theorem MoW.fin {w1:World}{k at_ n:Int}{da:Option Addr}{dn dc:Nat}(h:MoW w w1 b most t k at_ n da dn dc)(t':List Int):∃W,W=w1.setCell ⟨b,0,none⟩ (.string (strOfNums t'))∧
  (W.cell? ⟨w.heap.size+1,0,none⟩=some (.int .i64 0)∧W.cell? ⟨w.heap.size+1,1,none⟩=some (.int .i64 0)∧W.cell? ⟨w.heap.size+1,2,none⟩=some (.slice none 0 0)∧W.cell? ⟨w.heap.size+1,3,none⟩=some (.slice none 0 0))∧
  (W.frozen? ⟨w.heap.size+1,0,none⟩=false∧W.frozen? ⟨w.heap.size+1,1,none⟩=false∧W.frozen? ⟨w.heap.size+1,2,none⟩=false∧W.frozen? ⟨w.heap.size+1,3,none⟩=false)∧
  Hid (∀a:Act,a.tmps[4]?.getD undef= .pointer (some ⟨w.heap.size+1,0,none⟩)→a.defers=[]→bodyPost Tryz.prog Tryz.f12 (MoR w b most t' 0 0 [] []) .ret a ((((W.setCell ⟨w.heap.size+1,0,none⟩ (.int .i64 0)).setCell ⟨w.heap.size+1,1,none⟩ (.int .i64 0)).setCell ⟨w.heap.size+1,2,none⟩ (.slice none 0 0)).setCell ⟨w.heap.size+1,3,none⟩ (.slice none 0 0))):=by
 obtain⟨h1,h2⟩:=h.store t';obtain⟨g,f⟩:=Sy (h.kept t').2;exact⟨_,rfl,g,f,θ (fun a h4 hdf=>moEnd (d:=[]) (l:=[]) h.be h.sz h1 h.bl h2 h.rx Reads.nil Reads.nil (fun j e=>(e.elim aY aY).elim) 0 0 0 0 rfl rfl h4 hdf)⟩
theorem Am{S:Nat→Prop}{w w':World}{k:IntKind}{a:Option Addr}{xs:List Int}(h:Chg S w w')(hr:Reads w k a xs)(hn:0<xs.length→∀ad,a=some ad→¬S ad.block):Reads w' k a xs:=fun i hi=>h.reads hr (hn E) i hi
theorem ad7{w:World}{a:Option Addr}{c:Nat}{xs:List Int}(h:Reads w .u8 a xs):(convert 32 9 (.slice a xs.length c)).run Tryz.prog w= .ok (.string (strOfNums xs)) w:=Ea (P:=Tryz.prog) aF4 aF7 aF8 h
theorem Im(h:MdT w b most t)(hl:t.length≤1000000){k:Nat}{n:Int}{da:Option Addr}{dc:Nat}{d:List Int}(hrd:Reads w .u8 da d)(hdb:0<d.length→∀ad,da=some ad→ad.block≠b)(hkn:k≤t.length)(h0:0≤most)(h9:most≤2147483648)(hroom:(d.length:Int)≤most-t.length)(hdl:d.length≤1000000):
  Calls Tryz.prog 12 #[.pointer (some ⟨b,0,none⟩),bZ 1 k n da d.length dc] w (MoR w b most (fT t k d) 0 0 [] []):=by
 have HA:=θ (fun m=>moW h 1 k n da d.length dc m);have hq:=(h.below (oI w 1 k n da d.length dc).2.2.1).cells.1;have hq1:=(h.below (oI w 1 k n da d.length dc).2.2.1).cells.2;have HRD:=θ hrd;have HDB:=θ hdb;have hs:=aJ3 t;have l1:=fun w=>slTo hkn w;have l2:=fun w=>Tx hkn w;have l3:=fun w=>addS (x:=t.take k) (y:=d) (by rw[at9];omega) w;have l4:=fun w=>addS (x:=t.take k++d) (y:=t.drop k) (by rw[at1,at9,at3];omega) w;have hw:IntKind.i64.wrap (most-(t.length:Int))=most-(t.length:Int):=ao8 _ E;have d1:decide (most-(t.length:Int)<(d.length:Int))=false:=aH4 E;have d2:¬((k:Int)<0):=E;have d3:¬((t.length:Int)<(k:Int)):=E;have d4:decide (t.length<k)=false:=aH4 E;clear h hrd hdb hkn h0 h9 hroom;unfold doW at hq hq1;unfold bZ;have HCV:Hid (∀w1:World,Reads w1 .u8 da d→(convert 32 9 (.slice da d.length dc)).run Tryz.prog w1= .ok (.string (strOfNums d)) w1):=θ (fun w1 h=>ad7 h);have HSI:Hid (strOfNums (t.take k++d++t.drop k)=strOfNums (fT t k d)):=rfl;generalize hst:strOfNums t=st at *;generalize strOfNums (t.take k)=s1 at *;generalize strOfNums (t.drop k)=s2 at *;generalize strOfNums (t.take k++d)=s3 at *;generalize strOfNums (t.take k++d++t.drop k)=s4 at *;generalize hsd:strOfNums d=sd at *;go_enter Tryz.func12,Tryz.ntmps12;go_wp2_with fail;go_quiet (fail);obtain⟨n1,rfl⟩:∃n1,n1=nq:=⟨_,rfl⟩;go_wp2_with fail;change Code.wp _ _ _ _ ((doW w 1 k n da d.length dc).drewN n1);have HW:=θ (HA.o n1);generalize (doW w 1 k n da d.length dc).drewN n1=w1 at *;have HW2:Hid (MoW w w1.drew b most t 1 k n da d.length dc):=θ (HW.o.drewN 1);have hcb:=HW2.o.md.cells.1;rw[hst]at hcb;have HSR:Hid (w1.drew.cell? ⟨w.heap.size,1,none⟩=some (.int .i64 k)∧w1.drew.cell? ⟨w.heap.size,3,none⟩=some (.slice da d.length dc)∧(convert 32 9 (.slice da d.length dc)).run Tryz.prog w1.drew= .ok (.string sd) w1.drew):=θ ⟨HW2.o.box.2.1,HW2.o.box.2.2.2,HCV.o _ (HRD.o.below HW2.o.be)⟩;have hfz:=aH8 w1.drew b 0 _ _ HW2.o.md;refine vY (fun w'=>w'.cell? ⟨w.heap.size,1,none⟩=some (.int .i64 k)∧w'.cell? ⟨w.heap.size,3,none⟩=some (.slice da d.length dc)∧(convert 32 9 (.slice da d.length dc)).run Tryz.prog w'= .ok (.string sd) w'∧w'.cell? ⟨b,0,none⟩=some (.string st)) 22 Ek (⟨HSR.o.1,HSR.o.2.1,HSR.o.2.2,hcb⟩) (fun hh=>?_);refine rl 0 hh ?_;refine rl 1 hh ?_;refine rl 2 hh ?_;refine rl 3 hh ?_;refine rl 4 hh ?_;refine rl 5 hh ?_;refine rl 6 hh ?_;refine rl 7 hh ?_;refine rl 8 hh ?_;refine rl 9 hh ?_;refine rl 10 hh ?_;refine rl 11 hh ?_;refine rl 12 hh ?_;refine rl 13 hh ?_;refine rl 14 hh ?_;refine rl 15 hh ?_;refine rl 16 hh ?_;refine rl 17 hh ?_;refine rl 18 hh ?_;refine rl 19 hh ?_;refine rl 20 hh ?_;refine rl 21 hh ?_;refine Ab rfl Ek Ek rfl ?_;clear hh;go_simp;obtain⟨w9,hw9,⟨g0,g1,g2,g3⟩,⟨f0,f1,f2,f3⟩,HFIN⟩:=HW2.o.fin (fT t k d);have e9:(w1.setCell ⟨b,0,none⟩ (.string (strOfNums (fT t k d)))).drew=w9:=hw9.symm;rw[HSI.o,e9];clear hw9 e9;go_wp2_with fail;exact HFIN.o _ rfl rfl
theorem Il(h:MdT w b most t)(hl:t.length≤1000000){k n:Nat}{da:Option Addr}{dn dc:Nat}(hkn:k+n≤t.length):
  Calls Tryz.prog 12 #[.pointer (some ⟨b,0,none⟩),bZ 2 k n da dn dc] w (MoR w b most (dC t k n) 0 0 [] []):=by
 have HA:=θ (fun m=>moW h 2 k n da dn dc m);obtain⟨m,hm⟩:∃m,k+n=m:=⟨_,rfl⟩;have hkm:(k:Int)+(n:Int)=(m:Int):=E;have hw3:IntKind.i64.wrap (m:Int)=(m:Int):=ao8 _ E;have hq:=(h.below (oI w 2 k n da dn dc).2.2.1).cells.1;have hs:=aJ3 t;have l1:=fun w=>slTo (k:=k) (t:=t) E w;have l2:=fun w=>Tx (k:=m) (t:=t) E w;have l3:=fun w=>addS (x:=t.take k) (y:=t.drop m) (by rw[at9,at3];omega) w;have hw:IntKind.i64.wrap ((t.length:Int)-(k:Int))=(t.length:Int)-(k:Int):=ao8 _ E;have hw2:IntKind.i64.wrap ((k:Int)+(n:Int))=(m:Int):=by rw[ao8 _ E];omega
 have d1:decide ((t.length:Int)-(k:Int)<(n:Int))=false:=aH4 E;have d5:¬((t.length:Int)-(k:Int)<(n:Int)):=E;have d6:¬((n:Int)<0):=E;have d2:¬((k:Int)<0):=E;have d3:¬((t.length:Int)<(k:Int)):=E;have d4:decide (t.length<k)=false:=aH4 E;clear h;unfold doW at hq;unfold bZ;have HSI:Hid (strOfNums (t.take k++t.drop m)=strOfNums (dC t k n)):=θ (by rw[←hm];rfl);generalize hst:strOfNums t=st at *;generalize strOfNums (t.take k)=s1 at *;generalize strOfNums (t.drop m)=s2 at *;generalize strOfNums (t.take k++t.drop m)=s4 at *;go_enter Tryz.func12,Tryz.ntmps12;go_wp2_with fail;change Code.wp _ _ _ _ ((doW w 2 k n da dn dc).drewN 0);have HW:=θ (HA.o 0);generalize (doW w 2 k n da dn dc).drewN 0=w1 at *;have HW2:Hid (MoW w w1.drew b most t 2 k n da dn dc):=θ (HW.o.drewN 1);have hcb:=HW2.o.md.cells.1;rw[hst]at hcb;have HSR:Hid (w1.drew.cell? ⟨w.heap.size,1,none⟩=some (.int .i64 k)∧w1.drew.cell? ⟨w.heap.size,2,none⟩=some (.int .i64 n)):=θ ⟨HW2.o.box.2.1,HW2.o.box.2.2.1⟩;have hfz:=aH8 w1.drew b 0 _ _ HW2.o.md;refine vY (fun w'=>w'.cell? ⟨w.heap.size,1,none⟩=some (.int .i64 k)∧w'.cell? ⟨w.heap.size,2,none⟩=some (.int .i64 n)∧w'.cell? ⟨b,0,none⟩=some (.string st)) 21 Ek (⟨HSR.o.1,HSR.o.2,hcb⟩) (fun hh=>?_);refine rl 0 hh ?_;refine rl 1 hh ?_;refine rl 2 hh ?_;refine rl 3 hh ?_;refine rl 4 hh ?_;refine rl 5 hh ?_;refine rl 6 hh ?_;refine rl 7 hh ?_;refine rl 8 hh ?_;refine rl 9 hh ?_;refine rl 10 hh ?_;refine rl 11 hh ?_;refine rl 12 hh ?_;refine rl 13 hh ?_;refine rl 14 hh ?_;refine rl 15 hh ?_;refine rl 16 hh ?_;refine rl 17 hh ?_;refine rl 18 hh ?_;refine rl 19 hh ?_;refine rl 20 hh ?_;refine Ab rfl Ek Ek rfl ?_;clear hh;go_simp;obtain⟨w9,hw9,⟨g0,g1,g2,g3⟩,⟨f0,f1,f2,f3⟩,HFIN⟩:=HW2.o.fin (dC t k n);have e9:(w1.setCell ⟨b,0,none⟩ (.string (strOfNums (dC t k n)))).drew=w9:=hw9.symm;rw[HSI.o,e9];clear hw9 e9;go_wp2_with fail;exact HFIN.o _ rfl rfl
end
structure TpS (B:Nat) (w0 w:World) (q b ra:Nat) (most:Int) (ts t:List Int) (C:Nat) (Z:Nat→Prop):Prop where
 st:∃(X:Nat→Prop) (c:Nat),c≤C∧StT B X w q ra most ts c∧X b∧∀j,Z j→X j
 md:MdT w b most t
 le:B≤b
 bl:Below B w0 w
def zB(Z:Nat→Prop)(b:Nat)(j:Nat):Prop:=Z j∨j=b
theorem aa7{most:Int}{t d:List Int}{k:Nat}{n:Int}(hk:k≤t.length)(h:(d.length:Int)≤most-t.length):aS most t 1 k n d=⟨fT t k d,0,0,[],[]⟩:=by
 have e:dZ t k 0=true:=aH6 ⟨E,E,E,E⟩;unfold aS;rw[aI4 rfl,aI4 e,aI4 h,ao6]
theorem Uf{most:Int}{t d:List Int}{k n:Nat}(h:k+n≤t.length):aS most t 2 k n d=⟨dC t k n,0,0,[],[]⟩:=by
 have e:dZ t k n=true:=aH6 ⟨E,E,E,E⟩;unfold aS;rw[aI3 Ed,aI4 rfl,aI4 e,ao6,ao6]
theorem Nm{w:World}{k:IntKind}{a:Option Addr}{xs:List Int}(h:Reads w k a xs)(n:Nat):Reads w k a (xs.take n):=fun i hi=>by
 rw[at9]at hi;obtain⟨b,off,e,hb,hc⟩:=h i E;refine⟨b,off,e,hb,fun j hj=>?_⟩;rw[at9]at hj;rw[hc j E,as3,aI4 E]
theorem Pk{w:World}{k:IntKind}{a:Option Addr}{c:Nat}{d:List Int}(h:ArgI k w a c d)(h0:0<d.length):∀ad,a=some ad→ad.block<w.heap.size:=fun ad e=>by
 obtain⟨b,off,rfl,hb,_⟩:=h.reads 0 h0;injection e with e
 subst e;exact hb
section
variable {B:Nat}{Z Z':Nat→Prop}{w0 w w':World}{q b ra:Nat}{most:Int}{ts t:List Int}{C C':Nat}
theorem TpS.size (h:TpS B w0 w q b ra most ts t C Z):B≤w.heap.size:=by obtain⟨X,c,_,h1,_⟩:=h.st;exact h1.le
theorem TpS.mono (h:TpS B w0 w q b ra most ts t C Z)(hz:∀j,Z' j→Z j)(hC:C≤C'):TpS B w0 w q b ra most ts t C' Z':=by
 obtain⟨⟨X,c,h1,h2,h3,h4⟩,h5,h6,h7⟩:=h;exact⟨⟨X,c,E,h2,h3,fun j hj=>h4 j (hz j hj)⟩,h5,h6,h7⟩
theorem TpS.add (h:TpS B w0 w q b ra most ts t C Z)(hb:Below w.heap.size w w')(hz:∀j,Z' j→Z j∨(w.heap.size≤j∧j<w'.heap.size)):TpS B w0 w' q b ra most ts t C Z':=by
 have hs:=h.size;obtain⟨⟨X,c,h1,h2,h3,h4⟩,h5,h6,h7⟩:=h;exact⟨⟨_,c,h1,h2.less hb (fun j e=>e),Ei h3,fun j hj=>(hz j hj).imp (h4 j) id⟩,h5.below hb,h6,h7.trans (hb.mono hs)⟩
theorem TpS.below (h:TpS B w0 w q b ra most ts t C Z)(hb:Below w.heap.size w w'):TpS B w0 w' q b ra most ts t C Z:=h.add hb (fun j e=>Ei e)
theorem TpS.drewN (h:TpS B w0 w q b ra most ts t C Z)(n:Nat):TpS B w0 (w.drewN n) q b ra most ts t C Z:=h.below ⟨rfl,rfl,rfl,aB0 _,fun _ _=>rfl⟩
theorem TpS.set (h:TpS B w0 w q b ra most ts t C Z)(hc:Chg (fun j=>Z j∧B≤j∧j≠b) w w'):TpS B w0 w' q b ra most ts t C Z:=by
 have hs:=h.size;obtain⟨⟨X,c,h1,h2,h3,h4⟩,h5,h6,h7⟩:=h;exact⟨⟨_,c,h1,h2.aside hc (fun j e1 _ e2=>e1.2 (h4 j e2.1)),Ei h3,fun j hj=>Ei (h4 j hj)⟩,h5.chg hc (fun e=>e.2.2 rfl),h6,h7.trans (hc.below (fun j e=>e.2.1) hs)⟩
theorem TpS.fine (h:TpS B w0 w q b ra most ts t C Z)(s:ByteArray)(hs:bQ s=ts):
  Calls Tryz.prog 16 #[.pointer (some ⟨q,0,none⟩), .string s] w fun e w'=>e= .returned (.bool true)∧TpS B w0 w' q b ra most ts t C Z∧Chg (exT B (zB Z b)) w w':=by
 have hsz:=h.size;obtain⟨⟨X,c,h1,h2,h3,h4⟩,h5,h6,h7⟩:=h;refine(Ec h2 s hs h2.byte.2).mono ?_;rintro e w' ⟨rfl,h8,h9⟩;have h10:Chg (exT B (zB Z b)) w w':=h9.mono (fun j e=>bM (fun k hk=>hk.elim (h4 k) (fun e=>e▸h3)) e);exact⟨rfl,⟨⟨X,c,h1,h8,h3,h4⟩,h5.chg h9 (fun e=>e.2 h3),h6,h7.trans (dP h10 hsz)⟩,h10⟩
theorem TpS.sdo (h:TpS B w0 w q b ra most ts t C Z)(hTab:BitTab w)(htl:0<B){k at_ n:Int}{da:Option Addr}{dc:Nat}{d:List Int}(hrd:Reads w .u8 da d)(hnil:da=none→d.length=0∧dc=0)(hda:0<d.length→∀ad,da=some ad→ad.block<B∨Z ad.block)(hby:bA d)
  (h0:0≤most) (h9:most≤10000) (ht:(ts.length:Int)≤most) (hd9:d.length≤10000) (hc:C+eD ts k n d+ts.length+d.length+10≤1000000) (h8:k≠8):
  Calls Tryz.prog 11 #[.pointer (some ⟨q,0,none⟩),bZ k at_ n da d.length dc] w fun e w'=>∃ea ec pa pc,e= .returned (.agg #[.int .i64 (aS most ts k at_ n d).code, .int .i64 (aS most ts k at_ n d).n, .slice ea (aS most ts k at_ n d).d.length ec, .slice pa (aS most ts k at_ n d).l.length pc])∧
   Reads w' .u8 ea (aS most ts k at_ n d).d∧Reads w' .i64 pa (aS most ts k at_ n d).l∧TpS B w0 w' q b ra most (aS most ts k at_ n d).t t (C+eD ts k n d) (fun j=>Z j∨cP ea j∨cP pa j)∧Chg (exT B (zB Z b)) w w'∧∀j,cP ea j∨cP pa j→w.heap.size≤j:=by
 have hsz:=h.size;obtain⟨⟨X,c,h1,h2,h3,h4⟩,h5,h6,h7⟩:=h;refine(Gs h2 hTab htl hrd hnil (fun h0 ad e hx=>(hda h0 ad e).elim (fun hl=>by have :=hx.1;omega) (fun hz=>hx.2 (h4 _ hz))) hby h0 h9 ht hd9 E h8).mono ?_;rintro e w' ⟨ea,ec,pa,pc,rfl,hr1,hr2,⟨c',hc',hst⟩,hch,hv⟩;have h10:Chg (exT B (zB Z b)) w w':=hch.mono (fun j e=>bM (fun k hk=>hk.elim (h4 k) (fun e=>e▸h3)) e);exact⟨ea,ec,pa,pc,rfl,hr1,hr2,⟨⟨_,c',E,hst,Ei h3,fun j hj=>hj.elim (fun e=>Ei (h4 j e)) Ej⟩,h5.chg hch (fun e=>e.2 h3),h6,h7.trans (dP h10 hsz)⟩,h10,hv⟩
theorem TpS.mdo (h:TpS B w0 w q b ra most ts t C Z){t':List Int}{code n:Int}{d l:List Int}{e:Ending}(hm:MoR w b most t' code n d l e w'):
  ∃da dc pa pc,e= .returned (.agg #[.int .i64 code, .int .i64 n, .slice da d.length dc, .slice pa l.length pc])∧Reads w' .u8 da d∧Reads w' .i64 pa l∧TpS B w0 w' q b ra most ts t' C Z∧Chg (fun j=>j=b) w w':=by
 have hsz:=h.size;obtain⟨⟨X,c,h1,h2,h3,h4⟩,h5,h6,h7⟩:=h;obtain⟨da,dc,pa,pc,rfl,hr1,hr2,hmd,hch⟩:=hm;exact⟨da,dc,pa,pc,rfl,hr1,hr2,⟨⟨_,c,h1,h2.aside hch (fun j e1 _ e2=>e1.2 (e2▸h3)),Ei h3,fun j hj=>Ei (h4 j hj)⟩,hmd,h6,h7.trans (hch.below (fun j e=>by subst e;exact h6) hsz)⟩,hch⟩
end
def zP(xs:List Stp)(m:Int):Bool:=xs.all (fun s=>decide (s.r.l.length≤60))&&decide ((xs.length:Int)≤m)
theorem ad9{w:World}{a:Option Addr}{cap:Nat}{xs:List Stp}(h:RdS w a xs)(hmx:xs.length≤maxLen)(m:Int):
  Calls Tryz.prog 8 #[.slice a xs.length cap, .int .i64 m] w fun e w'=>e= .returned (.bool (zP xs m))∧w=w':=by
 have HR:=θ h;unfold maxLen at hmx;clear h;go_enter Tryz.func8,Tryz.ntmps8;go_wp2_with fail;go_loopw [5] (fun v wr=>∃k:Nat,k≤xs.length∧v= .int .i64 k∧(xs.take k).all (fun s=>decide (s.r.l.length≤60))=true∧wr=w) (fun v _=>xs.length-(intOf v).toNat);case atStart=>exact⟨0,aD3 _,rfl,rfl,rfl⟩
 case round=>as_aux_lemma=>
  obtain⟨k,hk,rfl,hall,rfl⟩:=hrel;have HAL:=θ hall;clear hall;by_cases hlt:k<xs.length
  ·obtain⟨s,hs⟩:∃s,xs[k]? =some s:=⟨_,ar7 hlt⟩;obtain⟨b,off,rfl,hbl,hcells⟩:=HR.o k hlt;obtain⟨_,_,_,s3⟩:=hcells k hlt;rw[hs]at s3;simp only[aD5]at s3;have k0:(0:Int)≤(k:Int):=E;have k1:(k:Int)<(xs.length:Int):=E;clear hcells;by_cases h60:s.r.l.length≤60
   ·have HNX:Hid ((xs.take (k+1)).all (fun s=>decide (s.r.l.length≤60))=true):=θ (by
     rw[az4,hs,List.all_append,HAL.o];simpa using h60)
    have d1:decide (60<(s.r.l.length:Int))=false:=aH4 E;have d2:decide (60<s.r.l.length)=false:=aH4 E;clear hs;go_wp2_with fail;go_roundw;case rel=>exact⟨k+1,E,by go_num,HNX.o,trivial⟩
    case measure=>simp[intOf];omega
   ·have HNX:Hid (zP xs m=false):=θ (by
     unfold zP
     have :xs.all (fun s=>decide (s.r.l.length≤60))=false:=by
      rw[List.all_eq_false]
      exact⟨s,List.mem_of_getElem? hs,by simpa using h60⟩
     rw[this];rfl)
    have d1:decide (60<(s.r.l.length:Int))=true:=aH6 E;have d2:decide (60<s.r.l.length)=true:=aH6 E;clear hs;go_wp2_with fail;go_ret;rw[HNX.o];exact⟨rfl,rfl⟩
  ·obtain rfl:k=xs.length:=E;have HNX:Hid (zP xs m=decide ((xs.length:Int)≤m)):=θ (by
    unfold zP
    have :=HAL.o
    rw[az7]at this
    rw[this];rfl)
   go_wp2_with fail;go_ret;rw[HNX.o];exact⟨rfl,rfl⟩
theorem Qj{α:Type}(f:α→List Value)(hf:∀x,(f x).length=4):∀(ys:List α) (i:Nat) (o:α) (j:Nat),ys[i]? =some o→j<4→(ys.flatMap f)[i*4+j]? =(f o)[j]?
 | [],i,o,j,h,_=>by simp at h
 | y::ys,0,o,j,h,hj=>by
  simp only[List.getElem?_cons_zero,aD9]at h;subst h;rw[ar1,ar3 (by rw[hf];omega),aD4,aD2]
 | y::ys,i+1,o,j,h,hj=>by
  rw[ar5]at h;rw[ar1,ar4 (by rw[hf];omega),hf,show (i+1)*4+j-4=i*4+j by omega];exact Qj f hf ys i o j h hj
theorem Aa{w:World}{base n c:Nat}{a:Option Addr}{rs:List RsR}(h:w.ownsRow base 38 4 (.slice a n c) n (rs.flatMap RsR.cells)){i:Nat}{r:RsR}(hi:rs[i]? =some r):
  ∃g:Nat,a=some ⟨g,0,none⟩∧g<w.heap.size∧w.cell? ⟨g,i*4,none⟩=some (.int .i64 r.o.code)∧w.cell? ⟨g,i*4+1,none⟩=some (.int .i64 r.o.n)∧
   w.cell? ⟨g,i*4+2,none⟩=some (.slice r.da r.o.d.length r.dc)∧w.cell? ⟨g,i*4+3,none⟩=some (.slice r.pa r.o.l.length r.pc):=by
 have hlt:=(ar9.1 hi).1;obtain⟨hl,hh⟩:=h;have hfl:(rs.flatMap RsR.cells).length=rs.length*4:=by
  clear hi hl hh hlt;induction rs with
  | nil=>rfl
  | cons x rs ih=>rw[ar1,at1,ih,show x.cells.length=4 from rfl,at2];omega
 rcases hh with ⟨_,h0⟩ | ⟨g,cap,cur,hv,hb,hg,hcc,hm,hs,ht⟩
 ·omega
 ·injection hv with h1 h2 h3
  have key:∀j u,j<4→r.cells[j]? =some u→w.cell? ⟨g,i*4+j,none⟩=some u:=by
   intro j u hj hu;have h4:=Qj RsR.cells (fun _=>rfl) rs i r j hi hj;rw[hu,←ht,as3,aI4 E]at h4;rw[aH2 w g (i*4+j) cur _ (0,0) hg];simpa using h4
  exact⟨g,h1,(am4.1 hg).1,key 0 _ E rfl,key 1 _ E rfl,key 2 _ E rfl,key 3 _ E rfl⟩
theorem Ly(w:World)(C:Array Value)(n c g:Nat)(hg:g=w.heap.size):(convert 32 32 (.slice (some ⟨g,0,none⟩) n c)).run Tryz.prog (w.alloc (.cells C 5))= .ok (.slice (some ⟨g,0,none⟩) n c) (w.alloc (.cells C 5 (C.size,C.size+1))):=by
 subst hg;exact Lib.run_convert_bytes_const (P:=Tryz.prog) w 32 5 C n c aF4 aF7
def zD(a0 a1 a2:Option Addr):List Stp:=[⟨1,0,0,⟨a0,6,[98,97,110,97,110,97]⟩⟩,⟨6,0,0,⟨a1,3,[97,110,97]⟩⟩,⟨7,0,0,⟨a2,3,[97,110,97]⟩⟩,⟨5,1,3,⟨none,0,[]⟩⟩]
theorem al3(a0 a1 a2:Option Addr):fF 20 [] (zD a0 a1 a2)=[98,97,110,97,110,97]:=Ek
theorem al2(a0 a1 a2:Option Addr):sE 20 [] (zD a0 a1 a2)=[⟨[98,97,110,97,110,97],0,0,[],[]⟩,⟨[98,97,110,97,110,97],0,2,[],[]⟩,⟨[98,97,110,97,110,97],0,2,[],[1,3]⟩,⟨[98,97,110,97,110,97],0,0,[97,110,97],[]⟩]:=Ek
theorem jT{w:World}{b:Nat}{C:Array Value}{e:TypeId}{fz:Nat×Nat}{k:IntKind}{xs:List Int}(h:w.heap[b]? =some (.cells C e fz))(hx:C=(xs.map (Value.int k)).toArray):Reads w k (some ⟨b,0,none⟩) xs:=fun i hi=>
 ⟨b,0,rfl,(am4.1 h).1,fun j hj=>by
  rw[aD2,aH2 w b j _ _ _ h,hx]
  simp[hj]⟩
def fI:Obj:= .cells #[.int .u8 98, .int .u8 97, .int .u8 110, .int .u8 97, .int .u8 110, .int .u8 97] 5 (6,7)
def dQ:Obj:= .cells #[.int .u8 97, .int .u8 110, .int .u8 97] 5 (3,4)
def zC(s:Nat):Obj:= .cells #[.int .i64 1, .int .i64 0, .int .i64 0, .slice (some ⟨s,0,none⟩) 6 6, .int .i64 6, .int .i64 0, .int .i64 0, .slice (some ⟨s+1,0,none⟩) 3 3, .int .i64 7, .int .i64 0, .int .i64 0, .slice (some ⟨s+1+1,0,none⟩) 3 3, .int .i64 5, .int .i64 1, .int .i64 3, .slice none 0 0] 34
def dE(w:World):World:=(((w.alloc fI).alloc dQ).alloc dQ).alloc (zC w.heap.size)
def gB(s:Nat):List Stp:=zD (some ⟨s,0,none⟩) (some ⟨s+1,0,none⟩) (some ⟨s+1+1,0,none⟩)
theorem Jt(w:World):Below w.heap.size w (dE w)∧(dE w).heap.size=w.heap.size+4∧(dE w).heap[w.heap.size]? =some fI∧(dE w).heap[w.heap.size+1]? =some dQ∧(dE w).heap[w.heap.size+1+1]? =some dQ∧(dE w).heap[w.heap.size+1+1+1]? =some (zC w.heap.size):=by
 have b1:=aC w fI;have b2:=aC (w.alloc fI) dQ;have b3:=aC ((w.alloc fI).alloc dQ) dQ;have b4:=aC (((w.alloc fI).alloc dQ).alloc dQ) (zC w.heap.size);have s1:(w.alloc fI).heap.size=w.heap.size+1:=aG8 _ _;have s2:((w.alloc fI).alloc dQ).heap.size=w.heap.size+1+1:=by rw[aG8,s1]
 have s3:(((w.alloc fI).alloc dQ).alloc dQ).heap.size=w.heap.size+1+1+1:=by rw[aG8,s2]
 have k:∀{W W':World} {b:Nat} {o:Obj},W.heap[b]? =some o→Below W.heap.size W W'→W'.heap[b]? =some o:=fun h hb=>(Chg.of_below (S:=fun _=>False) hb).heap h (fun e=>e);have n1:=aI0 w fI;have n2:=aI0 (w.alloc fI) dQ;have n3:=aI0 ((w.alloc fI).alloc dQ) dQ;have n4:=aI0 (((w.alloc fI).alloc dQ).alloc dQ) (zC w.heap.size);rw[s1]at n2;rw[s2]at n3;rw[s3]at n4;refine⟨b1.trans ((b2.mono E).trans ((b3.mono E).trans (b4.mono E))),?_,k (k (k n1 b2) b3) b4,k (k n2 b3) b4,k n3 b4,n4⟩;unfold dE;rw[aG8,s3]
theorem Jv(w:World)(hT:BitTab w):Calls Tryz.prog 9 #[] w fun e w'=>e= .returned (.bool true)∧Below w.heap.size w w':=by
 have HN:=θ (Cd (most:=20) (ra:=4) E E E E w);have HT:=θ hT;clear hT;have kc:=fun(w:World) (C:Array Value) (n c g:Nat) (hg:g=w.heap.size)=>Ly w C n c g hg;go_enter Tryz.func9,Tryz.ntmps9;go_wp2_with fail;refine HN.o.mono ?_;rintro e w1 ⟨q,rfl,hst,hb1⟩;have HST:=θ hst;have HB1:=θ hb1;clear hst hb1 HN;go_wp2_with fail;change Calls _ _ #[_, .slice _ (gB w1.heap.size).length 4] (dE w1) _;obtain⟨hbW,hsW,h0,h1,h2,h3⟩:=Jt w1;have hr0:Reads (dE w1) .u8 (some ⟨w1.heap.size,0,none⟩) [98,97,110,97,110,97]:=jT h0 rfl;have hr1:Reads (dE w1) .u8 (some ⟨w1.heap.size+1,0,none⟩) [97,110,97]:=jT h1 rfl;have hr2:Reads (dE w1) .u8 (some ⟨w1.heap.size+1+1,0,none⟩) [97,110,97]:=jT h2 rfl;have hlt3:=(am4.1 h3).1;have hrs:RdS (dE w1) (some ⟨w1.heap.size+1+1+1,0,none⟩) (gB w1.heap.size):=fun i hi=>⟨_,0,rfl,hlt3,fun j hj=>by
  rw[aD2]
  have c:=fun n=>aH2 (dE w1) (w1.heap.size+1+1+1) n _ _ _ h3
  rw[c,c,c,c]
  match j,hj with
  | 0,_=>exact⟨rfl,rfl,rfl,rfl⟩
  | 1,_=>exact⟨rfl,rfl,rfl,rfl⟩
  | 2,_=>exact⟨rfl,rfl,rfl,rfl⟩
  | 3,_=>exact⟨rfl,rfl,rfl,rfl⟩⟩
 have hX:∀b n:Nat,b=w1.heap.size+n→n<4→∀B,¬exT B (fun j=>w1.heap.size≤j∧j<(dE w1).heap.size) b:=fun b n e hn B hx=>hx.2 ⟨E,E⟩;have hst:=HST.o.less hbW (X':=fun j=>w1.heap.size≤j∧j<(dE w1).heap.size) (fun j e=>Ej e);have hmk:∀(k p n:Int) (b m cap:Nat) (l:List Int),Reads (dE w1) .u8 (some ⟨b,0,none⟩) l→b=w1.heap.size+m→m<4→bA l→l.length≤20→k≠8→∀s:Stp,s=⟨k,p,n,⟨some ⟨b,0,none⟩,cap,l⟩⟩→
   Reads (dE w1) .u8 s.r.a s.r.l∧(s.r.a=none→s.r.l.length=0∧s.r.cap=0)∧(∀ad,s.r.a=some ad→¬exT w.heap.size (fun j=>w1.heap.size≤j∧j<(dE w1).heap.size) ad.block)∧bA s.r.l∧s.r.l.length≤20∧s.k≠8:=by
  intro k p n b m cap l h1 h2 h3 h4 h5 h6 s e;subst e;exact⟨h1,(fun e=>nomatch e),(fun ad e=>by cases e;exact hX _ m h2 h3 _),h4,h5,h6⟩
 have htd:TdS w.heap.size (fun j=>w1.heap.size≤j∧j<(dE w1).heap.size) (dE w1) 20 [] 1 (gB w1.heap.size):=by
  refine⟨fun s hs=>?_,(HT.o.below' HB1.o).below' hbW,HT.o.lt,by have :=HB1.o.size;have :=hbW.size;omega,E,E,Es,by simp[gB,zD],E⟩;simp only[gB,zD,ax3,ay4,aI9]at hs;rcases hs with e | e | e | e
  ·exact hmk 1 0 0 _ 0 6 _ hr0 rfl E (by intro x hx;simp at hx;omega) Ed Ed s e
  ·exact hmk 6 0 0 _ 1 3 _ hr1 rfl E (by intro x hx;simp at hx;omega) Ed Ed s e
  ·exact hmk 7 0 0 _ 2 3 _ hr2 rfl E (by intro x hx;simp at hx;omega) Ed Ed s e
  ·subst e;exact⟨Reads.nil,(fun _=>⟨rfl,rfl⟩),(fun ad e=>nomatch e),(fun x hx=>nomatch hx),Ed,Ed⟩
 have HRUN:=θ (Tj hst hrs (cap:=4) (fun ad e=>by cases e;exact hX _ 3 rfl E _) htd);have HB2:Hid (Below w.heap.size w (dE w1)):=θ (HB1.o.trans (hbW.mono HB1.o.size));have HLE:Hid (w.heap.size≤(dE w1).heap.size):=θ HB2.o.size;clear hbW hsW h0 h1 h2 h3 hr0 hr1 hr2 hlt3 hrs hX hst htd kc HT HST HB1;generalize dE w1=w2 at *;generalize (fun j=>w1.heap.size≤j∧j<w2.heap.size)=X at *;refine HRUN.o.mono ?_;rintro e w3 ⟨v,rfl,rs,Y,c,hJ⟩;obtain⟨a,cp,rfl,_,_⟩:=aK hJ.own;have htold:=hJ.told;rw[show (gB w1.heap.size).take (gB w1.heap.size).length=gB w1.heap.size from az7]at htold;unfold gB at htold;rw[al2]at htold;obtain⟨r0,r1,r2,r3,rfl,e0,e1,e2,e3⟩:∃r0 r1 r2 r3:RsR,rs=[r0,r1,r2,r3]∧r0.o=⟨[98,97,110,97,110,97],0,0,[],[]⟩∧r1.o=⟨[98,97,110,97,110,97],0,2,[],[]⟩∧r2.o=⟨[98,97,110,97,110,97],0,2,[],[1,3]⟩∧r3.o=⟨[98,97,110,97,110,97],0,0,[97,110,97],[]⟩:=by
  match rs,htold with
  | [r0,r1,r2,r3],h=>simp only[av6,av9,List.cons.injEq,and_true]at h;exact⟨r0,r1,r2,r3,rfl,h⟩
 obtain⟨g,rfl,hg,_,c1,_,_⟩:=Aa hJ.own (i:=1) (r:=r1) rfl;obtain⟨_,hg2,_,_,_,_,c2⟩:=Aa hJ.own (i:=2) (r:=r2) rfl;injection hg2 with hg2
 injection hg2 with hg2 _ _
 subst hg2;obtain⟨_,hg3,_,_,_,c3,_⟩:=Aa hJ.own (i:=3) (r:=r3) rfl;injection hg3 with hg3
 injection hg3 with hg3 _ _
 subst hg3;have k2:=(hJ.ok r2 Es).2.1;have k3:=(hJ.ok r3 Es).1;rw[e1]at c1;rw[e2]at c2 k2;rw[e3]at c3 k3;obtain⟨b2,off2,hpa,hb2,hcs⟩:=k2.some Ed;have p0:=hcs 0 Ed;have p1:=hcs 1 Ed;rw[hpa]at c2;have kv:=Ea (P:=Tryz.prog) (src:=32) (dst:=9) (c:=r3.dc) aF4 aF7 aF8 k3;rw[show strOfNums [97,110,97]={data:=#[97,110,97]} by decide]at kv;have hst3:=hJ.st;rw[show (gB w1.heap.size).take (gB w1.heap.size).length=gB w1.heap.size from az7]at hst3;unfold gB at hst3;rw[al3]at hst3;have HFN:=θ (Ec hst3 {data:=#[98,97,110,97,110,97]} Ed Ed);have HB3:Hid (Below w.heap.size w w3):=θ (HB2.o.trans (hJ.chg.below (fun j e=>e.1) HLE.o));have HB3s:=θ hst3.le;have d1:w3.cell? ⟨g,5,none⟩=some (.int .i64 2):=c1;have d2:w3.cell? ⟨g,11,none⟩=some (.slice (some ⟨b2,off2,none⟩) 2 r2.pc):=c2;have d3:w3.cell? ⟨g,14,none⟩=some (.slice r3.da 3 r3.dc):=c3;have d4:w3.cell? ⟨b2,off2,none⟩=some (.int .i64 1):=p0;have d5:w3.cell? ⟨b2,off2+1,none⟩=some (.int .i64 3):=p1;have kv':(convert 32 9 (.slice r3.da 3 r3.dc)).run Tryz.prog w3= .ok (.string {data:=#[97,110,97]}) w3:=kv;rw[show (gB w1.heap.size).length=4 from rfl];clear htold hJ c1 c2 c3 p0 p1 hcs kv hst3 e0 e1 e2 e3 k2 k3 hpa hg hb2 HRUN HLE HB2;go_wp2_with fail;refine HFN.o.mono ?_;rintro e w4 ⟨rfl,_,hc⟩;have HB4:Hid (Below w.heap.size w w4):=θ (HB3.o.trans (dP hc HB3s.o));clear hc HFN d1 d2 d3 d4 d5 kv';go_wp2_with fail;go_ret;exact⟨rfl,HB4.o⟩
theorem TpS.start {w w1:World}{q ra:Nat}{most:Int}{c:Nat}(h:StT w.heap.size (fun _=>False) w1 q ra most [] c)(hb:Below w.heap.size w w1):
  TpS w.heap.size w (w1.alloc (.cells #[.string (strOfNums []), .int .i64 most] 31)) q w1.heap.size ra most [] [] c (fun _=>False):=by
 have hb2:=aC w1 (.cells #[.string (strOfNums []), .int .i64 most] 31);exact⟨⟨_,c,aB0 _,h.less hb2 (fun j e=>e),Ej ⟨aB0 _,Es⟩,fun j e=>e.elim⟩,aI0 w1 _,hb.size,hb.trans (hb2.mono hb.size)⟩
theorem RdS.below {w w':World}{a:Option Addr}{xs:List Stp}(h:RdS w a xs)(hb:Below w.heap.size w w'):RdS w' a xs:=h.chg (S:=fun _=>False) (Chg.of_below hb) (fun _ _ e=>e)
theorem Vp{w:World}{a:Option Addr}{c:Nat}{d:List Int}(h:ArgI .u8 w a c d):bA d:=fun x hx=>by
 obtain⟨i,hi⟩:=as1 hx;have h1:=h.wf i (ar9.1 hi).1;rw[hi]at h1;simp[Lit.wf,IntKind.min,IntKind.max,IntKind.signed,IntKind.bits]at h1;omega
def StepAt(w:World)(x:Nat)(k at_ n:Int)(da:Option Addr)(dn dc:Nat):Prop:=w.heap[x]? =some (.cells #[.int .i64 k, .int .i64 at_, .int .i64 n, .slice da dn dc] 34 (0,0))
theorem StepAt.cells {w:World}{x:Nat}{k at_ n:Int}{da:Option Addr}{dn dc:Nat}(h:StepAt w x k at_ n da dn dc):w.cell? ⟨x,0,none⟩=some (.int .i64 k)∧w.cell? ⟨x,1,none⟩=some (.int .i64 at_)∧w.cell? ⟨x,2,none⟩=some (.int .i64 n)∧w.cell? ⟨x,3,none⟩=some (.slice da dn dc):=
 ⟨aH2 w _ 0 _ _ _ h,aH2 w _ 1 _ _ _ h,aH2 w _ 2 _ _ _ h,aH2 w _ 3 _ _ _ h⟩
section
variable {B:Nat}{Z:Nat→Prop}{w0 w w':World}{q b ra:Nat}{most:Int}{ts t:List Int}{C:Nat}
theorem TpS.last (h:TpS B w0 w q b ra most ts t C Z):Calls Tryz.prog 18 #[.pointer (some ⟨q,0,none⟩)] w fun e w'=>∃g R,e= .returned (.slice (some ⟨g,0,none⟩) (ts.length+1) (ts.length+1))∧IsRows (aA ts) R∧Reads w' .i64 (some ⟨g,0,none⟩) (bT (aA ts) R)∧TpS B w0 w' q b ra most ts t C Z∧Chg (exT B (zB Z b)) w w':=by
 have hsz:=h.size;obtain⟨⟨X,c,h1,h2,h3,h4⟩,h5,h6,h7⟩:=h;refine(Ub h2).mono ?_;rintro e w' ⟨g,R,rfl,hR,hr,h8,h9⟩;have h10:Chg (exT B (zB Z b)) w w':=h9.mono (fun j e=>bM (fun k hk=>hk.elim (h4 k) (fun e=>e▸h3)) e);exact⟨g,R,rfl,hR,hr,⟨⟨X,c,h1,h8,h3,h4⟩,h5.chg h9 (fun e=>e.2 h3),h6,h7.trans (dP h10 hsz)⟩,h10⟩
theorem TpS.shapes (h:TpS B w0 w q b ra most ts t C Z):Calls Tryz.prog 19 #[.pointer (some ⟨q,0,none⟩)] w fun e w'=>∃(L:List Nat) (a:Option Addr) (cap:Nat) (ys:List (Option ST)),L.length=ts.length+1∧Syms L∧e= .returned (.slice a ys.length cap)∧ys.map aF=cN L 9∧Below w.heap.size w w':=by
 obtain⟨⟨X,c,h1,h2,h3,h4⟩,h5,h6,h7⟩:=h;refine(Ce h2).mono ?_;rintro e w' ⟨L,a,cap,ys,hL,hs,rfl,_,hy,_,hb⟩;exact⟨L,a,cap,ys,hL,hs,rfl,hy,hb⟩
end
theorem Wr{R:List Nat}(h:IsRows (aA []) R):bT (aA []) R=[0]:=by
 have h1:IsRows (aA []) [0]:=⟨ao9 _,Es⟩;rw[kY h h1];decide
theorem Ws{l:List (List Bool)}(h:∀x∈l,x.length=1):(l.map List.length).sum=l.length:=by
 induction l with
 | nil=>rfl
 | cons x l ih=>rw[av6,az3,h x Es,ih (fun y hy=>h y (by simp[hy])),at2];omega
theorem Xt{L:List Nat}(hs:Syms L)(hL:L.length=1):(cN L 9).length=9:=by
 have h1:=Fb (L:=L) (fun s h=>by have :=hs s h;omega) (l:=9) (aB0 _);rw[hL]at h1;rw[←Ws,h1];intro x hx;unfold cN at hx;obtain⟨l,_,hx⟩:=List.mem_flatMap.1 hx;obtain⟨hx,h2⟩:=List.mem_filter.1 hx;obtain⟨p,_,rfl⟩:=ax5.1 hx;have h3:0<(lvl L l p).length:=by simpa using h2
 have h4:(lvl L l p).length≤L.length:=by unfold lvl;rw[at5];exact at4 _ _
 omega
def Ho(b:Nat)(w:World):Nat:=match w.cell? ⟨b,0,none⟩with
 | some (.string s)=>s.size
 | _=>0
theorem MdT.len {w:World}{b:Nat}{most:Int}{t:List Int}(h:MdT w b most t):Ho b w=t.length:=by
 unfold Ho;rw[h.cells.1];exact aJ3 t
theorem Po{w W:World}(h:Below w.drew.heap.size w.drew W):Below w.heap.size w W:=⟨h.os,h.tape,h.output,h.size,h.block⟩
theorem Ud{w:World}(o:Obj):Below w.heap.size w (w.drew.alloc o):=Po (aC _ _)
theorem De{w:World}(o:Obj):Below w.heap.size w (w.alloc o).drew:=aW (aC w o) 1
theorem walk_TopGrows(w:World)(hT:BitTab w)(a0:Option Addr)(c0:Nat)(z0:List Stp)(w0:ArgS w a0 c0 z0):
  Calls Tryz.prog 4 #[.slice a0 z0.length c0] w fun e w'=>e= .returned (.bool true)∧Below w.heap.size w w':=by
 have HN:=θ (Cd (most:=1000) (ra:=6) E E E E w);have HA:=θ w0;have HTL:=θ hT.lt;have hzm:=aB1 w0.le w0.max;have HT:=θ hT;have HTD:Hid (∀w1,Below w.heap.size w w1→Calls Tryz.prog 9 #[] w1 fun e w'=>e= .returned (.bool true)∧Below w1.heap.size w1 w'):=θ (fun w1 hb=>Jv w1 (hT.below' hb));clear w0 hT;go_enter Tryz.func4,Tryz.ntmps4;go_wp2_with fail;refine HN.o.mono ?_;rintro e w1 ⟨q,rfl,hst,hb1⟩;have HFW:=θ (ad9 (RdS.below HA.o.reads hb1) hzm 100 (cap:=c0));have HST:=θ hst;have HB1:=θ hb1;clear hst hb1 HN;go_wp2_with fail;refine HFW.o.mono ?_;rintro e w' ⟨rfl,rfl⟩;clear HFW;cases hfw:zP z0 100 with
 | false=>
  clear hfw;go_wp2_with fail;refine(HTD.o _ HB1.o).mono ?_;rintro e w2 ⟨rfl,hb2⟩;have HB2:=θ (HB1.o.trans (hb2.mono HB1.o.size));clear hb2;go_wp2_with fail;go_ret;exact⟨rfl,HB2.o⟩
 | true=>
  have HFW:=θ hfw;clear hfw;go_wp2_with fail;have HTP:=θ (TpS.start HST.o HB1.o);clear HST;change Code.wp _ _ _ _ (w1.alloc (.cells #[.string (strOfNums []), .int .i64 1000] 31));generalize w1.alloc (.cells #[.string (strOfNums []), .int .i64 1000] 31)=w2 at *;obtain⟨b,hb⟩:∃b,w1.heap.size=b:=⟨_,rfl⟩;rw[hb]at HTP⊢;clear hb HB1;go_loopw [6] (fun v wr=>∃(k:Nat) (t:List Int) (C:Nat),k≤z0.length∧k≤8∧v= .int .i64 k∧t.length≤40*k∧bA t∧C≤1+k*20000∧TpS w.heap.size w wr q b 6 1000 t t C (fun _=>False)) (fun v _=>8-(intOf v).toNat);case atStart=>exact⟨0,[],1,aD3 _,aD3 _,rfl,aB0 _,(fun x hx=>nomatch hx),aB0 _,HTP.o⟩
  case round=>as_aux_lemma=>
   clear HTP;obtain⟨k,t,C,hk,hk8,rfl,htl,hby,hC,hTP⟩:=hrel;have HTP:=θ hTP;clear hTP;go_upto_region 8 with fail
   go_cut [33]from 26 to 76 (fun v wx=>v= .bool (decide (k<z0.length∧k<8))∧wr=wx)
   case first=>as_aux_lemma=>
    by_cases h1:k<z0.length
    ·by_cases h2:k<8
     ·have d1:decide ((k:Int)<8)=true:=aH6 E;have d2:decide (k<8)=true:=aH6 E;have d3:decide (k<z0.length)=true:=aH6 h1;have d4:decide ((k:Int)<(z0.length:Int))=true:=aH6 E;have HV:Hid (decide (k<z0.length∧k<8)=true):=θ (aH6 ⟨h1,h2⟩);go_wp2_with fail;go_meet;case rel=>exact⟨by rw[HV.o],rfl⟩
     ·have d1:decide ((k:Int)<8)=false:=aH4 E;have d2:decide (k<8)=false:=aH4 E;have d3:decide (k<z0.length)=true:=aH6 h1;have d4:decide ((k:Int)<(z0.length:Int))=true:=aH6 E;have HV:Hid (decide (k<z0.length∧k<8)=false):=θ (aH4 (fun h=>h2 h.2));go_wp2_with fail;go_meet;case rel=>exact⟨by rw[HV.o],rfl⟩
    ·have d3:decide (k<z0.length)=false:=aH4 h1;have d4:decide ((k:Int)<(z0.length:Int))=false:=aH4 E;have HV:Hid (decide (k<z0.length∧k<8)=false):=θ (aH4 (fun h=>h1 h.1));go_wp2_with fail;go_meet;case rel=>exact⟨by rw[HV.o],rfl⟩
   case rest=>as_aux_lemma=>
   obtain⟨hv,rfl⟩:=hcut;have hTP:=HTP.o;clear HTP;by_cases hlt:k<z0.length∧k<8
   ·rw[aH6 hlt]at hv;subst hv;obtain⟨hlt,hlt8⟩:=hlt;obtain⟨s,hs⟩:∃s,z0[k]? =some s:=⟨_,ar7 hlt⟩;have hwf:=HA.o.wf k hlt;obtain⟨b0,off,rfl,hbl,hcells⟩:=HA.o.reads k hlt;obtain⟨_,s1,_,s3⟩:=hcells k hlt;rw[hs]at s1 s3 hwf;simp only[aD5]at s1 s3 hwf;have c1:=(hTP.bl.cell (p:=⟨b0,off+k*4+1,none⟩) hbl).trans s1;have c3:=(hTP.bl.cell (p:=⟨b0,off+k*4+3,none⟩) hbl).trans s3;have c0:=hTP.md.cells.1;have hszs:=aJ3 t;obtain⟨sk,sp,sn,⟨da,dcap,d⟩⟩:=s;obtain⟨_,hwp,_,hAI⟩:=hwf;simp only at c1 c3 hwp hAI;have HAI:=θ hAI;obtain⟨u,hu0,hu1,hu⟩:=u64r sp;obtain⟨x,hx,hxl⟩:∃x:Nat,u%((t.length:Int)+1)=(x:Int)∧x≤t.length:=⟨(u%((t.length:Int)+1)).toNat,by have :=Int.emod_nonneg u (show (t.length:Int)+1≠0 by omega);omega,by have :=Int.emod_lt_of_pos u (show (0:Int)<(t.length:Int)+1 by omega);omega⟩;have hw1:IntKind.i64.wrap ((t.length:Int)+1)=(t.length:Int)+1:=ao8 _ E;have hw2:IntKind.u64.wrap ((t.length:Int)+1)=(t.length:Int)+1:=by rw[ao7];omega
    have hx3:u.tmod ((t.length:Int)+1)=(x:Int):=by rw[ao5 hu0,hx]
    have hx4:IntKind.u64.wrap (x:Int)=(x:Int):=by rw[ao7];omega
    have hx5:IntKind.i64.wrap (x:Int)=(x:Int):=ao8 _ E;have hne:((t.length:Int)+1==0)=false:=by rw[aH0];omega
    have hne2:((t.length:Int)+1=0)=False:=eq_false E;have k0:(0:Int)≤(k:Int):=E;have k1:(k:Int)<(z0.length:Int):=E;have HSB:Hid (∀W,Below wr.heap.size wr W→W.cell? ⟨b0,off+k*4+1,none⟩=some (.int .i64 sp)∧W.cell? ⟨b0,off+k*4+3,none⟩=some (.slice da d.length dcap)∧W.cell? ⟨b,0,none⟩=some (.string (strOfNums t))):=θ (fun W hW=>by
     have hs:=hTP.bl.size
     exact⟨(hW.cell (p:=⟨b0,off+k*4+1,none⟩) (by show b0<_;omega)).trans c1,(hW.cell (p:=⟨b0,off+k*4+3,none⟩) (by show b0<_;omega)).trans c3,(hW.cell (p:=⟨b,0,none⟩) hTP.md.lt).trans c0⟩)
    have HTP:=θ hTP;have HBY:=θ hby;have HTL2:=θ htl;clear hTP hby hcells hAI s1 s3 hs hbl c1 c3 c0 htl hx;generalize hst:strOfNums t=st at *;go_upto_region 10 with fail
    refine aE (fun w'=>w'.cell? ⟨b0,off+k*4+1,none⟩=some (.int .i64 sp)∧w'.cell? ⟨b0,off+k*4+3,none⟩=some (.slice da d.length dcap)∧w'.cell? ⟨b,0,none⟩=some (.string st)) Ek (HSB.o _ ⟨rfl,rfl,rfl,aB0 _,fun _ _=>rfl⟩) (fun hh=>?_);refine rt 0 hh ?_;refine rt 1 hh ?_;refine rt 2 hh ?_;refine rt 3 hh ?_;refine rt 4 hh ?_;refine rt 5 hh ?_;refine rt 6 hh ?_;refine rt 7 hh ?_;refine rt 8 hh ?_;refine rt 9 hh ?_;refine rt 10 hh ?_;refine rt 11 hh ?_;refine rt 12 hh ?_;refine rt 13 hh ?_;refine rt 14 hh ?_;refine rt 15 hh ?_;refine rt 16 hh ?_;refine rt 17 hh ?_;refine rt 18 hh ?_;refine rt 19 hh ?_;refine rt 20 hh ?_;refine rg 21 fun κ hK=>?_;go_simp;refine hK.out _ _ (HSB.o _ (Ud _)) ?_;intro hh;try simp only[pt]
    refine rg 22 fun κ hK=>?_;go_simp;refine hK.out _ _ (HSB.o _ (De _)) ?_;intro hh;try simp only[pt]
    refine rz ?_;clear hh;have hW:=De (w:=wr) (.cells #[.int .i64 1, .int .i64 x, .int .i64 0, .slice da d.length dcap] 34);have hSA:StepAt (wr.alloc (.cells #[.int .i64 1, .int .i64 x, .int .i64 0, .slice da d.length dcap] 34)).drew wr.heap.size 1 x 0 da d.length dcap:=aI0 wr _;generalize (wr.alloc (.cells #[.int .i64 1, .int .i64 x, .int .i64 0, .slice da d.length dcap] 34)).drew=W at *;have HT1:Hid (TpS w.heap.size w W q b 6 1000 t t C (fun j=>j=wr.heap.size)):=θ (HTP.o.add hW (fun j e=>Ej ⟨E,by subst e;exact(am4.1 hSA).1⟩));have HR1:Hid (Reads W .u8 da d):=θ ((HAI.o.reads.below HTP.o.bl).below hW);obtain⟨xb,hxb⟩:∃xb,wr.heap.size=xb:=⟨_,rfl⟩;have HXB:Hid (w.heap.size≤xb∧xb≠b):=θ ⟨by have :=HTP.o.size;omega,by have :=HTP.o.md.lt;omega⟩;rw[hxb]at hSA HT1⊢;have HSA:=θ hSA;obtain⟨e0,e1,e2,e3⟩:=hSA.cells;clear hW hSA hxb HTP hu hu0 hu1 hx3 hx4 hx5 hw1 hw2 hne hne2 HSB k0 k1;have HD4:Hid (∃d',d.take 40=d'∧d'.length≤40):=θ ⟨_,rfl,by rw[at9];omega⟩;have hdc:=HAI.o.le;have hdm:=HAI.o.max;unfold maxLen at hdm;go_upto_if 60 with fail
    go_cut []from 26 to 76 (fun wx=>StepAt wx xb 1 x 0 da (d.take 40).length dcap∧TpS w.heap.size w wx q b 6 1000 t t C (fun j=>j=xb)∧Reads wx .u8 da (d.take 40))
    case first=>as_aux_lemma=>
     by_cases h40:40<d.length
     ·have d1:decide ((40:Int)<(d.length:Int))=true:=aH6 E;have d2:decide (40<d.length)=true:=aH6 h40;have hsl:∀w:World,(Instr.slice 32 (.slice da d.length dcap) none (some (.int .i64 40)) none).run Tryz.prog w= .ok (.slice da 40 dcap) w:=fun w=>by
       have :=fY (P:=Tryz.prog) (w:=w) (t:=32) (a:=da) (len:=d.length) (cap:=dcap) (k:=40) aF4 Ek E;exact this
      have f3:=aH8 W xb 3 _ _ HSA.o;have HSA2:Hid (StepAt (W.setCell ⟨xb,3,none⟩ (.slice da 40 dcap)) xb 1 x 0 da (d.take 40).length dcap):=θ (by
       rw[at9,aB7 E]
       exact bG HSA.o 3 _)
      have hch:Chg (fun j=>j=xb) W (W.setCell ⟨xb,3,none⟩ (.slice da 40 dcap)):=(Chg.refl (S:=fun j=>j=xb) (w:=W)).setCell ⟨xb,3,none⟩ (Ei rfl) _;have HT2:=θ (HT1.o.set (hch.mono (fun j e=>⟨e,by have :=HXB.o;omega,by have :=HXB.o;omega⟩)));have HR2:Hid (Reads (W.setCell ⟨xb,3,none⟩ (.slice da 40 dcap)) .u8 da (d.take 40)):=θ (Am hch (Nm HR1.o 40) (fun h0 ad e e2=>by have :=Pk HAI.o E ad e;have :=HXB.o;omega));clear hch;go_wp2_with fail;go_meet;case rel=>exact⟨HSA2.o,HT2.o,HR2.o⟩
     ·have d1:decide ((40:Int)<(d.length:Int))=false:=aH4 E;have d2:decide (40<d.length)=false:=aH4 h40;have HE:Hid (d.take 40=d):=θ (az8 E);go_wp2_with fail;go_meet;case rel=>rw[HE.o];exact⟨HSA.o,HT1.o,HR1.o⟩
    case rest=>as_aux_lemma=>
    obtain⟨hSA2,hT2,hR2⟩:=hcut;have hby2:bA (d.take 40):=fun y hy=>Vp HAI.o y (ax7 hy);have hdl:(d.take 40).length≤40:=by rw[at9];omega
    have hnl:da=none→(d.take 40).length=0∧dcap=0:=fun e=>by have :=HAI.o.nil e;rw[at9];omega
    have hlow:0<(d.take 40).length→∀ad,da=some ad→ad.block<w.heap.size:=fun h0=>by
     rw[at9]at h0;exact Pk HAI.o E
    clear e0 e1 e2 e3 HT1 HR1 HSA HD4 hdc hdm;generalize d.take 40=d' at *;obtain⟨e0,e1,e2,e3⟩:=hSA2.cells;have htl:=HTL2.o;have hcc:eD t 1 0 d'≤20000:=by
     have :=aC0 hdl (show t.length+d'.length+5≤400 by omega);show d'.length*(t.length+d'.length+5)≤20000;omega
    have hsf:aS 1000 t 1 x 0 d'=⟨fT t x d',0,0,[],[]⟩:=aa7 hxl E;have HSD:=θ (hT2.sdo (HT.o.below hT2.bl HTL.o) HTL.o (k:=1) (at_:=x) (n:=0) (dc:=dcap) hR2 hnl (fun h0 ad e=>Ei (hlow h0 ad e)) hby2 E E E E E E);rw[hsf]at HSD;have HSA2:=θ hSA2;have HNX:Hid (t.length≤40*k∧x≤t.length∧d'.length≤40∧C+eD t 1 0 d'≤1+(k+1)*20000):=θ ⟨E,hxl,hdl,E⟩;have HLOW:=θ hlow;have HBY2:=θ hby2;have HR2:=θ hR2;have HBL2:=θ hT2.bl;clear hSA2 hT2 hR2 hby2 hdl hnl hcc hlow hsf htl;have hfd:∀(w:World) (x0 x1 x2 x3:Value),(Instr.field 38 (.agg #[x0,x1,x2,x3]) 0).run Tryz.prog w= .ok x0 w:=fun w x0 x1 x2 x3=>Ek;go_wp2_with fail;refine HSD.o.mono ?_;rintro e w4 ⟨ea,ec,pa,pc,rfl,_,_,hT4,hc4,_⟩;have hSA4:StepAt w4 xb 1 x 0 da d'.length dcap:=hc4.heap HSA2.o (fun e=>e.2 (Ei rfl));obtain⟨e0,e1,e2,e3⟩:=hSA4.cells;have HMD:=θ (Im (dc:=dcap) (n:=0) hT4.md (by have :=HNX.o;omega) (Am hc4 HR2.o (fun h0 ad e e2=>by have :=HLOW.o h0 ad e;have :=e2.1;omega)) (fun h0 ad e=>by have :=HLOW.o h0 ad e;have :=hT4.le;omega) HNX.o.2.1 E E (by have :=HNX.o;omega) (by have :=HNX.o;omega));have HT4:=θ hT4;clear hT4 hc4 hSA4 HSD HSA2;go_wp2_with fail;refine HMD.o.mono ?_;intro e w5 hm;obtain⟨_,_,_,_,rfl,_,_,hT5,_⟩:=HT4.o.mdo hm;have HT5:=θ hT5;clear hm hT5 HMD HT4;go_wp2_with fail;go_roundw;case rel=>exact⟨k+1,fT t x d',C+eD t 1 0 d',E,E,by go_num,by have :=HNX.o;rw[xC E];omega,rN (rN (xQ HBY.o _) HBY2.o) (xP HBY.o _),HNX.o.2.2.2,HT5.o.mono (fun _ e=>e.elim) (aB0 _)⟩
    case measure=>simp[intOf];omega
   ·rw[aH4 hlt]at hv;subst hv;have c0:=hTP.md.cells.1;have HF:=θ (hTP.fine (strOfNums t) (tG hby));have HBY:=θ hby;have htl3:t.length≤320:=E;have hC3:C≤200000+(320-t.length)*400:=E;have HTL3:=θ (And.intro htl3 hC3);clear hTP hby hk hk8 htl hC hlt htl3 hC3;go_wp2_with fail;refine HF.o.mono ?_;rintro e w4 ⟨rfl,hT4,_⟩;have HT4:=θ hT4;clear hT4 HF c0;go_wp2_with fail;go_loopw [] (fun wx=>∃(t:List Int) (C:Nat),t.length≤320∧bA t∧C≤200000+(320-t.length)*400∧TpS w.heap.size w wx q b 6 1000 t t C (fun _=>False)) (fun wx=>Ho b wx);case atStart=>exact⟨t,C,HTL3.o.1,HBY.o,HTL3.o.2,HT4.o⟩
    case round=>as_aux_lemma=>
     clear HT4 HBY HTL3;obtain⟨t,C,htl,hby,hC,hTP⟩:=hrel;have c0:=hTP.md.cells.1;have hsz:=aJ3 t;have HTX:=θ hTP.md.len;have HTP:=θ hTP;have HBY:=θ hby;have HCC:=θ hC;clear hTP hby hC;by_cases h0:0<t.length
     ·have HH0:=θ h0;obtain⟨k3,hk3⟩:∃k3,t.length/3=k3:=⟨_,rfl⟩;obtain⟨k2,hk2⟩:∃k2,t.length/2=k2:=⟨_,rfl⟩;obtain⟨n1,hn1⟩:∃n1,1+k2-k3=n1:=⟨_,rfl⟩;have a1:(t.length:Int)/3=(k3:Int):=E;have a2:(t.length:Int)/2=(k2:Int):=E;have a3:(t.length:Int).tdiv 3=(k3:Int):=by rw[ao4 E];exact a1
      have a4:(t.length:Int).tdiv 2=(k2:Int):=by rw[ao4 E];exact a2
      have a5:IntKind.i64.wrap (k3:Int)=(k3:Int):=ao8 _ E;have a6:IntKind.i64.wrap (k2:Int)=(k2:Int):=ao8 _ E;have a7:IntKind.i64.wrap (1+(k2:Int))=1+(k2:Int):=ao8 _ E;have a8:IntKind.i64.wrap (1+(k2:Int)-(k3:Int))=(n1:Int):=by rw[ao8 _ E];omega
      have a9:1+(k2:Int)-(k3:Int)=(n1:Int):=E;have a10:IntKind.i64.wrap (n1:Int)=(n1:Int):=ao8 _ E;have HK:=θ (And.intro hk3 (And.intro hk2 hn1));have d1:decide ((0:Int)<(t.length:Int))=true:=aH6 E;have d2:decide (0<t.length)=true:=aH6 h0;have HSB:Hid (∀W,Below wr.heap.size wr W→W.cell? ⟨b,0,none⟩=some (.string (strOfNums t))):=θ (fun W hW=>(hW.cell (p:=⟨b,0,none⟩) HTP.o.md.lt).trans c0);clear hk3 hk2 hn1;generalize hst:strOfNums t=st at *;go_upto_region 19 with fail
      clear d1 d2 c0;refine aE (fun w'=>w'.cell? ⟨b,0,none⟩=some (.string st)) Ek (HSB.o _ ⟨rfl,rfl,rfl,aB0 _,fun _ _=>rfl⟩) (fun hh=>?_);refine rt 0 hh ?_;refine rt 1 hh ?_;refine rt 2 hh ?_;refine rt 3 hh ?_;refine rt 4 hh ?_;refine rt 5 hh ?_;refine rt 6 hh ?_;refine rt 7 hh ?_;refine rt 8 hh ?_;refine rt 9 hh ?_;refine rt 10 hh ?_;refine rt 11 hh ?_;refine rt 12 hh ?_;refine rt 13 hh ?_;refine rt 14 hh ?_;refine rt 15 hh ?_;refine rg 16 fun κ hK=>?_;go_simp;refine hK.out _ _ (HSB.o _ (Ud _)) ?_;intro hh;try simp only[pt]
      refine rg 17 fun κ hK=>?_;go_simp;refine hK.out _ _ (HSB.o _ (De _)) ?_;intro hh;try simp only[pt]
      refine rz ?_;clear hh a1 a2 a3 a4 a5 a6 a7 a8 a9 a10;have hW:=De (w:=wr) (.cells #[.int .i64 2, .int .i64 k3, .int .i64 n1, .slice none 0 0] 34);have hSA:StepAt (wr.alloc (.cells #[.int .i64 2, .int .i64 k3, .int .i64 n1, .slice none 0 0] 34)).drew wr.heap.size 2 k3 n1 none 0 0:=aI0 wr _;generalize (wr.alloc (.cells #[.int .i64 2, .int .i64 k3, .int .i64 n1, .slice none 0 0] 34)).drew=W at *;have HT1:Hid (TpS w.heap.size w W q b 6 1000 t t C (fun j=>j=wr.heap.size)):=θ (HTP.o.add hW (fun j e=>Ej ⟨E,by subst e;exact(am4.1 hSA).1⟩));obtain⟨xb,hxb⟩:∃xb,wr.heap.size=xb:=⟨_,rfl⟩;have HXB:Hid (w.heap.size≤xb∧xb≠b):=θ ⟨by have :=HTP.o.size;omega,by have :=HTP.o.md.lt;omega⟩;rw[hxb]at hSA HT1⊢;have HSA:=θ hSA;obtain⟨e0,e1,e2,e3⟩:=hSA.cells;have c0:=HT1.o.md.cells.1;rw[hst]at c0;have hw:IntKind.i64.wrap ((t.length:Int)-(k3:Int))=(t.length:Int)-(k3:Int):=by have :=HK.o;exact ao8 _ E
      clear hW hSA hxb HTP HSB h0;go_upto_region 20 with fail
      refine aE (fun w'=>w'.cell? ⟨b,0,none⟩=some (.string st)∧w'.cell? ⟨xb,2,none⟩=some (.int .i64 n1)) Ek (⟨c0,e2⟩) (fun hh=>?_);refine rt 0 hh ?_;refine rt 1 hh ?_;refine rt 2 hh ?_;refine rt 3 hh ?_;refine rt 4 hh ?_;refine rt 5 hh ?_;refine rt 6 hh ?_;refine rt 7 hh ?_;refine rt 8 hh ?_;refine rt 9 hh ?_;refine rz ?_;clear hh;have HSAd:Hid (StepAt W.drew xb 2 k3 n1 none 0 0):=HSA;have HT1d:Hid (TpS w.heap.size w W.drew q b 6 1000 t t C (fun j=>j=xb)):=θ (HT1.o.drewN 1);clear HSA HT1 e0 e1 e2 e3 c0;generalize W.drew=W2 at *;obtain⟨e0,e1,e2,e3⟩:=HSAd.o.cells;have c0:=HT1d.o.md.cells.1;rw[hst]at c0;go_upto_if 121 with fail
      go_cut []from 84 to 150 (fun wx=>StepAt wx xb 2 k3 (min n1 (t.length-k3):Nat) none 0 0∧TpS w.heap.size w wx q b 6 1000 t t C (fun j=>j=xb))
      case first=>as_aux_lemma=>
       by_cases hlt:t.length-k3<n1
       ·have d1:decide ((t.length:Int)-(k3:Int)<(n1:Int))=true:=aH6 (by have :=HK.o;omega);have HM:Hid ((t.length:Int)-(k3:Int)=((min n1 (t.length-k3):Nat):Int)):=θ (by have :=HK.o;omega);have d3:(t.length:Int)-(k3:Int)<(n1:Int):=by have :=HK.o;omega
        have f2:W2.frozen? ⟨xb,2,none⟩=false:=aH8 W2 xb 2 _ _ HSAd.o;have hch:Chg (fun j=>j=xb) W2 (W2.setCell ⟨xb,2,none⟩ (.int .i64 ((t.length:Int)-(k3:Int)))):=(Chg.refl (S:=fun j=>j=xb) (w:=W2)).setCell ⟨xb,2,none⟩ (Ei rfl) _;have HT2:=θ (HT1d.o.set (hch.mono (fun j e=>⟨e,by have :=HXB.o;omega,by have :=HXB.o;omega⟩)));have HS2:Hid (StepAt (W2.setCell ⟨xb,2,none⟩ (.int .i64 ((t.length:Int)-(k3:Int)))) xb 2 k3 ((t.length:Int)-(k3:Int)) none 0 0):=θ (bG HSAd.o 2 _);clear hch;go_wp2_with fail;go_meet;case rel=>rw[←HM.o];exact⟨HS2.o,HT2.o⟩
       ·have d1:decide ((t.length:Int)-(k3:Int)<(n1:Int))=false:=aH4 (by have :=HK.o;omega);have d3:¬((t.length:Int)-(k3:Int)<(n1:Int)):=by have :=HK.o;omega
        have HM:Hid (min n1 (t.length-k3)=n1):=θ E;go_wp2_with fail;go_meet;case rel=>rw[HM.o];exact⟨HSAd.o,HT1d.o⟩
      case rest=>as_aux_lemma=>
      obtain⟨hSA2,hT2⟩:=hcut;obtain⟨n,hn⟩:∃n,min n1 (t.length-k3)=n:=⟨_,rfl⟩;rw[hn]at hSA2;have hkn:k3+n≤t.length∧1≤n:=by have :=HK.o;have :=HH0.o;omega
      have HKN:=θ hkn;clear e0 e1 e2 e3 c0 hw HT1d HSAd hn hkn HK HH0;obtain⟨e0,e1,e2,e3⟩:=hSA2.cells;have hcc:eD t 2 n []≤n*400:=by
       have h1:eD t 2 n []=min n t.length*(t.length+5):=by unfold eD;rw[aI4 rfl,ao6]
       rw[h1];exact aC0 (Nat.min_le_left _ _) E
      have hsf:aS 1000 t 2 k3 n []=⟨dC t k3 n,0,0,[],[]⟩:=Uf HKN.o.1;have hc2:C+eD t 2 n []≤200000+(320-(t.length-n))*400∧C+eD t 2 n []+t.length+10≤1000000:=by have :=HCC.o;have :=HKN.o;omega
      have HSD:=θ (hT2.sdo (HT.o.below hT2.bl HTL.o) HTL.o (k:=2) (at_:=k3) (n:=n) (da:=none) (dc:=0) (d:=[]) Reads.nil (fun _=>⟨rfl,rfl⟩) (fun _ ad e=>nomatch e) (fun _ h=>nomatch h) E E E Ed (by have :=hc2.2;simp only[at6];omega) E);rw[hsf]at HSD;have HSA2:=θ hSA2;have HC2:=θ hc2.1;clear hSA2 hT2 hcc hsf hc2;have hfd:∀(w:World) (x0 x1 x2 x3:Value),(Instr.field 38 (.agg #[x0,x1,x2,x3]) 0).run Tryz.prog w= .ok x0 w:=fun w x0 x1 x2 x3=>Ek;go_wp2_with fail;refine HSD.o.mono ?_;rintro e w4 ⟨ea,ec,pa,pc,rfl,_,_,hT4,hc4,_⟩;have hSA4:StepAt w4 xb 2 k3 n none 0 0:=hc4.heap HSA2.o (fun e=>e.2 (Ei rfl));obtain⟨e0,e1,e2,e3⟩:=hSA4.cells;have HMD:=θ (Il (da:=none) (dn:=0) (dc:=0) hT4.md E HKN.o.1);have HT4:=θ hT4;clear hT4 hc4 hSA4 HSD HSA2;go_wp2_with fail;refine HMD.o.mono ?_;intro e w5 hm;obtain⟨_,_,_,_,rfl,_,_,hT5,_⟩:=HT4.o.mdo hm;have hby5:bA (dC t k3 n):=rN (xQ HBY.o _) (xP HBY.o _);have HBY5:=θ hby5;have HLN5:Hid ((dC t k3 n).length=t.length-n):=θ (sJ HKN.o.1);have c5:=hT5.md.cells.1;have HF:=θ (hT5.fine (strOfNums (dC t k3 n)) (tG hby5));clear hm HMD HT4 hby5 hT5;generalize strOfNums (dC t k3 n)=s5 at *;go_wp2_with fail;refine HF.o.mono ?_;rintro e w6 ⟨rfl,hT6,_⟩;have HT6:=θ hT6;clear hT6 HF c5;go_wp2_with fail;go_roundw;case rel=>exact⟨dC t k3 n,C+eD t 2 n [],by have :=HLN5.o;omega,HBY5.o,by rw[HLN5.o];exact HC2.o,HT6.o.mono (fun _ e=>e.elim) (aB0 _)⟩
      case measure=>rw[HT6.o.md.len,HTX.o,HLN5.o];have :=HKN.o;omega
     ·obtain rfl:t=[]:=aq6 E;have HTD2:=θ (HTD.o wr HTP.o.bl);clear h0 htl HTX HCC HBY hsz;have c1:wr.cell? ⟨b,0,none⟩=some (.string {data:=#[]}):=c0;clear c0;go_wp2_with fail;refine HTD2.o.mono ?_;rintro e w3 ⟨rfl,hb3⟩;have hT3:=HTP.o.below hb3;have HLS:=θ hT3.last;clear HTD2 hT3 hb3 c1;go_wp2_with fail;refine HLS.o.mono ?_;rintro e w4 ⟨g,R,rfl,hR,hr,hT4,_⟩;rw[Wr hR]at hr;have hb4:=aC w4 (.cells #[.int .i64 0] 3);have HSM:=θ (tV (some ⟨g,0,none⟩) (some ⟨w4.heap.size,0,none⟩) 1 1 1 1 [0] [0] _ (hr.below hb4) (jT (aI0 w4 (.cells #[.int .i64 0] 3)) rfl) rfl rfl Ed rfl);have HT5:=θ (hT4.below hb4);clear hR hr hT4 hb4 HLS HTP;go_wp2_with fail;refine HSM.o.mono ?_;rintro e w5 ⟨rfl,m5,rfl⟩;have HT6:=θ (HT5.o.drewN m5);clear HSM HT5;generalize (w4.alloc (.cells #[.int .i64 0] 3)).drewN m5=w5 at *;have HSH:=θ HT6.o.shapes;go_wp2_with fail;refine HSH.o.mono ?_;rintro e w6 ⟨L,a,cp,ys,hL,hsy,rfl,hys,hb6⟩;have hyl:ys.length=9:=by rw[qW hys,Xt hsy hL]
      have HB6:=θ (HT6.o.below hb6).bl;rw[hyl];clear hL hsy hys hb6 HSH HT6 hyl;go_wp2_with fail;go_ret;exact⟨rfl,HB6.o⟩
end
end Go.Proofs.YtchinbgemenenaaGreatDoor
