/- Lemmas and contracts under the claims of this seat. No condition. -/
import Derived.BigQuiet
import Derived.Test.YtchinbgemenenaaGreatDoorZr1
import Derived.Test.YtchinbgemenenaaGreatDoorZr7
import Derived.Test.YtchinbgemenenaaGreatDoorZr8
import Derived.Test.YtchinbgemenenaaGreatDoorZr11
import Derived.Test.YtchinbgemenenaaGreatDoorZr17
namespace Go.Proofs.YtchinbgemenenaaGreatDoor
set_option linter.unusedVariables false
set_option linter.unusedSimpArgs false
set_option maxRecDepth 100000
set_option maxHeartbeats 12800000
section
open Go.RowKit
def fI(most:Int):List Int→List Stp→List Int
 | t,[]=>t
 | t,s::xs=>fI most (aK most t s.k s.p s.n s.r.l).t xs
def sJ(most:Int):List Int→List Stp→List StR
 | _,[]=>[]
 | t,s::xs=>aK most t s.k s.p s.n s.r.l::sJ most (aK most t s.k s.p s.n s.r.l).t xs
theorem Ca(most:Int)(s:Stp):∀(xs:List Stp) (t:List Int),fI most t (xs++[s])=(aK most (fI most t xs) s.k s.p s.n s.r.l).t
 | [],t=>rfl
 | x::xs,t=>by show fI most _ (xs++[s])=_;rw[Ca most s xs];rfl
theorem Bz(most:Int)(s:Stp):∀(xs:List Stp) (t:List Int),sJ most t (xs++[s])=sJ most t xs++[aK most (fI most t xs) s.k s.p s.n s.r.l]
 | [],t=>rfl
 | x::xs,t=>by show _::sJ most _ (xs++[s])=_;rw[Bz most s xs];rfl
theorem Tg{most:Int}{t:List Int}{xs:List Stp}{k:Nat}{s:Stp}(h:xs[k]? =some s):fI most t (xs.take (k+1))=(aK most (fI most t (xs.take k)) s.k s.p s.n s.r.l).t:=by
 rw[ay9,h];exact Ca _ _ _ _
theorem Tf{most:Int}{t:List Int}{xs:List Stp}{k:Nat}{s:Stp}(h:xs[k]? =some s):sJ most t (xs.take (k+1))=sJ most t (xs.take k)++[aK most (fI most t (xs.take k)) s.k s.p s.n s.r.l]:=by
 rw[ay9,h];exact Bz _ _ _ _
theorem Zl{most:Int}(xs:List Stp):∀t:List Int,(t.length:Int)≤most→((fI most t xs).length:Int)≤most:=by
 induction xs with
 | nil=>intro t h;exact h
 | cons x xs ih=>intro t h;exact ih _ (Ud _ _ _ h)
def RdS(w:World)(a:Option Addr)(xs:List Stp):Prop:=∀i,i<xs.length→∃b off,a=some ⟨b,off,none⟩∧b<w.heap.size∧∀j,j<xs.length→
  w.cell? ⟨b,off+j*4,none⟩=some (.int .i64 (xs[j]?.getD default).k)∧w.cell? ⟨b,off+j*4+1,none⟩=some (.int .i64 (xs[j]?.getD default).p)∧w.cell? ⟨b,off+j*4+2,none⟩=some (.int .i64 (xs[j]?.getD default).n)∧
  w.cell? ⟨b,off+j*4+3,none⟩=some (.slice (xs[j]?.getD default).r.a (xs[j]?.getD default).r.l.length (xs[j]?.getD default).r.cap)
theorem RdS.chg {S:Nat→Prop}{w w':World}{a:Option Addr}{xs:List Stp}(h:RdS w a xs)(hc:Chg S w w')(hn:∀ad,a=some ad→¬S ad.block):RdS w' a xs:=by
 intro i hi;obtain⟨b,off,rfl,hb,hx⟩:=h i hi;have hn:=hn _ rfl;have hs:=hc.size;refine⟨b,off,rfl,E,fun j hj=>?_⟩;obtain⟨h0,h1,h2,h3⟩:=hx j hj;exact⟨hc.cell h0 hn,hc.cell h1 hn,hc.cell h2 hn,hc.cell h3 hn⟩
structure RsR where
 o:StR
 da:Option Addr
 dc:Nat
 pa:Option Addr
 pc:Nat
def RsR.cells (r:RsR):List Value:=[.int .i64 r.o.code, .int .i64 r.o.n, .slice r.da r.o.d.length r.dc, .slice r.pa r.o.l.length r.pc]
def RsOk(w:World)(Y:Nat→Prop)(v:Value)(r:RsR):Prop:=Reads w .u8 r.da r.o.d∧Reads w .i64 r.pa r.o.l∧∀j,cP r.da j∨cP r.pa j→Y j∧j<w.heap.size∧v.ownBlock≠some j
theorem RsOk.chg {S Y Z:Nat→Prop}{w w':World}{v v':Value}{r:RsR}(h:RsOk w Y v r)(hc:Chg S w w')(hS:∀j,Y j→v.ownBlock≠some j→¬S j)(hY:∀j,Y j→Z j)(hv:∀j,j<w.heap.size→v.ownBlock≠some j→v'.ownBlock≠some j):RsOk w' Z v' r:=by
 obtain⟨h1,h2,h3⟩:=h;have hs:=hc.size;refine⟨hc.reads h1 (fun ad e=>?_),hc.reads h2 (fun ad e=>?_),fun j hj=>?_⟩
 ·obtain⟨a1,a2,a3⟩:=h3 ad.block (Ei ⟨ad,e,rfl⟩);exact hS _ a1 a3
 ·obtain⟨a1,a2,a3⟩:=h3 ad.block (Ej ⟨ad,e,rfl⟩);exact hS _ a1 a3
 ·obtain⟨a1,a2,a3⟩:=h3 j hj;exact⟨hY j a1,E,hv j a2 a3⟩
theorem Tryz.infoRes:(Tryz.prog.info? 38).map (fun i=>(i.zero,i.size,i.bytes))=some (some (.agg #[.int .i64 0, .int .i64 0, .slice none 0 0, .slice none 0 0]),4,64):=Ek
structure TdJ (B:Nat) (X:Nat→Prop) (w:World) (q ra:Nat) (most:Int) (t:List Int) (C:Nat) (xs:List Stp) (k:Nat) (v:Value) (wr:World) (rs:List RsR) (Y:Nat→Prop) (c:Nat):Prop where
 len:rs.length=k
 told:rs.map RsR.o=sJ most t (xs.take k)
 own:wr.ownsRow w.heap.size 38 4 v k (rs.flatMap RsR.cells)
 xy:∀j,X j→Y j
 vy:∀j,v.ownBlock=some j→Y j
 ok:∀r∈rs,RsOk wr Y v r
 cb:c≤C+k*900
 st:StT B Y wr q ra most (fI most t (xs.take k)) c
 chg:Chg (exT B X) w wr
def TdI(B:Nat)(X:Nat→Prop)(w:World)(q ra:Nat)(most:Int)(t:List Int)(C:Nat)(xs:List Stp)(k:Nat)(v:Value)(wr:World):Prop:=∃rs Y c,TdJ B X w q ra most t C xs k v wr rs Y c
structure TdS (B:Nat) (X:Nat→Prop) (w:World) (most:Int) (t:List Int) (C:Nat) (xs:List Stp):Prop where
 ok:∀s∈xs,Reads w .u8 s.r.a s.r.l∧(s.r.a=none→s.r.l.length=0∧s.r.cap=0)∧(∀ad,s.r.a=some ad→¬exT B X ad.block)∧aU s.r.l∧s.r.l.length≤20∧s.k≠8
 tab:BitTab w
 tl:0<B
 le:B≤w.heap.size
 m0:0≤most
 m9:most≤20
 t:(t.length:Int)≤most
 len:xs.length≤100
 c:C≤100000
section
variable {B:Nat}{X:Nat→Prop}{w w':World}{q ra:Nat}{most:Int}{t:List Int}{c:Nat}
theorem StT.xlt (h:StT B X w q ra most t c){j:Nat}(hj:X j):j<w.heap.size:=by
 obtain⟨p,B',pk,pp,mv,R,M,h⟩:=h;by_cases hB:B'≤j
 ·exact h.lv.lv.e.xlt ⟨hB,Ei hj⟩
 ·have :=h.lv.le;omega
theorem aa7{t:List Int}{k n:Int}{d:List Int}(ht:t.length≤20)(hd:d.length≤20):eV t k n d≤900:=by
 unfold eV;split
 ·have :=aB5 (show min n.toNat t.length≤20 by omega) (show t.length+5≤25 by omega);omega
 ·have :=aB5 hd (show t.length+d.length+5≤45 by omega);omega
section
variable {C k:Nat}{xs:List Stp}{v:Value}{wr wa:World}{rs:List RsR}{Y:Nat→Prop}{s:Stp}
theorem TdJ.call (h:TdJ B X w q ra most t C xs k v wr rs Y c)(hS:TdS B X w most t C xs)(hs:xs[k]? =some s)(hk:k<xs.length)(hb:Below wr.heap.size wr wa):
  Calls Tryz.prog 11 #[.pointer (some ⟨q,0,none⟩),bD s.k s.p s.n s.r.a s.r.l.length s.r.cap] wa
   (DoR B (fun j=>Y j∨(wr.heap.size≤j∧j<wa.heap.size)) wa q ra most (fI most t (xs.take (k+1))) (C+(k+1)*900) (aK most (fI most t (xs.take k)) s.k s.p s.n s.r.l).code (aK most (fI most t (xs.take k)) s.k s.p s.n s.r.l).n
    (aK most (fI most t (xs.take k)) s.k s.p s.n s.r.l).d (aK most (fI most t (xs.take k)) s.k s.p s.n s.r.l).l):=by
 obtain⟨o1,o2,o3,o4,o5,o6⟩:=hS.ok s (ax2 hs);have hl:=Zl (most:=most) (xs.take k) t hS.t;have h9:=hS.m9;have hlen:=hS.len;have hcc:=hS.c;have h1:=h.cb;have h2:=aa7 (t:=fI most t (xs.take k)) (k:=s.k) (n:=s.n) (d:=s.r.l) E o5;have hle:=h.st.le;have hB0:Below B w wr:=h.chg.below (fun j e=>e.1) hS.le;have hT:=(hS.tab.below hB0 hS.tl).below' hb;rw[Tg hs];refine(Gq (h.st.less hb (fun j e=>e)) hT hS.tl ((h.chg.reads o1 o3).below hb) o2 (fun _ ad e hx=>o3 ad e (bS (fun j hj=>Ei (h.xy j hj)) hx)) o4 hS.m0 E hl E E o6).mono ?_;intro e w' hq;exact hq.up E
theorem TdJ.push {w1 w2 w4:World}(h:TdJ B X w q ra most t C xs k v wr rs Y c)(hs:xs[k]? =some s)(hb:Below wr.heap.size wr wa){da pa:Option Addr}{dc pc gg cp:Nat}{o:StR}(ho:o=aK most (fI most t (xs.take k)) s.k s.p s.n s.r.l)
  (h1:Reads w1 .u8 da o.d) (h2:Reads w1 .i64 pa o.l) (h3:∃c,c≤C+(k+1)*900∧StT B (fun j=>(Y j∨(wr.heap.size≤j∧j<wa.heap.size))∨cP da j∨cP pa j) w1 q ra most (fI most t (xs.take (k+1))) c)
  (h4:Chg (exT B (fun j=>Y j∨(wr.heap.size≤j∧j<wa.heap.size))) wa w1) (h5:∀j,cP da j∨cP pa j→wa.heap.size≤j) (h6:Below w1.heap.size w1 w2)
  (h7:w4.ownsRow w.heap.size 38 4 (.slice (some ⟨gg,0,none⟩) (k+1) cp) (k+1) (rs.flatMap RsR.cells++RsR.cells ⟨o,da,dc,pa,pc⟩)) (h8:w2.grownBy w4 v.ownBlock) (h9:v.ownBlock=some gg∨w2.heap.size≤gg) (h10:gg<w4.heap.size):
  TdI B X w q ra most t C xs (k+1) (.slice (some ⟨gg,0,none⟩) (k+1) cp) w4:=by
 obtain⟨c',hc',hst⟩:=h3;have hB:=h.st.le;have s1:=hb.size;have s2:=h4.size;have s3:=h6.size;have s4:=h8.size;have hvl:∀j,v.ownBlock=some j→j<wr.heap.size:=fun j hj=>(h.own.lt j hj).2;have hcv:Chg (fun j=>v.ownBlock=some j) w2 w4:=Chg.refl.grown h8 (fun j e=>Ei e);have hst2:=hst.below h6;have hst4:=hst2.aside hcv (fun j e1 _ e2=>e1.2 (Ei (Ei (h.vy j e2))));have hnew:∀j,Value.ownBlock (.slice (some ⟨gg,0,none⟩) (k+1) cp)=some j→gg=j:=fun j e=>by
  have e:some gg=some j:=e;injection e
 refine⟨rs++[⟨o,da,dc,pa,pc⟩],_,c',⟨by rw[as6,h.len];rfl,by rw[at6,h.told,Tf hs,ho];rfl,by rw[aq6];simpa using h7,fun j hj=>Ei (Ei (Ei (h.xy j hj))),fun j hj=>?_,fun r hr=>?_,hc',hst4,?_⟩⟩
 ·obtain rfl:=hnew j hj;exact h9.elim (fun e=>Ei (Ei (Ei (h.vy _ e)))) (fun e=>Ej ⟨e,h10⟩)
 ·rcases av8.1 hr with hr | hr
  ·have k1:=(h.ok r hr).chg (v':=v) (Z:=Y) (Chg.of_below (S:=fun _=>False) hb) (fun _ _ _ e=>e) (fun _ e=>e) (fun _ _ e=>e);have k2:=k1.chg (v':=v) (Z:=Y) h4 (fun j e1 _ e2=>e2.2 (Ei e1)) (fun _ e=>e) (fun _ _ e=>e);have k3:=k2.chg (v':=v) (Z:=Y) (Chg.of_below (S:=fun _=>False) h6) (fun _ _ _ e=>e) (fun _ e=>e) (fun _ _ e=>e);exact k3.chg hcv (fun j _ e2 e3=>e2 e3) (fun j e=>Ei (Ei (Ei e))) (fun j e1 e2 e3=>by
    have e4:=hnew j e3
    subst e4
    exact h9.elim e2 (fun e=>E))
  ·obtain rfl:r=⟨o,da,dc,pa,pc⟩:=by simpa using hr
   have hx:∀j,cP da j∨cP pa j→j<w1.heap.size∧v.ownBlock≠some j:=fun j hj=>⟨hst.xlt (Ej hj),fun e=>by have :=hvl j e;have :=h5 j hj;omega⟩;have k1:RsOk w1 (fun j=>cP da j∨cP pa j) v ⟨o,da,dc,pa,pc⟩:=⟨h1,h2,fun j hj=>⟨hj,(hx j hj).1,(hx j hj).2⟩⟩;have k3:=k1.chg (v':=v) (Z:=fun j=>cP da j∨cP pa j) (Chg.of_below (S:=fun _=>False) h6) (fun _ _ _ e=>e) (fun _ e=>e) (fun _ _ e=>e);exact k3.chg hcv (fun j _ e2 e3=>e2 e3) (fun j e=>Ei (Ej e)) (fun j e1 e2 e3=>by
    have e4:=hnew j e3
    subst e4
    exact h9.elim e2 (fun e=>E))
 ·have c1:Chg (exT B X) wr wa:=Chg.of_below hb;have c2:Chg (exT B X) wa w1:=h4.mono (fun j e=>bS (fun j hj=>Ei (h.xy j hj)) e);have c3:Chg (exT B X) w1 w2:=Chg.of_below h6;have c4:=((h.chg.trans c1 (fun _ e=>Ei e)).trans c2 (fun _ e=>Ei e)).trans c3 (fun _ e=>Ei e);exact c4.grown h8 (fun j e=>Ej (h.own.lt j e).1)
end
theorem Nr(h:StT B X w q ra most t c){a:Option Addr}{cap:Nat}{xs:List Stp}(hS:RdS w a xs)(hsa:∀ad,a=some ad→¬exT B X ad.block)(hok:TdS B X w most t c xs):
  Calls Tryz.prog 51 #[.func (.func 11) #[.pointer (some ⟨q,0,none⟩)] #[], .slice a xs.length cap] w fun e w'=>∃v,e= .returned v∧TdI B X w q ra most t c xs xs.length v w':=by
 have H:=θ h;have HS:=θ hS;have HSA:=θ hsa;have hxl:=hok.len;have HOK:=θ hok;have eg:∀args w,(callFunc 11 args).run Tryz.prog w= .ok (.enter 11 args) w:=enters_of aD7 Ek rfl;clear h hS hsa hok;go_enter Tryz.func51,Tryz.ntmps51;go_wp2_with fail;go_loopw [5,10] (fun v i wr=>∃k:Nat,k≤xs.length∧i= .int .i64 k∧TdI B X w q ra most t c xs k v wr) (fun _ i _=>xs.length-(intOf i).toNat);case atStart=>exact⟨0,aC8 _,rfl,[],X,c,⟨rfl,rfl,aG2 _ _ _ _,fun j e=>e,fun j e=>by simp[Value.ownBlock]at e,fun r hr=>by simp at hr,E,H.o,Chg.refl⟩⟩
 case round=>as_aux_lemma=>
  obtain⟨k,hk,rfl,rs,Y,c1,hJ⟩:=hrel;by_cases hlt:k<xs.length
  ·obtain⟨s,hs⟩:∃s,xs[k]? =some s:=⟨_,ar3 hlt⟩;obtain⟨b,off,rfl,hbl,hcells⟩:=(HS.o.chg hJ.chg HSA.o) k hlt;obtain⟨s0,s1,s2,s3⟩:=hcells k hlt;rw[hs]at s0 s1 s2 s3;simp only[aD0]at s0 s1 s2 s3;have k0:(0:Int)≤(k:Int):=E;have k1:(k:Int)<(xs.length:Int):=E;have HJ:=θ hJ;have hba:=aC wr (.cells #[.int .i64 s.k, .int .i64 s.p, .int .i64 s.n, .slice s.r.a s.r.l.length s.r.cap] 34);have HD:=θ (hJ.call HOK.o hs hlt hba);have HBA:=θ hba;have HSS:=θ hs;clear hJ hcells hba hs;go_wp2_with fail;clear s0 s1 s2 s3;generalize wr.alloc (.cells #[.int .i64 s.k, .int .i64 s.p, .int .i64 s.n, .slice s.r.a s.r.l.length s.r.cap] 34)=wa at *;refine HD.o.mono ?_;rintro e w1 ⟨da,dc,pa,pc,rfl,h1,h2,h3,h4,h5⟩;obtain⟨o,ho⟩:∃o,o=aK most (fI most t (xs.take k)) s.k s.p s.n s.r.l:=⟨_,rfl⟩;rw[←ho]at h1 h2⊢;have HF:=θ (And.intro ho (And.intro h1 (And.intro h2 (And.intro h3 (And.intro h4 h5)))));have hown1:w1.ownsRow w.heap.size 38 4 u5 k (rs.flatMap RsR.cells):=h4.own (yP HJ.o.own HBA.o) (fun j e1 e2=>e2.2 (Ei (HJ.o.vy j e1)));have hsz:w.heap.size≤w1.heap.size:=by have :=h4.size;have :=HBA.o.size;have :=HJ.o.chg.size;omega
   clear HD ho h1 h2 h3 h4 h5;obtain⟨d,hd⟩:∃d,o.d.length=d:=⟨_,rfl⟩;obtain⟨l,hl⟩:∃l,o.l.length=l:=⟨_,rfl⟩;obtain⟨oc,hoc⟩:∃oc,o.code=oc:=⟨_,rfl⟩;obtain⟨n,hon⟩:∃n,o.n=n:=⟨_,rfl⟩;have HRC:Hid (RsR.cells ⟨o,da,dc,pa,pc⟩=[.int .i64 oc, .int .i64 n, .slice da d dc, .slice pa l pc]):=θ (by unfold RsR.cells;rw[hd,hl,hoc,hon]);rw[hd,hl,hoc,hon];clear hd hl hoc hon;obtain⟨ys,hys⟩:∃ys,rs.flatMap RsR.cells=ys:=⟨_,rfl⟩;rw[hys]at hown1;have HYS:=θ hys;clear hys;go_wp2_with (at_builtin;refine sX rfl _ _ 59 rfl w.heap.size 38 Tryz.infoRes Tryz.underlying59 rfl Ed _ _ _ rfl (aG1 hown1 _) w1.heap.size 1 [.int .i64 oc, .int .i64 n, .slice da d dc, .slice pa l pc] rfl rfl ?hus ?h1 ?c1 ?c2 ?c3 ?_);case hus=>
    intro j u hj;rw[aG7 _ w1.heap.size j _ _ _ (aH5 w1 _)];simpa using hj
   case h1=>intro u hu;simp at hu;rcases hu with rfl | rfl | rfl | rfl<;>rfl
   case c1=>unfold maxLen;omega
   case c2=>omega
   case c3=>simp;omega
   intro gg cp w4 hown hgrow hor hlt4;have HN:Hid (TdI B X w q ra most t c xs (k+1) (.slice (some ⟨gg,0,none⟩) (k+1) cp) w4):=θ (by
    obtain⟨ho,h1,h2,h3,h4,h5⟩:=HF.o
    exact HJ.o.push HSS.o HBA.o ho h1 h2 h3 h4 h5 (aC w1 _) (by rw[HYS.o,HRC.o];exact hown) hgrow (hor.imp id (fun e=>by simpa using e)) hlt4)
   clear hown hgrow hor hlt4 hown1 HF HJ HYS HRC;go_wp2_with fail;go_roundw;case rel=>exact⟨k+1,E,by go_num,HN.o⟩
   case measure=>simp[intOf];omega
  ·obtain rfl:k=xs.length:=E;obtain⟨va,vc,rfl,_,_⟩:=aM hJ.own;have HH:Hid (TdI B X w q ra most t c xs xs.length (.slice va xs.length vc) wr):=θ ⟨rs,Y,c1,hJ⟩;clear hJ;go_wp2_with fail;go_ret;exact⟨_,rfl,HH.o⟩
theorem Tk(h:StT B X w q ra most t c){a:Option Addr}{cap:Nat}{xs:List Stp}(hS:RdS w a xs)(hsa:∀ad,a=some ad→¬exT B X ad.block)(hok:TdS B X w most t c xs):
  Calls Tryz.prog 22 #[.pointer (some ⟨q,0,none⟩), .slice a xs.length cap] w fun e w'=>∃v,e= .returned v∧TdI B X w q ra most t c xs xs.length v w':=by
 have HT:=θ (Nr h hS hsa hok (cap:=cap));clear h hS hsa hok;go_enter Tryz.func22,Tryz.ntmps22;go_wp2_with fail;refine HT.o.mono ?_;rintro e w' ⟨v,rfl,hF⟩;have HF:=θ hF;obtain⟨rs,Y,c1,hJ⟩:=hF;obtain⟨va,vc,rfl,_,_⟩:=aM hJ.own;clear hJ HT;go_wp2_with fail;go_ret;exact⟨_,rfl,HF.o⟩
end
def MdT(w:World)(b:Nat)(most:Int)(t:List Int):Prop:=w.heap[b]? =some (.cells #[.string (strOfNums t), .int .i64 most] 31 (0,0))
def MoR(w:World)(b:Nat)(most:Int)(t:List Int)(code n:Int)(d l:List Int)(e:Ending)(w':World):Prop:=
 ∃da dc pa pc,e= .returned (.agg #[.int .i64 code, .int .i64 n, .slice da d.length dc, .slice pa l.length pc])∧Reads w' .u8 da d∧Reads w' .i64 pa l∧MdT w' b most t∧Chg (fun j=>j=b) w w'
section
variable {w w':World}{b:Nat}{most:Int}{t:List Int}
theorem MdT.lt (h:MdT w b most t):b<w.heap.size:=(am0.1 h).1
theorem MdT.chg {S:Nat→Prop}(h:MdT w b most t)(hc:Chg S w w')(hn:¬S b):MdT w' b most t:=hc.heap h hn
theorem MdT.below (h:MdT w b most t)(hb:Below w.heap.size w w'):MdT w' b most t:=h.chg (S:=fun _=>False) (Chg.of_below hb) (fun e=>e)
theorem MdT.cells (h:MdT w b most t):w.cell? ⟨b,0,none⟩=some (.string (strOfNums t))∧w.cell? ⟨b,1,none⟩=some (.int .i64 most):=⟨aG7 w b 0 _ _ _ h,aG7 w b 1 _ _ _ h⟩
theorem fN(w:World)(k at_ n:Int)(da:Option Addr)(dn dc:Nat):(doW w k at_ n da dn dc).heap[w.heap.size]? =some (.cells #[.int .i64 k, .int .i64 at_, .int .i64 n, .slice da dn dc] 34 (0,0))∧
  (doW w k at_ n da dn dc).heap[w.heap.size+1]? =some (.cells #[.int .i64 0, .int .i64 0, .slice none 0 0, .slice none 0 0] 38 (0,0))∧Below w.heap.size w (doW w k at_ n da dn dc)∧(doW w k at_ n da dn dc).heap.size=w.heap.size+2:=by
 refine⟨?_,?_,((Below.refl _ _).alloc (Nat.le_refl _) _).alloc Es _,by unfold doW;simp⟩
 ·unfold doW;rw[heap_alloc_old _ _ Es];exact aH5 w _
 ·have :=aH5 (w.alloc (.cells #[.int .i64 k, .int .i64 at_, .int .i64 n, .slice da dn dc] 34)) (.cells #[.int .i64 0, .int .i64 0, .slice none 0 0, .slice none 0 0] 38);rw[aG3]at this;exact this
theorem moFin{b4:Nat}{v0 v1 v2 v3:Value}{a:Act}{Rp:Ending→World→Prop}(h4:a.tmps[4]?.getD undef= .pointer (some ⟨b4,0,none⟩))(hd:a.defers=[])(hb:w.heap[b4]? =some (.cells #[v0,v1,v2,v3] 38 (0,0)))(hR:Rp (.returned (.agg #[v0,v1,v2,v3])) w):bodyPost Tryz.prog Tryz.f12 Rp .ret a w:=by
 have e0:=aG7 w b4 0 _ _ _ hb;have e1:=aG7 w b4 1 _ _ _ hb;have e2:=aG7 w b4 2 _ _ _ hb;have e3:=aG7 w b4 3 _ _ _ hb;show a.defers=[]∧∃v,(results Tryz.f12 a.tmps).run Tryz.prog w= .ok v w∧Rp (.returned v) w;refine⟨hd,_,?_,hR⟩;simp[results,Tryz.f12,go_sem,h4,e0,e1,e2,e3]
theorem iC(h:MdT w b most t)(o:Obj)(code n:Int){a:Act}(h4:a.tmps[4]?.getD undef= .pointer (some ⟨w.heap.size+1,0,none⟩))(hdf:a.defers=[]):
  bodyPost Tryz.prog Tryz.f12 (MoR w b most t code n [] []) .ret a ((w.alloc o).alloc (.cells #[.int .i64 code, .int .i64 n, .slice none 0 0, .slice none 0 0] 38)):=by
 have hb1:Below w.heap.size w ((w.alloc o).alloc (.cells #[.int .i64 code, .int .i64 n, .slice none 0 0, .slice none 0 0] 38)):=((am4 _ _).alloc (aA5 _) _).alloc Es _;have hn:=aH5 (w.alloc o) (.cells #[.int .i64 code, .int .i64 n, .slice none 0 0, .slice none 0 0] 38);rw[aG3]at hn;exact moFin h4 hdf hn ⟨none,0,none,0,rfl,Reads.nil,Reads.nil,h.below hb1,Chg.of_below hb1⟩
theorem moEnd{w1 w2:World}(hb:Below w.heap.size w w1)(hs1:w1.heap.size=w.heap.size+2){da pa:Option Addr}(hM:MdT w2 b most t)(hbl:b<w.heap.size)(hch:Chg (fun j=>j=b) w1 w2)
  (hr:w1.heap[w.heap.size+1]? =some (.cells #[.int .i64 0, .int .i64 0, .slice none 0 0, .slice none 0 0] 38 (0,0))) {d l:List Int} (hd:Reads w2 .u8 da d) (hl:Reads w2 .i64 pa l) (hv:∀j,cP da j∨cP pa j→w1.heap.size≤j) (code n:Int) (dc pc:Nat) {m1 m2:Nat} (hm1:d.length=m1) (hm2:l.length=m2)
  {a:Act} (h4:a.tmps[4]?.getD undef= .pointer (some ⟨w.heap.size+1,0,none⟩)) (hdf:a.defers=[]):
  bodyPost Tryz.prog Tryz.f12 (MoR w b most t code n d l) .ret a ((((w2.setCell ⟨w.heap.size+1,0,none⟩ (.int .i64 code)).setCell ⟨w.heap.size+1,1,none⟩ (.int .i64 n)).setCell ⟨w.heap.size+1,2,none⟩ (.slice da m1 dc)).setCell ⟨w.heap.size+1,3,none⟩ (.slice pa m2 pc)):=by
 subst hm1 hm2;obtain⟨hb3,hc3⟩:=sK (hch.heap hr (fun e=>by have e:w.heap.size+1=b:=e;omega)) (.int .i64 code) (.int .i64 n) (.slice da d.length dc) (.slice pa l.length pc);refine moFin h4 hdf hb3 ⟨da,dc,pa,pc,rfl,hc3.reads hd (fun ad e e2=>?_),hc3.reads hl (fun ad e e2=>?_),hM.chg hc3 (fun e=>E),((Chg.of_below hb).trans hch (fun b e=>Ei e)).trans hc3 (fun b e=>Ej E)⟩
 ·have :=hv ad.block (Ei ⟨ad,e,rfl⟩);omega
 ·have :=hv ad.block (Ej ⟨ad,e,rfl⟩);omega
theorem Xk(h:MdT w b most t)(hl:t.length≤1000000){at_ n:Int}{da:Option Addr}{dn dc:Nat}(hno:cN t at_ 0=false):
  Calls Tryz.prog 12 #[.pointer (some ⟨b,0,none⟩),bD 1 at_ n da dn dc] w (MoR w b most t 2 0 [] []):=by
 obtain⟨hbx,_,hb1,_⟩:=fN w 1 at_ n da dn dc;have hc0:=(h.below hb1).cells.1;have H:=θ h;have hs:=aI9 t;have hno':=of_decide_eq_false hno;unfold doW at hc0;clear h hbx hb1 hno;unfold bD;generalize hst:strOfNums t=st at *;by_cases h1:at_<0
 ·go_enter Tryz.func12,Tryz.ntmps12;go_wp2_with fail;exact iC H.o _ _ _ rfl rfl
 ·have h3:(t.length:Int)<at_:=E;go_enter Tryz.func12,Tryz.ntmps12;go_wp2_with fail;exact iC H.o _ _ _ rfl rfl
theorem Xl(h:MdT w b most t)(hl:t.length≤1000000){at_ n:Int}{da:Option Addr}{dn dc:Nat}(hno:cN t at_ n=false):
  Calls Tryz.prog 12 #[.pointer (some ⟨b,0,none⟩),bD 2 at_ n da dn dc] w (MoR w b most t 2 0 [] []):=by
 obtain⟨hbx,_,hb1,_⟩:=fN w 2 at_ n da dn dc;have hc0:=(h.below hb1).cells.1;have H:=θ h;have hs:=aI9 t;have hno':=of_decide_eq_false hno;unfold doW at hc0;clear h hbx hb1 hno;unfold bD;generalize hst:strOfNums t=st at *;by_cases h1:at_<0
 ·go_enter Tryz.func12,Tryz.ntmps12;go_wp2_with fail;exact iC H.o _ _ _ rfl rfl
 ·by_cases h2:n<0
  ·go_enter Tryz.func12,Tryz.ntmps12;go_wp2_with fail;exact iC H.o _ _ _ rfl rfl
  ·by_cases h3:(t.length:Int)<at_
   ·go_enter Tryz.func12,Tryz.ntmps12;go_wp2_with fail;exact iC H.o _ _ _ rfl rfl
   ·have hw:IntKind.i64.wrap ((t.length:Int)-at_)=(t.length:Int)-at_:=ao4 _ E;have h4:(t.length:Int)-at_<n:=E;go_enter Tryz.func12,Tryz.ntmps12;go_wp2_with fail;exact iC H.o _ _ _ rfl rfl
theorem Xm(h:MdT w b most t)(hl:t.length≤1000000){at_ n:Int}{da:Option Addr}{dn dc:Nat}(hno:cN t at_ (dn:Int)=false):
  Calls Tryz.prog 12 #[.pointer (some ⟨b,0,none⟩),bD 3 at_ n da dn dc] w (MoR w b most t 2 0 [] []):=by
 obtain⟨hbx,_,hb1,_⟩:=fN w 3 at_ n da dn dc;have hc0:=(h.below hb1).cells.1;have H:=θ h;have hs:=aI9 t;have hno':=of_decide_eq_false hno;unfold doW at hc0;clear h hbx hb1 hno;unfold bD;generalize hst:strOfNums t=st at *;by_cases h1:at_<0
 ·go_enter Tryz.func12,Tryz.ntmps12;go_wp2_with fail;exact iC H.o _ _ _ rfl rfl
 ·by_cases h3:(t.length:Int)<at_
  ·go_enter Tryz.func12,Tryz.ntmps12;go_wp2_with fail;exact iC H.o _ _ _ rfl rfl
  ·have hw:IntKind.i64.wrap ((t.length:Int)-at_)=(t.length:Int)-at_:=ao4 _ E;have h4:(t.length:Int)-at_<(dn:Int):=E;go_enter Tryz.func12,Tryz.ntmps12;go_wp2_with fail;exact iC H.o _ _ _ rfl rfl
end
theorem Py{a b:ByteArray}(h:a.data.toList=b.data.toList):a=b:=by
 cases a;cases b;simp only at h;rw[Array.toList_inj]at h;rw[h]
theorem Lo(t:List Int)(k m:Nat):(strOfNums t).extract k m=strOfNums ((t.drop k).take (m-k)):=by
 apply Py;rw[rU,aI8,aI8,av6,at9]
theorem str_to(t:List Int)(k:Nat):(strOfNums t).extract 0 k=strOfNums (t.take k):=by
 rw[Lo,List.drop_zero,Nat.sub_zero]
theorem aa8(t:List Int)(k:Nat):(strOfNums t).extract k (strOfNums t).size=strOfNums (t.drop k):=by
 rw[Lo,aI9,az3 (by rw[as8];omega)]
theorem slTo{t:List Int}{k:Nat}(hk:k≤t.length)(w:World):(Instr.slice 9 (.string (strOfNums t)) none (some (.int .i64 (k:Int))) none).run Tryz.prog w= .ok (.string (strOfNums (t.take k))) w:=by
 have h:=run_slice_string_to_if (P:=Tryz.prog) w 9 (strOfNums t) .i64 (k:Int) aF3;rw[aH9 (by rw[aI9];omega),ao2,str_to]at h;exact h
theorem Gm{t:List Int}{k:Nat}(hk:k≤t.length)(w:World):(Instr.slice 9 (.string (strOfNums t)) (some (.int .i64 (k:Int))) none none).run Tryz.prog w= .ok (.string (strOfNums (t.drop k))) w:=by
 have h:=run_slice_string_from_if (P:=Tryz.prog) w 9 (strOfNums t) .i64 (k:Int) aF3;rw[aH9 (by rw[aI9];omega),ao2,aa8]at h;exact h
theorem addS{x y:List Int}(h:x.length+y.length≤10000000)(w:World):(Op.stringOp .add (strOfNums x) (strOfNums y)).run Tryz.prog w= .ok (.string (strOfNums (x++y))) w:=by
 rw[run_string_add_sum w _ _ (by rw[aI9,aI9];omega),xI]
section
variable {w w':World}{b:Nat}{most:Int}{t:List Int}
structure MoW (w w1:World) (b:Nat) (most:Int) (t:List Int) (k at_ n:Int) (da:Option Addr) (dn dc:Nat):Prop where
 md:MdT w1 b most t
 bl:b<w.heap.size
 be:Below w.heap.size w w1
 sz:w1.heap.size=w.heap.size+2
 bx:w1.heap[w.heap.size]? =some (.cells #[.int .i64 k, .int .i64 at_, .int .i64 n, .slice da dn dc] 34 (0,0))
 rx:w1.heap[w.heap.size+1]? =some (.cells #[.int .i64 0, .int .i64 0, .slice none 0 0, .slice none 0 0] 38 (0,0))
theorem moW(h:MdT w b most t)(k at_ n:Int)(da:Option Addr)(dn dc:Nat)(m:Nat):MoW w ((doW w k at_ n da dn dc).drewN m) b most t k at_ n da dn dc:=by
 obtain⟨hbx,hrx,hb1,hs1⟩:=fN w k at_ n da dn dc;exact⟨h.below (aG4 hb1 m),h.lt,aG4 hb1 m,hs1,hbx,hrx⟩
theorem MoW.box {w1:World}{k at_ n:Int}{da:Option Addr}{dn dc:Nat}(h:MoW w w1 b most t k at_ n da dn dc):w1.cell? ⟨w.heap.size,0,none⟩=some (.int .i64 k)∧w1.cell? ⟨w.heap.size,1,none⟩=some (.int .i64 at_)∧w1.cell? ⟨w.heap.size,2,none⟩=some (.int .i64 n)∧w1.cell? ⟨w.heap.size,3,none⟩=some (.slice da dn dc):=
 ⟨aG7 w1 _ 0 _ _ _ h.bx,aG7 w1 _ 1 _ _ _ h.bx,aG7 w1 _ 2 _ _ _ h.bx,aG7 w1 _ 3 _ _ _ h.bx⟩
theorem MoW.store {w1:World}{k at_ n:Int}{da:Option Addr}{dn dc:Nat}(h:MoW w w1 b most t k at_ n da dn dc)(t':List Int):MdT (w1.setCell ⟨b,0,none⟩ (.string (strOfNums t'))) b most t'∧Chg (fun j=>j=b) w1 (w1.setCell ⟨b,0,none⟩ (.string (strOfNums t'))):=
 ⟨bT h.md 0 _,(Chg.refl (S:=fun j=>j=b) (w:=w1)).setCell ⟨b,0,none⟩ (Ei rfl) _⟩
theorem Sz{w2:World}{x:Nat}(h:w2.heap[x]? =some (.cells #[.int .i64 0, .int .i64 0, .slice none 0 0, .slice none 0 0] 38 (0,0))):
  (w2.cell? ⟨x,0,none⟩=some (.int .i64 0)∧w2.cell? ⟨x,1,none⟩=some (.int .i64 0)∧w2.cell? ⟨x,2,none⟩=some (.slice none 0 0)∧w2.cell? ⟨x,3,none⟩=some (.slice none 0 0))∧
  (w2.frozen? ⟨x,0,none⟩=false∧w2.frozen? ⟨x,1,none⟩=false∧w2.frozen? ⟨x,2,none⟩=false∧w2.frozen? ⟨x,3,none⟩=false):=
 ⟨⟨aG7 w2 _ 0 _ _ _ h,aG7 w2 _ 1 _ _ _ h,aG7 w2 _ 2 _ _ _ h,aG7 w2 _ 3 _ _ _ h⟩,aH3 w2 _ 0 _ _ h,aH3 w2 _ 1 _ _ h,aH3 w2 _ 2 _ _ h,aH3 w2 _ 3 _ _ h⟩
theorem MoW.drewN {w1:World}{k at_ n:Int}{da:Option Addr}{dn dc:Nat}(h:MoW w w1 b most t k at_ n da dn dc)(m:Nat):MoW w (w1.drewN m) b most t k at_ n da dn dc:=⟨h.md,h.bl,aG4 h.be m,h.sz,h.bx,h.rx⟩
theorem MoW.kept {w1:World}{k at_ n:Int}{da:Option Addr}{dn dc:Nat}(h:MoW w w1 b most t k at_ n da dn dc)(t':List Int):
  ((w1.setCell ⟨b,0,none⟩ (.string (strOfNums t'))).cell? ⟨w.heap.size,1,none⟩=some (.int .i64 at_)∧(w1.setCell ⟨b,0,none⟩ (.string (strOfNums t'))).cell? ⟨w.heap.size,2,none⟩=some (.int .i64 n)∧(w1.setCell ⟨b,0,none⟩ (.string (strOfNums t'))).cell? ⟨w.heap.size,3,none⟩=some (.slice da dn dc))∧
  (w1.setCell ⟨b,0,none⟩ (.string (strOfNums t'))).heap[w.heap.size+1]? =some (.cells #[.int .i64 0, .int .i64 0, .slice none 0 0, .slice none 0 0] 38 (0,0)):=by
 obtain⟨h1,h2⟩:=h.store t';have hl:=h.bl;exact⟨⟨h2.cell h.box.2.1 (fun e=>by have e:w.heap.size=b:=e;omega),h2.cell h.box.2.2.1 (fun e=>by have e:w.heap.size=b:=e;omega),h2.cell h.box.2.2.2 (fun e=>by have e:w.heap.size=b:=e;omega)⟩,h2.heap h.rx (fun e=>by have e:w.heap.size+1=b:=e;omega)⟩
theorem MoW.fin {w1:World}{k at_ n:Int}{da:Option Addr}{dn dc:Nat}(h:MoW w w1 b most t k at_ n da dn dc)(t':List Int):∃W,W=w1.setCell ⟨b,0,none⟩ (.string (strOfNums t'))∧
  (W.cell? ⟨w.heap.size+1,0,none⟩=some (.int .i64 0)∧W.cell? ⟨w.heap.size+1,1,none⟩=some (.int .i64 0)∧W.cell? ⟨w.heap.size+1,2,none⟩=some (.slice none 0 0)∧W.cell? ⟨w.heap.size+1,3,none⟩=some (.slice none 0 0))∧
  (W.frozen? ⟨w.heap.size+1,0,none⟩=false∧W.frozen? ⟨w.heap.size+1,1,none⟩=false∧W.frozen? ⟨w.heap.size+1,2,none⟩=false∧W.frozen? ⟨w.heap.size+1,3,none⟩=false)∧
  Hid (∀a:Act,a.tmps[4]?.getD undef= .pointer (some ⟨w.heap.size+1,0,none⟩)→a.defers=[]→bodyPost Tryz.prog Tryz.f12 (MoR w b most t' 0 0 [] []) .ret a ((((W.setCell ⟨w.heap.size+1,0,none⟩ (.int .i64 0)).setCell ⟨w.heap.size+1,1,none⟩ (.int .i64 0)).setCell ⟨w.heap.size+1,2,none⟩ (.slice none 0 0)).setCell ⟨w.heap.size+1,3,none⟩ (.slice none 0 0))):=by
 obtain⟨h1,h2⟩:=h.store t';obtain⟨g,f⟩:=Sz (h.kept t').2;exact⟨_,rfl,g,f,θ (fun a h4 hdf=>moEnd (d:=[]) (l:=[]) h.be h.sz h1 h.bl h2 h.rx Reads.nil Reads.nil (fun j e=>(e.elim aZ aZ).elim) 0 0 0 0 rfl rfl h4 hdf)⟩
theorem Ao{S:Nat→Prop}{w w':World}{k:IntKind}{a:Option Addr}{xs:List Int}(h:Chg S w w')(hr:Reads w k a xs)(hn:0<xs.length→∀ad,a=some ad→¬S ad.block):Reads w' k a xs:=fun i hi=>h.reads hr (hn E) i hi
theorem Kg{w:World}{a:Option Addr}{c:Nat}{xs:List Int}(h:Reads w .u8 a xs):(convert 32 9 (.slice a xs.length c)).run Tryz.prog w= .ok (.string (strOfNums xs)) w:=qP (P:=Tryz.prog) aE9 aF2 aF3 h
theorem tZ(h:MdT w b most t)(hl:t.length≤1000000){k:Nat}{n:Int}{da:Option Addr}{dc:Nat}{d:List Int}(hrd:Reads w .u8 da d)(hdb:0<d.length→∀ad,da=some ad→ad.block≠b)(hkn:k≤t.length)(h0:0≤most)(h9:most≤2147483648)(hroom:(d.length:Int)≤most-t.length)(hdl:d.length≤1000000):
  Calls Tryz.prog 12 #[.pointer (some ⟨b,0,none⟩),bD 1 k n da d.length dc] w (MoR w b most (fD t k d) 0 0 [] []):=by
 have HA:=θ (fun m=>moW h 1 k n da d.length dc m);have hq:=(h.below (fN w 1 k n da d.length dc).2.2.1).cells.1;have hq1:=(h.below (fN w 1 k n da d.length dc).2.2.1).cells.2;have HRD:=θ hrd;have HDB:=θ hdb;have hs:=aI9 t;have l1:=fun w=>slTo hkn w;have l2:=fun w=>Gm hkn w;have l3:=fun w=>addS (x:=t.take k) (y:=d) (by rw[at5];omega) w;have l4:=fun w=>addS (x:=t.take k++d) (y:=t.drop k) (by rw[as6,at5,as8];omega) w;have hw:IntKind.i64.wrap (most-(t.length:Int))=most-(t.length:Int):=ao4 _ E;have d1:decide (most-(t.length:Int)<(d.length:Int))=false:=aG9 E;have d2:¬((k:Int)<0):=E;have d3:¬((t.length:Int)<(k:Int)):=E;have d4:decide (t.length<k)=false:=aG9 E;clear h hrd hdb hkn h0 h9 hroom;unfold doW at hq hq1;unfold bD;have HCV:Hid (∀w1:World,Reads w1 .u8 da d→(convert 32 9 (.slice da d.length dc)).run Tryz.prog w1= .ok (.string (strOfNums d)) w1):=θ (fun w1 h=>Kg h);have HSI:Hid (strOfNums (t.take k++d++t.drop k)=strOfNums (fD t k d)):=rfl;generalize hst:strOfNums t=st at *;generalize strOfNums (t.take k)=s1 at *;generalize strOfNums (t.drop k)=s2 at *;generalize strOfNums (t.take k++d)=s3 at *;generalize strOfNums (t.take k++d++t.drop k)=s4 at *;generalize hsd:strOfNums d=sd at *;go_enter Tryz.func12,Tryz.ntmps12;go_wp2_with fail;go_quiet (fail);obtain⟨n1,rfl⟩:∃n1,n1=nq:=⟨_,rfl⟩;go_wp2_with fail;change Code.wp _ _ _ _ ((doW w 1 k n da d.length dc).drewN n1);have HW:=θ (HA.o n1);generalize (doW w 1 k n da d.length dc).drewN n1=w1 at *;have HW2:Hid (MoW w w1.drew b most t 1 k n da d.length dc):=θ (HW.o.drewN 1);have hcb:=HW2.o.md.cells.1;rw[hst]at hcb;have HSR:Hid (w1.drew.cell? ⟨w.heap.size,1,none⟩=some (.int .i64 k)∧w1.drew.cell? ⟨w.heap.size,3,none⟩=some (.slice da d.length dc)∧(convert 32 9 (.slice da d.length dc)).run Tryz.prog w1.drew= .ok (.string sd) w1.drew):=θ ⟨HW2.o.box.2.1,HW2.o.box.2.2.2,HCV.o _ (HRD.o.below HW2.o.be)⟩;have hfz:=aH3 w1.drew b 0 _ _ HW2.o.md;refine qZ (fun w'=>w'.cell? ⟨w.heap.size,1,none⟩=some (.int .i64 k)∧w'.cell? ⟨w.heap.size,3,none⟩=some (.slice da d.length dc)∧(convert 32 9 (.slice da d.length dc)).run Tryz.prog w'= .ok (.string sd) w'∧w'.cell? ⟨b,0,none⟩=some (.string st)) 22 Ek (⟨HSR.o.1,HSR.o.2.1,HSR.o.2.2,hcb⟩) (fun hh=>?_);refine rl 0 hh ?_;refine rl 1 hh ?_;refine rl 2 hh ?_;refine rl 3 hh ?_;refine rl 4 hh ?_;refine rl 5 hh ?_;refine rl 6 hh ?_;refine rl 7 hh ?_;refine rl 8 hh ?_;refine rl 9 hh ?_;refine rl 10 hh ?_;refine rl 11 hh ?_;refine rl 12 hh ?_;refine rl 13 hh ?_;refine rl 14 hh ?_;refine rl 15 hh ?_;refine rl 16 hh ?_;refine rl 17 hh ?_;refine rl 18 hh ?_;refine rl 19 hh ?_;refine rl 20 hh ?_;refine rl 21 hh ?_;refine tI rfl Ek Ek rfl ?_;clear hh;go_simp;obtain⟨w9,hw9,⟨g0,g1,g2,g3⟩,⟨f0,f1,f2,f3⟩,HFIN⟩:=HW2.o.fin (fD t k d);have e9:(w1.setCell ⟨b,0,none⟩ (.string (strOfNums (fD t k d)))).drew=w9:=hw9.symm;rw[HSI.o,e9];clear hw9 e9;go_wp2_with fail;exact HFIN.o _ rfl rfl
theorem Ij(h:MdT w b most t)(hl:t.length≤1000000){k n:Nat}{da:Option Addr}{dn dc:Nat}(hkn:k+n≤t.length):
  Calls Tryz.prog 12 #[.pointer (some ⟨b,0,none⟩),bD 2 k n da dn dc] w (MoR w b most (eC t k n) 0 0 [] []):=by
 have HA:=θ (fun m=>moW h 2 k n da dn dc m);obtain⟨m,hm⟩:∃m,k+n=m:=⟨_,rfl⟩;have hkm:(k:Int)+(n:Int)=(m:Int):=E;have hw3:IntKind.i64.wrap (m:Int)=(m:Int):=ao4 _ E;have hq:=(h.below (fN w 2 k n da dn dc).2.2.1).cells.1;have hs:=aI9 t;have l1:=fun w=>slTo (k:=k) (t:=t) E w;have l2:=fun w=>Gm (k:=m) (t:=t) E w;have l3:=fun w=>addS (x:=t.take k) (y:=t.drop m) (by rw[at5,as8];omega) w;have hw:IntKind.i64.wrap ((t.length:Int)-(k:Int))=(t.length:Int)-(k:Int):=ao4 _ E;have hw2:IntKind.i64.wrap ((k:Int)+(n:Int))=(m:Int):=by rw[ao4 _ E];omega
 have d1:decide ((t.length:Int)-(k:Int)<(n:Int))=false:=aG9 E;have d5:¬((t.length:Int)-(k:Int)<(n:Int)):=E;have d6:¬((n:Int)<0):=E;have d2:¬((k:Int)<0):=E;have d3:¬((t.length:Int)<(k:Int)):=E;have d4:decide (t.length<k)=false:=aG9 E;clear h;unfold doW at hq;unfold bD;have HSI:Hid (strOfNums (t.take k++t.drop m)=strOfNums (eC t k n)):=θ (by rw[←hm];rfl);generalize hst:strOfNums t=st at *;generalize strOfNums (t.take k)=s1 at *;generalize strOfNums (t.drop m)=s2 at *;generalize strOfNums (t.take k++t.drop m)=s4 at *;go_enter Tryz.func12,Tryz.ntmps12;go_wp2_with fail;change Code.wp _ _ _ _ ((doW w 2 k n da dn dc).drewN 0);have HW:=θ (HA.o 0);generalize (doW w 2 k n da dn dc).drewN 0=w1 at *;have HW2:Hid (MoW w w1.drew b most t 2 k n da dn dc):=θ (HW.o.drewN 1);have hcb:=HW2.o.md.cells.1;rw[hst]at hcb;have HSR:Hid (w1.drew.cell? ⟨w.heap.size,1,none⟩=some (.int .i64 k)∧w1.drew.cell? ⟨w.heap.size,2,none⟩=some (.int .i64 n)):=θ ⟨HW2.o.box.2.1,HW2.o.box.2.2.1⟩;have hfz:=aH3 w1.drew b 0 _ _ HW2.o.md;refine qZ (fun w'=>w'.cell? ⟨w.heap.size,1,none⟩=some (.int .i64 k)∧w'.cell? ⟨w.heap.size,2,none⟩=some (.int .i64 n)∧w'.cell? ⟨b,0,none⟩=some (.string st)) 21 Ek (⟨HSR.o.1,HSR.o.2,hcb⟩) (fun hh=>?_);refine rl 0 hh ?_;refine rl 1 hh ?_;refine rl 2 hh ?_;refine rl 3 hh ?_;refine rl 4 hh ?_;refine rl 5 hh ?_;refine rl 6 hh ?_;refine rl 7 hh ?_;refine rl 8 hh ?_;refine rl 9 hh ?_;refine rl 10 hh ?_;refine rl 11 hh ?_;refine rl 12 hh ?_;refine rl 13 hh ?_;refine rl 14 hh ?_;refine rl 15 hh ?_;refine rl 16 hh ?_;refine rl 17 hh ?_;refine rl 18 hh ?_;refine rl 19 hh ?_;refine rl 20 hh ?_;refine tI rfl Ek Ek rfl ?_;clear hh;go_simp;obtain⟨w9,hw9,⟨g0,g1,g2,g3⟩,⟨f0,f1,f2,f3⟩,HFIN⟩:=HW2.o.fin (eC t k n);have e9:(w1.setCell ⟨b,0,none⟩ (.string (strOfNums (eC t k n)))).drew=w9:=hw9.symm;rw[HSI.o,e9];clear hw9 e9;go_wp2_with fail;exact HFIN.o _ rfl rfl
theorem Xo(h:MdT w b most t)(hl:t.length≤1000000){k:Nat}{n:Int}{da:Option Addr}{dc:Nat}{d:List Int}(hrd:Reads w .u8 da d)(hdb:0<d.length→∀ad,da=some ad→ad.block≠b)(hkn:k+d.length≤t.length):
  Calls Tryz.prog 12 #[.pointer (some ⟨b,0,none⟩),bD 3 k n da d.length dc] w (MoR w b most (dD t k d) 0 0 [] []):=by
 have HA:=θ (fun m=>moW h 3 k n da d.length dc m);obtain⟨m,hm⟩:∃m,k+d.length=m:=⟨_,rfl⟩;have hkm:(k:Int)+(d.length:Int)=(m:Int):=E;have hw3:IntKind.i64.wrap (m:Int)=(m:Int):=ao4 _ E;have hq:=(h.below (fN w 3 k n da d.length dc).2.2.1).cells.1;have HRD:=θ hrd;have HDB:=θ hdb;have hs:=aI9 t;have l1:=fun w=>slTo (k:=k) (t:=t) E w;have l2:=fun w=>Gm (k:=m) (t:=t) E w;have l3:=fun w=>addS (x:=t.take k) (y:=d) (by rw[at5];omega) w;have l4:=fun w=>addS (x:=t.take k++d) (y:=t.drop m) (by rw[as6,at5,as8];omega) w;have hw:IntKind.i64.wrap ((t.length:Int)-(k:Int))=(t.length:Int)-(k:Int):=ao4 _ E;have hw2:IntKind.i64.wrap ((k:Int)+(d.length:Int))=(m:Int):=by rw[ao4 _ E];omega
 have d5:¬((t.length:Int)-(k:Int)<(d.length:Int)):=E;have d1:decide ((t.length:Int)-(k:Int)<(d.length:Int))=false:=aG9 E;have d2:¬((k:Int)<0):=E;have d3:¬((t.length:Int)<(k:Int)):=E;have d4:decide (t.length<k)=false:=aG9 E;clear h hrd hdb;unfold doW at hq;unfold bD;have HCV:Hid (∀w1:World,Reads w1 .u8 da d→(convert 32 9 (.slice da d.length dc)).run Tryz.prog w1= .ok (.string (strOfNums d)) w1):=θ (fun w1 h=>Kg h);have HSI:Hid (strOfNums (t.take k++d++t.drop m)=strOfNums (dD t k d)):=θ (by rw[←hm];rfl);generalize hst:strOfNums t=st at *;generalize strOfNums (t.take k)=s1 at *;generalize strOfNums (t.drop m)=s2 at *;generalize strOfNums (t.take k++d)=s3 at *;generalize strOfNums (t.take k++d++t.drop m)=s4 at *;generalize hsd:strOfNums d=sd at *;go_enter Tryz.func12,Tryz.ntmps12;go_wp2_with fail;change Code.wp _ _ _ _ ((doW w 3 k n da d.length dc).drewN 0);have HW:=θ (HA.o 0);generalize (doW w 3 k n da d.length dc).drewN 0=w1 at *;have HW2:Hid (MoW w w1.drew b most t 3 k n da d.length dc):=θ (HW.o.drewN 1);have hcb:=HW2.o.md.cells.1;rw[hst]at hcb;have HSR:Hid (w1.drew.cell? ⟨w.heap.size,1,none⟩=some (.int .i64 k)∧w1.drew.cell? ⟨w.heap.size,3,none⟩=some (.slice da d.length dc)∧(convert 32 9 (.slice da d.length dc)).run Tryz.prog w1.drew= .ok (.string sd) w1.drew):=θ ⟨HW2.o.box.2.1,HW2.o.box.2.2.2,HCV.o _ (HRD.o.below HW2.o.be)⟩;have hfz:=aH3 w1.drew b 0 _ _ HW2.o.md;refine qZ (fun w'=>w'.cell? ⟨w.heap.size,1,none⟩=some (.int .i64 k)∧w'.cell? ⟨w.heap.size,3,none⟩=some (.slice da d.length dc)∧(convert 32 9 (.slice da d.length dc)).run Tryz.prog w'= .ok (.string sd) w'∧w'.cell? ⟨b,0,none⟩=some (.string st)) 26 Ek (⟨HSR.o.1,HSR.o.2.1,HSR.o.2.2,hcb⟩) (fun hh=>?_);refine rl 0 hh ?_;refine rl 1 hh ?_;refine rl 2 hh ?_;refine rl 3 hh ?_;refine rl 4 hh ?_;refine rl 5 hh ?_;refine rl 6 hh ?_;refine rl 7 hh ?_;refine rl 8 hh ?_;refine rl 9 hh ?_;refine rl 10 hh ?_;refine rl 11 hh ?_;refine rl 12 hh ?_;refine rl 13 hh ?_;refine rl 14 hh ?_;refine rl 15 hh ?_;refine rl 16 hh ?_;refine rl 17 hh ?_;refine rl 18 hh ?_;refine rl 19 hh ?_;refine rl 20 hh ?_;refine rl 21 hh ?_;refine rl 22 hh ?_;refine rl 23 hh ?_;refine rl 24 hh ?_;refine rl 25 hh ?_;refine tI rfl Ek Ek rfl ?_;clear hh;go_simp;obtain⟨w9,hw9,⟨g0,g1,g2,g3⟩,⟨f0,f1,f2,f3⟩,HFIN⟩:=HW2.o.fin (dD t k d);have e9:(w1.setCell ⟨b,0,none⟩ (.string (strOfNums (dD t k d)))).drew=w9:=hw9.symm;rw[HSI.o,e9];clear hw9 e9;go_wp2_with fail;exact HFIN.o _ rfl rfl
end
structure TpS (B:Nat) (w0 w:World) (q b ra:Nat) (most:Int) (ts t:List Int) (C:Nat) (Z:Nat→Prop):Prop where
 st:∃(X:Nat→Prop) (c:Nat),c≤C∧StT B X w q ra most ts c∧X b∧∀j,Z j→X j
 md:MdT w b most t
 le:B≤b
 bl:Below B w0 w
def zB(Z:Nat→Prop)(b:Nat)(j:Nat):Prop:=Z j∨j=b
theorem Gs{most:Int}{t d:List Int}{k:Nat}{n:Int}(hk:k≤t.length)(h:(d.length:Int)≤most-t.length):aK most t 1 k n d=⟨fD t k d,0,0,[],[]⟩:=by
 have e:cN t k 0=true:=aH1 ⟨E,E,E,E⟩;unfold aK;rw[aH9 rfl,aH9 e,aH9 h,ao2]
theorem Ue{most:Int}{t d:List Int}{k n:Nat}(h:k+n≤t.length):aK most t 2 k n d=⟨eC t k n,0,0,[],[]⟩:=by
 have e:cN t k n=true:=aH1 ⟨E,E,E,E⟩;unfold aK;rw[aH8 Ed,aH9 rfl,aH9 e,ao2,ao2]
theorem Of{most:Int}{t d:List Int}{k:Nat}{n:Int}(h:k+d.length≤t.length):aK most t 3 k n d=⟨dD t k d,0,0,[],[]⟩:=by
 have e:cN t k d.length=true:=aH1 ⟨E,E,E,E⟩;unfold aK;rw[aH8 Ed,aH8 Ed,aH9 rfl,aH9 e,ao2]
theorem Nm{w:World}{k:IntKind}{a:Option Addr}{xs:List Int}(h:Reads w k a xs)(n:Nat):Reads w k a (xs.take n):=fun i hi=>by
 rw[at5]at hi;obtain⟨b,off,e,hb,hc⟩:=h i E;refine⟨b,off,e,hb,fun j hj=>?_⟩;rw[at5]at hj;rw[hc j E,ar9,aH9 E]
theorem argLow{w:World}{k:IntKind}{a:Option Addr}{c:Nat}{d:List Int}(h:ArgI k w a c d)(h0:0<d.length):∀ad,a=some ad→ad.block<w.heap.size:=fun ad e=>by
 obtain⟨b,off,rfl,hb,_⟩:=h.reads 0 h0;injection e with e
 subst e;exact hb
section
variable {B:Nat}{Z Z':Nat→Prop}{w0 w w':World}{q b ra:Nat}{most:Int}{ts t:List Int}{C C':Nat}
theorem TpS.size (h:TpS B w0 w q b ra most ts t C Z):B≤w.heap.size:=by obtain⟨X,c,_,h1,_⟩:=h.st;exact h1.le
theorem TpS.mono (h:TpS B w0 w q b ra most ts t C Z)(hz:∀j,Z' j→Z j)(hC:C≤C'):TpS B w0 w q b ra most ts t C' Z':=by
 obtain⟨⟨X,c,h1,h2,h3,h4⟩,h5,h6,h7⟩:=h;exact⟨⟨X,c,E,h2,h3,fun j hj=>h4 j (hz j hj)⟩,h5,h6,h7⟩
theorem TpS.add (h:TpS B w0 w q b ra most ts t C Z)(hb:Below w.heap.size w w')(hz:∀j,Z' j→Z j∨(w.heap.size≤j∧j<w'.heap.size)):TpS B w0 w' q b ra most ts t C Z':=by
 have hs:=h.size;obtain⟨⟨X,c,h1,h2,h3,h4⟩,h5,h6,h7⟩:=h;exact⟨⟨_,c,h1,h2.less hb (fun j e=>e),Ei h3,fun j hj=>(hz j hj).imp (h4 j) id⟩,h5.below hb,h6,h7.trans (hb.mono hs)⟩
theorem TpS.below (h:TpS B w0 w q b ra most ts t C Z)(hb:Below w.heap.size w w'):TpS B w0 w' q b ra most ts t C Z:=h.add hb (fun j e=>Ei e)
theorem TpS.drewN (h:TpS B w0 w q b ra most ts t C Z)(n:Nat):TpS B w0 (w.drewN n) q b ra most ts t C Z:=h.below ⟨rfl,rfl,rfl,aA5 _,fun _ _=>rfl⟩
theorem TpS.fine (h:TpS B w0 w q b ra most ts t C Z)(s:ByteArray)(hs:bP s=ts):
  Calls Tryz.prog 16 #[.pointer (some ⟨q,0,none⟩), .string s] w fun e w'=>e= .returned (.bool true)∧TpS B w0 w' q b ra most ts t C Z∧Chg (exT B (zB Z b)) w w':=by
 have hsz:=h.size;obtain⟨⟨X,c,h1,h2,h3,h4⟩,h5,h6,h7⟩:=h;refine(Ea h2 s hs h2.byte.2).mono ?_;rintro e w' ⟨rfl,h8,h9⟩;have h10:Chg (exT B (zB Z b)) w w':=h9.mono (fun j e=>bS (fun k hk=>hk.elim (h4 k) (fun e=>e▸h3)) e);exact⟨rfl,⟨⟨X,c,h1,h8,h3,h4⟩,h5.chg h9 (fun e=>e.2 h3),h6,h7.trans (eE h10 hsz)⟩,h10⟩
theorem TpS.sdo (h:TpS B w0 w q b ra most ts t C Z)(hTab:BitTab w)(htl:0<B){k at_ n:Int}{da:Option Addr}{dc:Nat}{d:List Int}(hrd:Reads w .u8 da d)(hnil:da=none→d.length=0∧dc=0)(hda:0<d.length→∀ad,da=some ad→ad.block<B∨Z ad.block)(hby:aU d)
  (h0:0≤most) (h9:most≤10000) (ht:(ts.length:Int)≤most) (hd9:d.length≤10000) (hc:C+eV ts k n d+ts.length+d.length+10≤1000000) (h8:k≠8):
  Calls Tryz.prog 11 #[.pointer (some ⟨q,0,none⟩),bD k at_ n da d.length dc] w fun e w'=>∃ea ec pa pc,e= .returned (.agg #[.int .i64 (aK most ts k at_ n d).code, .int .i64 (aK most ts k at_ n d).n, .slice ea (aK most ts k at_ n d).d.length ec, .slice pa (aK most ts k at_ n d).l.length pc])∧
   Reads w' .u8 ea (aK most ts k at_ n d).d∧Reads w' .i64 pa (aK most ts k at_ n d).l∧TpS B w0 w' q b ra most (aK most ts k at_ n d).t t (C+eV ts k n d) (fun j=>Z j∨cP ea j∨cP pa j)∧Chg (exT B (zB Z b)) w w'∧∀j,cP ea j∨cP pa j→w.heap.size≤j:=by
 have hsz:=h.size;obtain⟨⟨X,c,h1,h2,h3,h4⟩,h5,h6,h7⟩:=h;refine(Gq h2 hTab htl hrd hnil (fun h0 ad e hx=>(hda h0 ad e).elim (fun hl=>by have :=hx.1;omega) (fun hz=>hx.2 (h4 _ hz))) hby h0 h9 ht hd9 E h8).mono ?_;rintro e w' ⟨ea,ec,pa,pc,rfl,hr1,hr2,⟨c',hc',hst⟩,hch,hv⟩;have h10:Chg (exT B (zB Z b)) w w':=hch.mono (fun j e=>bS (fun k hk=>hk.elim (h4 k) (fun e=>e▸h3)) e);exact⟨ea,ec,pa,pc,rfl,hr1,hr2,⟨⟨_,c',E,hst,Ei h3,fun j hj=>hj.elim (fun e=>Ei (h4 j e)) Ej⟩,h5.chg hch (fun e=>e.2 h3),h6,h7.trans (eE h10 hsz)⟩,h10,hv⟩
theorem TpS.mdo (h:TpS B w0 w q b ra most ts t C Z){t':List Int}{code n:Int}{d l:List Int}{e:Ending}(hm:MoR w b most t' code n d l e w'):
  ∃da dc pa pc,e= .returned (.agg #[.int .i64 code, .int .i64 n, .slice da d.length dc, .slice pa l.length pc])∧Reads w' .u8 da d∧Reads w' .i64 pa l∧TpS B w0 w' q b ra most ts t' C Z∧Chg (fun j=>j=b) w w':=by
 have hsz:=h.size;obtain⟨⟨X,c,h1,h2,h3,h4⟩,h5,h6,h7⟩:=h;obtain⟨da,dc,pa,pc,rfl,hr1,hr2,hmd,hch⟩:=hm;exact⟨da,dc,pa,pc,rfl,hr1,hr2,⟨⟨_,c,h1,h2.aside hch (fun j e1 _ e2=>e1.2 (e2▸h3)),Ei h3,fun j hj=>Ei (h4 j hj)⟩,hmd,h6,h7.trans (hch.below (fun j e=>by subst e;exact h6) hsz)⟩,hch⟩
end
theorem Qj{α:Type}(f:α→List Value)(hf:∀x,(f x).length=4):∀(ys:List α) (i:Nat) (o:α) (j:Nat),ys[i]? =some o→j<4→(ys.flatMap f)[i*4+j]? =(f o)[j]?
 | [],i,o,j,h,_=>by simp at h
 | y::ys,0,o,j,h,hj=>by
  simp only[List.getElem?_cons_zero,aD4]at h;subst h;rw[aq7,aq9 (by rw[hf];omega),aC9,aC7]
 | y::ys,i+1,o,j,h,hj=>by
  rw[ar1]at h;rw[aq7,ar0 (by rw[hf];omega),hf,show (i+1)*4+j-4=i*4+j by omega];exact Qj f hf ys i o j h hj
theorem Ac{w:World}{base n c:Nat}{a:Option Addr}{rs:List RsR}(h:w.ownsRow base 38 4 (.slice a n c) n (rs.flatMap RsR.cells)){i:Nat}{r:RsR}(hi:rs[i]? =some r):
  ∃g:Nat,a=some ⟨g,0,none⟩∧g<w.heap.size∧w.cell? ⟨g,i*4,none⟩=some (.int .i64 r.o.code)∧w.cell? ⟨g,i*4+1,none⟩=some (.int .i64 r.o.n)∧
   w.cell? ⟨g,i*4+2,none⟩=some (.slice r.da r.o.d.length r.dc)∧w.cell? ⟨g,i*4+3,none⟩=some (.slice r.pa r.o.l.length r.pc):=by
 have hlt:=(ar5.1 hi).1;obtain⟨hl,hh⟩:=h;have hfl:(rs.flatMap RsR.cells).length=rs.length*4:=by
  clear hi hl hh hlt;induction rs with
  | nil=>rfl
  | cons x rs ih=>rw[aq7,as6,ih,show x.cells.length=4 from rfl,as7];omega
 rcases hh with ⟨_,h0⟩ | ⟨g,cap,cur,hv,hb,hg,hcc,hm,hs,ht⟩
 ·omega
 ·injection hv with h1 h2 h3
  have key:∀j u,j<4→r.cells[j]? =some u→w.cell? ⟨g,i*4+j,none⟩=some u:=by
   intro j u hj hu;have h4:=Qj RsR.cells (fun _=>rfl) rs i r j hi hj;rw[hu,←ht,ar9,aH9 E]at h4;rw[aG7 w g (i*4+j) cur _ (0,0) hg];simpa using h4
  exact⟨g,h1,(am0.1 hg).1,key 0 _ E rfl,key 1 _ E rfl,key 2 _ E rfl,key 3 _ E rfl⟩
theorem Ly(w:World)(C:Array Value)(n c g:Nat)(hg:g=w.heap.size):(convert 32 32 (.slice (some ⟨g,0,none⟩) n c)).run Tryz.prog (w.alloc (.cells C 5))= .ok (.slice (some ⟨g,0,none⟩) n c) (w.alloc (.cells C 5 (C.size,C.size+1))):=by
 subst hg;exact Lib.run_convert_bytes_const (P:=Tryz.prog) w 32 5 C n c aE9 aF2
def zG(a0 a1 a2:Option Addr):List Stp:=[⟨1,0,0,⟨a0,6,[98,97,110,97,110,97]⟩⟩,⟨6,0,0,⟨a1,3,[97,110,97]⟩⟩,⟨7,0,0,⟨a2,3,[97,110,97]⟩⟩,⟨5,1,3,⟨none,0,[]⟩⟩]
theorem ak9(a0 a1 a2:Option Addr):fI 20 [] (zG a0 a1 a2)=[98,97,110,97,110,97]:=Ek
theorem ak8(a0 a1 a2:Option Addr):sJ 20 [] (zG a0 a1 a2)=[⟨[98,97,110,97,110,97],0,0,[],[]⟩,⟨[98,97,110,97,110,97],0,2,[],[]⟩,⟨[98,97,110,97,110,97],0,2,[],[1,3]⟩,⟨[98,97,110,97,110,97],0,0,[97,110,97],[]⟩]:=Ek
theorem oB{w:World}{b:Nat}{C:Array Value}{e:TypeId}{fz:Nat×Nat}{k:IntKind}{xs:List Int}(h:w.heap[b]? =some (.cells C e fz))(hx:C=(xs.map (Value.int k)).toArray):Reads w k (some ⟨b,0,none⟩) xs:=fun i hi=>
 ⟨b,0,rfl,(am0.1 h).1,fun j hj=>by
  rw[aC7,aG7 w b j _ _ _ h,hx]
  simp[hj]⟩
def fL:Obj:= .cells #[.int .u8 98, .int .u8 97, .int .u8 110, .int .u8 97, .int .u8 110, .int .u8 97] 5 (6,7)
def dQ:Obj:= .cells #[.int .u8 97, .int .u8 110, .int .u8 97] 5 (3,4)
def zF(s:Nat):Obj:= .cells #[.int .i64 1, .int .i64 0, .int .i64 0, .slice (some ⟨s,0,none⟩) 6 6, .int .i64 6, .int .i64 0, .int .i64 0, .slice (some ⟨s+1,0,none⟩) 3 3, .int .i64 7, .int .i64 0, .int .i64 0, .slice (some ⟨s+1+1,0,none⟩) 3 3, .int .i64 5, .int .i64 1, .int .i64 3, .slice none 0 0] 34
def dF(w:World):World:=(((w.alloc fL).alloc dQ).alloc dQ).alloc (zF w.heap.size)
def gD(s:Nat):List Stp:=zG (some ⟨s,0,none⟩) (some ⟨s+1,0,none⟩) (some ⟨s+1+1,0,none⟩)
theorem Js(w:World):Below w.heap.size w (dF w)∧(dF w).heap.size=w.heap.size+4∧(dF w).heap[w.heap.size]? =some fL∧(dF w).heap[w.heap.size+1]? =some dQ∧(dF w).heap[w.heap.size+1+1]? =some dQ∧(dF w).heap[w.heap.size+1+1+1]? =some (zF w.heap.size):=by
 have b1:=aC w fL;have b2:=aC (w.alloc fL) dQ;have b3:=aC ((w.alloc fL).alloc dQ) dQ;have b4:=aC (((w.alloc fL).alloc dQ).alloc dQ) (zF w.heap.size);have s1:(w.alloc fL).heap.size=w.heap.size+1:=aG3 _ _;have s2:((w.alloc fL).alloc dQ).heap.size=w.heap.size+1+1:=by rw[aG3,s1]
 have s3:(((w.alloc fL).alloc dQ).alloc dQ).heap.size=w.heap.size+1+1+1:=by rw[aG3,s2]
 have k:∀{W W':World} {b:Nat} {o:Obj},W.heap[b]? =some o→Below W.heap.size W W'→W'.heap[b]? =some o:=fun h hb=>(Chg.of_below (S:=fun _=>False) hb).heap h (fun e=>e);have n1:=aH5 w fL;have n2:=aH5 (w.alloc fL) dQ;have n3:=aH5 ((w.alloc fL).alloc dQ) dQ;have n4:=aH5 (((w.alloc fL).alloc dQ).alloc dQ) (zF w.heap.size);rw[s1]at n2;rw[s2]at n3;rw[s3]at n4;refine⟨b1.trans ((b2.mono E).trans ((b3.mono E).trans (b4.mono E))),?_,k (k (k n1 b2) b3) b4,k (k n2 b3) b4,k n3 b4,n4⟩;unfold dF;rw[aG3,s3]
theorem Jt(w:World)(hT:BitTab w):Calls Tryz.prog 9 #[] w fun e w'=>e= .returned (.bool true)∧Below w.heap.size w w':=by
 have HN:=θ (Ce (most:=20) (ra:=4) E E E E w);have HT:=θ hT;clear hT;have kc:=fun(w:World) (C:Array Value) (n c g:Nat) (hg:g=w.heap.size)=>Ly w C n c g hg;go_enter Tryz.func9,Tryz.ntmps9;go_wp2_with fail;refine HN.o.mono ?_;rintro e w1 ⟨q,rfl,hst,hb1⟩;have HST:=θ hst;have HB1:=θ hb1;clear hst hb1 HN;go_wp2_with fail;change Calls _ _ #[_, .slice _ (gD w1.heap.size).length 4] (dF w1) _;obtain⟨hbW,hsW,h0,h1,h2,h3⟩:=Js w1;have hr0:Reads (dF w1) .u8 (some ⟨w1.heap.size,0,none⟩) [98,97,110,97,110,97]:=oB h0 rfl;have hr1:Reads (dF w1) .u8 (some ⟨w1.heap.size+1,0,none⟩) [97,110,97]:=oB h1 rfl;have hr2:Reads (dF w1) .u8 (some ⟨w1.heap.size+1+1,0,none⟩) [97,110,97]:=oB h2 rfl;have hlt3:=(am0.1 h3).1;have hrs:RdS (dF w1) (some ⟨w1.heap.size+1+1+1,0,none⟩) (gD w1.heap.size):=fun i hi=>⟨_,0,rfl,hlt3,fun j hj=>by
  rw[aC7]
  have c:=fun n=>aG7 (dF w1) (w1.heap.size+1+1+1) n _ _ _ h3
  rw[c,c,c,c]
  match j,hj with
  | 0,_=>exact⟨rfl,rfl,rfl,rfl⟩
  | 1,_=>exact⟨rfl,rfl,rfl,rfl⟩
  | 2,_=>exact⟨rfl,rfl,rfl,rfl⟩
  | 3,_=>exact⟨rfl,rfl,rfl,rfl⟩⟩
 have hX:∀b n:Nat,b=w1.heap.size+n→n<4→∀B,¬exT B (fun j=>w1.heap.size≤j∧j<(dF w1).heap.size) b:=fun b n e hn B hx=>hx.2 ⟨E,E⟩;have hst:=HST.o.less hbW (X':=fun j=>w1.heap.size≤j∧j<(dF w1).heap.size) (fun j e=>Ej e);have hmk:∀(k p n:Int) (b m cap:Nat) (l:List Int),Reads (dF w1) .u8 (some ⟨b,0,none⟩) l→b=w1.heap.size+m→m<4→aU l→l.length≤20→k≠8→∀s:Stp,s=⟨k,p,n,⟨some ⟨b,0,none⟩,cap,l⟩⟩→
   Reads (dF w1) .u8 s.r.a s.r.l∧(s.r.a=none→s.r.l.length=0∧s.r.cap=0)∧(∀ad,s.r.a=some ad→¬exT w.heap.size (fun j=>w1.heap.size≤j∧j<(dF w1).heap.size) ad.block)∧aU s.r.l∧s.r.l.length≤20∧s.k≠8:=by
  intro k p n b m cap l h1 h2 h3 h4 h5 h6 s e;subst e;exact⟨h1,(fun e=>nomatch e),(fun ad e=>by cases e;exact hX _ m h2 h3 _),h4,h5,h6⟩
 have htd:TdS w.heap.size (fun j=>w1.heap.size≤j∧j<(dF w1).heap.size) (dF w1) 20 [] 1 (gD w1.heap.size):=by
  refine⟨fun s hs=>?_,(HT.o.below' HB1.o).below' hbW,HT.o.lt,by have :=HB1.o.size;have :=hbW.size;omega,E,E,Es,by simp[gD,zG],E⟩;simp only[gD,zG,av9,ay0,aI5]at hs;rcases hs with e | e | e | e
  ·exact hmk 1 0 0 _ 0 6 _ hr0 rfl E (by intro x hx;simp at hx;omega) Ed Ed s e
  ·exact hmk 6 0 0 _ 1 3 _ hr1 rfl E (by intro x hx;simp at hx;omega) Ed Ed s e
  ·exact hmk 7 0 0 _ 2 3 _ hr2 rfl E (by intro x hx;simp at hx;omega) Ed Ed s e
  ·subst e;exact⟨Reads.nil,(fun _=>⟨rfl,rfl⟩),(fun ad e=>nomatch e),(fun x hx=>nomatch hx),Ed,Ed⟩
 have HRUN:=θ (Tk hst hrs (cap:=4) (fun ad e=>by cases e;exact hX _ 3 rfl E _) htd);have HB2:Hid (Below w.heap.size w (dF w1)):=θ (HB1.o.trans (hbW.mono HB1.o.size));have HLE:Hid (w.heap.size≤(dF w1).heap.size):=θ HB2.o.size;clear hbW hsW h0 h1 h2 h3 hr0 hr1 hr2 hlt3 hrs hX hst htd kc HT HST HB1;generalize dF w1=w2 at *;generalize (fun j=>w1.heap.size≤j∧j<w2.heap.size)=X at *;refine HRUN.o.mono ?_;rintro e w3 ⟨v,rfl,rs,Y,c,hJ⟩;obtain⟨a,cp,rfl,_,_⟩:=aM hJ.own;have htold:=hJ.told;rw[show (gD w1.heap.size).take (gD w1.heap.size).length=gD w1.heap.size from az2]at htold;unfold gD at htold;rw[ak8]at htold;obtain⟨r0,r1,r2,r3,rfl,e0,e1,e2,e3⟩:∃r0 r1 r2 r3:RsR,rs=[r0,r1,r2,r3]∧r0.o=⟨[98,97,110,97,110,97],0,0,[],[]⟩∧r1.o=⟨[98,97,110,97,110,97],0,2,[],[]⟩∧r2.o=⟨[98,97,110,97,110,97],0,2,[],[1,3]⟩∧r3.o=⟨[98,97,110,97,110,97],0,0,[97,110,97],[]⟩:=by
  match rs,htold with
  | [r0,r1,r2,r3],h=>simp only[at8,av5,List.cons.injEq,and_true]at h;exact⟨r0,r1,r2,r3,rfl,h⟩
 obtain⟨g,rfl,hg,_,c1,_,_⟩:=Ac hJ.own (i:=1) (r:=r1) rfl;obtain⟨_,hg2,_,_,_,_,c2⟩:=Ac hJ.own (i:=2) (r:=r2) rfl;injection hg2 with hg2
 injection hg2 with hg2 _ _
 subst hg2;obtain⟨_,hg3,_,_,_,c3,_⟩:=Ac hJ.own (i:=3) (r:=r3) rfl;injection hg3 with hg3
 injection hg3 with hg3 _ _
 subst hg3;have k2:=(hJ.ok r2 Es).2.1;have k3:=(hJ.ok r3 Es).1;rw[e1]at c1;rw[e2]at c2 k2;rw[e3]at c3 k3;obtain⟨b2,off2,hpa,hb2,hcs⟩:=k2.some Ed;have p0:=hcs 0 Ed;have p1:=hcs 1 Ed;rw[hpa]at c2;have kv:=qP (P:=Tryz.prog) (src:=32) (dst:=9) (c:=r3.dc) aE9 aF2 aF3 k3;rw[show strOfNums [97,110,97]={data:=#[97,110,97]} by decide]at kv;have hst3:=hJ.st;rw[show (gD w1.heap.size).take (gD w1.heap.size).length=gD w1.heap.size from az2]at hst3;unfold gD at hst3;rw[ak9]at hst3;have HFN:=θ (Ea hst3 {data:=#[98,97,110,97,110,97]} Ed Ed);have HB3:Hid (Below w.heap.size w w3):=θ (HB2.o.trans (hJ.chg.below (fun j e=>e.1) HLE.o));have HB3s:=θ hst3.le;have d1:w3.cell? ⟨g,5,none⟩=some (.int .i64 2):=c1;have d2:w3.cell? ⟨g,11,none⟩=some (.slice (some ⟨b2,off2,none⟩) 2 r2.pc):=c2;have d3:w3.cell? ⟨g,14,none⟩=some (.slice r3.da 3 r3.dc):=c3;have d4:w3.cell? ⟨b2,off2,none⟩=some (.int .i64 1):=p0;have d5:w3.cell? ⟨b2,off2+1,none⟩=some (.int .i64 3):=p1;have kv':(convert 32 9 (.slice r3.da 3 r3.dc)).run Tryz.prog w3= .ok (.string {data:=#[97,110,97]}) w3:=kv;rw[show (gD w1.heap.size).length=4 from rfl];clear htold hJ c1 c2 c3 p0 p1 hcs kv hst3 e0 e1 e2 e3 k2 k3 hpa hg hb2 HRUN HLE HB2;go_wp2_with fail;refine HFN.o.mono ?_;rintro e w4 ⟨rfl,_,hc⟩;have HB4:Hid (Below w.heap.size w w4):=θ (HB3.o.trans (eE hc HB3s.o));clear hc HFN d1 d2 d3 d4 d5 kv';go_wp2_with fail;go_ret;exact⟨rfl,HB4.o⟩
theorem TpS.start {w w1:World}{q ra:Nat}{most:Int}{c:Nat}(h:StT w.heap.size (fun _=>False) w1 q ra most [] c)(hb:Below w.heap.size w w1):
  TpS w.heap.size w (w1.alloc (.cells #[.string (strOfNums []), .int .i64 most] 31)) q w1.heap.size ra most [] [] c (fun _=>False):=by
 have hb2:=aC w1 (.cells #[.string (strOfNums []), .int .i64 most] 31);exact⟨⟨_,c,aA5 _,h.less hb2 (fun j e=>e),Ej ⟨aA5 _,Es⟩,fun j e=>e.elim⟩,aH5 w1 _,hb.size,hb.trans (hb2.mono hb.size)⟩
theorem Vo{w:World}{a:Option Addr}{c:Nat}{d:List Int}(h:ArgI .u8 w a c d):aU d:=fun x hx=>by
 obtain⟨i,hi⟩:=ar7 hx;have h1:=h.wf i (ar5.1 hi).1;rw[hi]at h1;simp[Lit.wf,IntKind.min,IntKind.max,IntKind.signed,IntKind.bits]at h1;omega
def StepAt(w:World)(x:Nat)(k at_ n:Int)(da:Option Addr)(dn dc:Nat):Prop:=w.heap[x]? =some (.cells #[.int .i64 k, .int .i64 at_, .int .i64 n, .slice da dn dc] 34 (0,0))
theorem StepAt.cells {w:World}{x:Nat}{k at_ n:Int}{da:Option Addr}{dn dc:Nat}(h:StepAt w x k at_ n da dn dc):w.cell? ⟨x,0,none⟩=some (.int .i64 k)∧w.cell? ⟨x,1,none⟩=some (.int .i64 at_)∧w.cell? ⟨x,2,none⟩=some (.int .i64 n)∧w.cell? ⟨x,3,none⟩=some (.slice da dn dc):=
 ⟨aG7 w _ 0 _ _ _ h,aG7 w _ 1 _ _ _ h,aG7 w _ 2 _ _ _ h,aG7 w _ 3 _ _ _ h⟩
section
variable {B:Nat}{Z:Nat→Prop}{w0 w w':World}{q b ra:Nat}{most:Int}{ts t:List Int}{C:Nat}
end
theorem Po{w W:World}(h:Below w.drew.heap.size w.drew W):Below w.heap.size w W:=⟨h.os,h.tape,h.output,h.size,h.block⟩
theorem stepB0{w:World}(o:Obj):Below w.heap.size w (w.drew.alloc o):=Po (aC _ _)
theorem stepB{w:World}(o:Obj):Below w.heap.size w (w.alloc o).drew:=aX (aC w o) 1
theorem Jc{most:Int}{t d:List Int}{k at_ n:Int}(hk:k=1∨k=2∨k=3):(aK most t k at_ n d).l=[]∧(aK most t k at_ n d).d=[]∧(aK most t k at_ n d).t.length≤t.length+d.length:=by
 rcases hk with rfl | rfl | rfl
 ·unfold aK;rw[aH9 rfl];by_cases h:cN t at_ 0=true
  ·rw[aH9 h];obtain⟨x,y,rfl,_,h3⟩:=eH h;split
   ·exact⟨rfl,rfl,by rw[ao2,show (⟨fD t x d,0,0,[],[]⟩:StR).t=fD t x d from rfl,rE E];omega⟩
   ·exact⟨rfl,rfl,aA4 _ _⟩
  ·rw[aH8 h];exact⟨rfl,rfl,aA4 _ _⟩
 ·unfold aK;rw[aH8 Ed,aH9 rfl];by_cases h:cN t at_ n=true
  ·rw[aH9 h];obtain⟨x,y,rfl,rfl,h3⟩:=eH h;exact⟨rfl,rfl,by rw[ao2,ao2,show (⟨eC t x y,0,0,[],[]⟩:StR).t=eC t x y from rfl,sP h3];omega⟩
  ·rw[aH8 h];exact⟨rfl,rfl,aA4 _ _⟩
 ·unfold aK;rw[aH8 Ed,aH8 Ed,aH9 rfl];by_cases h:cN t at_ d.length=true
  ·rw[aH9 h];obtain⟨x,y,rfl,h2,h3⟩:=eH h;exact⟨rfl,rfl,by rw[ao2,show (⟨dD t x d,0,0,[],[]⟩:StR).t=dD t x d from rfl,rF E];omega⟩
  ·rw[aH8 h];exact⟨rfl,rfl,aA4 _ _⟩
theorem Rk{w:World}{b:Nat}{most:Int}{t:List Int}(h:MdT w b most t)(hl:t.length≤1000000){k at_ n:Int}{da:Option Addr}{dc:Nat}{d:List Int}(hk:k=1∨k=2∨k=3)(hrd:Reads w .u8 da d)(hdb:0<d.length→∀ad,da=some ad→ad.block≠b)
  (h0:0≤most) (h9:most≤2147483648) (hroom:(d.length:Int)≤most-t.length) (hdl:d.length≤1000000):Calls Tryz.prog 12 #[.pointer (some ⟨b,0,none⟩),bD k at_ n da d.length dc] w
   (MoR w b most (aK most t k at_ n d).t (aK most t k at_ n d).code (aK most t k at_ n d).n (aK most t k at_ n d).d (aK most t k at_ n d).l):=by
 rcases hk with rfl | rfl | rfl
 ·by_cases hh:cN t at_ 0=true
  ·obtain⟨x,y,rfl,_,h3⟩:=eH hh;rw[Gs E hroom];exact tZ h hl hrd hdb E h0 h9 hroom hdl
  ·have e:aK most t 1 at_ n d=⟨t,2,0,[],[]⟩:=by unfold aK;rw[aH9 rfl,aH8 hh]
   rw[e];exact Xk h hl (by simpa using hh)
 ·by_cases hh:cN t at_ n=true
  ·obtain⟨x,y,rfl,rfl,h3⟩:=eH hh;rw[Ue h3];exact Ij h hl h3
  ·have e:aK most t 2 at_ n d=⟨t,2,0,[],[]⟩:=by unfold aK;rw[aH8 Ed,aH9 rfl,aH8 hh]
   rw[e];exact Xl h hl (by simpa using hh)
 ·by_cases hh:cN t at_ d.length=true
  ·obtain⟨x,y,rfl,h2,h3⟩:=eH hh;rw[Of E];exact Xo h hl hrd hdb E
  ·have e:aK most t 3 at_ n d=⟨t,2,0,[],[]⟩:=by unfold aK;rw[aH8 Ed,aH8 Ed,aH9 rfl,aH8 hh]
   rw[e];exact Xm h hl (by simpa using hh)
theorem walk_TopRepeats(w:World)(hT:BitTab w)(a0:Option Addr)(c0:Nat)(d:List Int)(w0:ArgI .u8 w a0 c0 d)(m:Int)(w1:(Lit.int .i64 m).wf=true)(a2:Option Addr)(c2:Nat)(z2:List Int)(w2:ArgI .i64 w a2 c2 z2):
  Calls Tryz.prog 6 #[.slice a0 d.length c0, .int .i64 m, .slice a2 z2.length c2] w fun e w'=>e= .returned (.bool true)∧Below w.heap.size w w':=by
 have HN:=θ (Ce (most:=200) (ra:=6) E E E E w);have HA:=θ w0;have HA2:=θ w2;have HTL:=θ hT.lt;have hzm:=aA6 w0.le w0.max;have hzm2:=aA6 w2.le w2.max;unfold maxLen at hzm hzm2;have HT:=θ hT;have HTD:Hid (∀w1,Below w.heap.size w w1→Calls Tryz.prog 9 #[] w1 fun e w'=>e= .returned (.bool true)∧Below w1.heap.size w1 w'):=θ (fun w1 hb=>Jt w1 (hT.below' hb));clear w0 w1 w2 hT;by_cases hbad:d.length<1∨5<d.length
 ·have HTD0:=θ (HTD.o w (am4 _ _));rcases hbad with hb | hb
  ·have d1:decide ((d.length:Int)<1)=true:=aH1 E;go_enter Tryz.func6,Tryz.ntmps6;go_wp2_with fail;refine HTD0.o.mono ?_;rintro e w2 ⟨rfl,hb2⟩;have HB2:=θ hb2;clear hb2;go_wp2_with fail;go_ret;exact⟨rfl,HB2.o⟩
  ·have d1:decide ((d.length:Int)<1)=false:=aG9 E;have d2:decide ((5:Int)<(d.length:Int))=true:=aH1 E;have d3:decide (5<d.length)=true:=aH1 E;go_enter Tryz.func6,Tryz.ntmps6;go_wp2_with fail;refine HTD0.o.mono ?_;rintro e w2 ⟨rfl,hb2⟩;have HB2:=θ hb2;clear hb2;go_wp2_with fail;go_ret;exact⟨rfl,HB2.o⟩
 ·have hd1:1≤d.length∧d.length≤5:=E;have d1:decide ((d.length:Int)<1)=false:=aG9 E;have d2:decide ((5:Int)<(d.length:Int))=false:=aG9 E;have d3:decide (5<d.length)=false:=aG9 E;have HLOW:Hid (∀ad,a0=some ad→ad.block<w.heap.size):=θ (argLow HA.o E);have HNIL:Hid (a0=none→d.length=0∧c0=0):=θ (fun e=>by have :=HA.o.nil e;have :=HA.o.le;omega);have HBYD:Hid (aU d):=θ (Vo HA.o);have HD:=θ hd1;clear hbad hd1;go_enter Tryz.func6,Tryz.ntmps6;go_wp2_with fail;clear d1 d2 d3;refine HN.o.mono ?_;rintro e w1 ⟨q,rfl,hst,hb1⟩;have HST:=θ hst;have HB1:=θ hb1;clear hst hb1 HN;go_wp2_with fail;have HTP:=θ (TpS.start HST.o HB1.o);clear HST;change Code.wp _ _ _ _ (w1.alloc (.cells #[.string (strOfNums []), .int .i64 200] 31));generalize w1.alloc (.cells #[.string (strOfNums []), .int .i64 200] 31)=w2 at *;obtain⟨b,hb⟩:∃b,w1.heap.size=b:=⟨_,rfl⟩;rw[hb]at HTP⊢;clear hb HB1;obtain⟨u,hu0,hu1,hu⟩:=u64r m;obtain⟨mm,hmm,hml⟩:∃mm:Nat,u%16=(mm:Int)∧mm<16:=⟨(u%16).toNat,E,E⟩;have hm3:u.tmod 16=(mm:Int):=by rw[ao1 hu0,hmm]
  have hm4:IntKind.u64.wrap (mm:Int)=(mm:Int):=by rw[ao3];omega
  have hm5:IntKind.i64.wrap (mm:Int)=(mm:Int):=ao4 _ E;have HM:=θ (And.intro hu (And.intro hmm (And.intro hm3 (And.intro hm4 hm5))));clear hu hmm hm3 hm4 hm5;go_loopw [10] (fun v wr=>∃(k:Nat) (t:List Int) (C:Nat),k≤mm∧v= .int .i64 k∧t.length≤5*k∧aU t∧C≤1+k*1000∧TpS w.heap.size w wr q b 6 200 t t C (fun _=>False)) (fun v _=>mm-(intOf v).toNat);case atStart=>exact⟨0,[],1,aC8 _,rfl,aA5 _,(fun x hx=>nomatch hx),aA5 _,HTP.o⟩
  case round=>as_aux_lemma=>
   clear HTP;obtain⟨k,t,C,hk,rfl,htl,hby,hC,hTP⟩:=hrel;obtain⟨hu,hmm,hm3,hm4,hm5⟩:=HM.o;have c1:=hTP.md.cells.1;have hszs:=aI9 t;by_cases hlt:k<mm
   ·have dl:decide ((k:Int)<(mm:Int))=true:=aH1 E;have dl2:decide (k<mm)=true:=aH1 hlt;have hW:=aC wr (.cells #[.int .i64 1, .int .i64 t.length, .int .i64 0, .slice a0 d.length c0] 34);have hSA:StepAt (wr.alloc (.cells #[.int .i64 1, .int .i64 t.length, .int .i64 0, .slice a0 d.length c0] 34)) wr.heap.size 1 t.length 0 a0 d.length c0:=aH5 wr _;have hT2:TpS w.heap.size w (wr.alloc (.cells #[.int .i64 1, .int .i64 t.length, .int .i64 0, .slice a0 d.length c0] 34)) q b 6 200 t t C (fun j=>j=wr.heap.size):=hTP.add hW (fun j e=>Ej ⟨E,by subst e;exact(am0.1 hSA).1⟩);have hcc:eV t 1 0 d≤1000:=by
     have :=aB5 HD.o.2 (show t.length+d.length+5≤200 by have :=HD.o;omega);show d.length*(t.length+d.length+5)≤1000;omega
    have hsf:aK 200 t 1 t.length 0 d=⟨fD t t.length d,0,0,[],[]⟩:=Gs (aA5 _) (by have :=HD.o;omega);have HR2:Hid (Reads (wr.alloc (.cells #[.int .i64 1, .int .i64 t.length, .int .i64 0, .slice a0 d.length c0] 34)) .u8 a0 d):=θ ((HA.o.reads.below hTP.bl).below hW);have HSD:=θ (hT2.sdo (HT.o.below hT2.bl HTL.o) HTL.o (k:=1) (at_:=t.length) (n:=0) (dc:=c0) HR2.o HNIL.o (fun h0 ad e=>Ei (HLOW.o ad e)) HBYD.o E E E (by have :=HD.o;omega) (by have :=HD.o;omega) E);rw[hsf]at HSD;have HSA2:=θ hSA;have HNX:Hid (t.length≤5*k∧C+eV t 1 0 d≤1+(k+1)*1000):=θ ⟨htl,E⟩;have HBY:=θ hby;have hfd:∀(w:World) (x0 x1 x2 x3:Value),(Instr.field 38 (.agg #[x0,x1,x2,x3]) 0).run Tryz.prog w= .ok x0 w:=fun w x0 x1 x2 x3=>Ek;obtain⟨e0,e1,e2,e3⟩:=hSA.cells;clear hTP hby hC htl hW hSA hT2 hcc hsf hmm HM;go_wp2_with fail;generalize wr.alloc (.cells #[.int .i64 1, .int .i64 t.length, .int .i64 0, .slice a0 d.length c0] 34)=W at *;generalize wr.heap.size=xb at *;refine HSD.o.mono ?_;rintro e w4 ⟨ea,ec,pa,pc,rfl,_,_,hT4,hc4,_⟩;have hSA4:StepAt w4 xb 1 t.length 0 a0 d.length c0:=hc4.heap HSA2.o (fun e=>e.2 (Ei rfl));obtain⟨e0,e1,e2,e3⟩:=hSA4.cells;have HMD:=θ (tZ (dc:=c0) (n:=0) hT4.md (by have :=HNX.o;omega) (Ao hc4 HR2.o (fun h0 ad e e2=>by have :=HLOW.o ad e;have :=e2.1;omega)) (fun h0 ad e=>by have :=HLOW.o ad e;have :=hT4.le;omega) (aA5 _) E E (by have :=HNX.o;have :=HD.o;omega) (by have :=HD.o;omega));have HT4:=θ hT4;clear hT4 hc4 hSA4 HSD HSA2;go_wp2_with fail;refine HMD.o.mono ?_;intro e w5 hm;obtain⟨_,_,_,_,rfl,_,_,hT5,_⟩:=HT4.o.mdo hm;have HT5:=θ hT5;clear hm hT5 HMD HT4;go_wp2_with fail;go_roundw;case rel=>exact⟨k+1,fD t t.length d,C+eV t 1 0 d,E,by go_num,by have :=HNX.o;have :=HD.o;rw[rE (aA5 _)];omega,gG (gG (jP HBY.o _) HBYD.o) (lX HBY.o _),HNX.o.2,HT5.o.mono (fun _ e=>e.elim) (aA5 _)⟩
    case measure=>simp[intOf];omega
   ·obtain rfl:k=mm:=E;have HTP:=θ hTP;have HBY:=θ hby;have HTC:Hid (t.length≤75∧C≤20000):=θ ⟨E,E⟩;clear hTP hby htl hC c1 hlt hk hml;go_wp2_with fail;clear hu hmm hm3 hm4 hm5 HM hu0 hu1;go_loopw [12] (fun v wx=>∃(k:Nat) (t:List Int) (C:Nat),k≤z2.length∧k≤6∧v= .int .i64 k∧t.length≤75+k∧aU t∧C≤20000+k*1000∧TpS w.heap.size w wx q b 6 200 t t C (fun _=>False)) (fun v _=>6-(intOf v).toNat);case atStart=>exact⟨0,t,C,aC8 _,aC8 _,rfl,HTC.o.1,HBY.o,HTC.o.2,HTP.o⟩
    case round=>as_aux_lemma=>
     clear HTP HBY HTC;obtain⟨k,t,C,hk,hk6,rfl,htl,hby,hC,hTP⟩:=hrel;have HTP:=θ hTP;clear hTP;go_upto_region 14 with fail
     go_cut [69]from 62 to 114 (fun v wx=>v= .bool (decide (k<z2.length∧k<6))∧wr=wx)
     case first=>as_aux_lemma=>
      by_cases h1:k<z2.length
      ·by_cases h2:k<6
       ·have d1:decide ((k:Int)<6)=true:=aH1 E;have d2:decide (k<6)=true:=aH1 E;have d3:decide (k<z2.length)=true:=aH1 h1;have d4:decide ((k:Int)<(z2.length:Int))=true:=aH1 E;have HV:Hid (decide (k<z2.length∧k<6)=true):=θ (aH1 ⟨h1,h2⟩);go_wp2_with fail;go_meet;case rel=>exact⟨by rw[HV.o],rfl⟩
       ·have d1:decide ((k:Int)<6)=false:=aG9 E;have d2:decide (k<6)=false:=aG9 E;have d3:decide (k<z2.length)=true:=aH1 h1;have d4:decide ((k:Int)<(z2.length:Int))=true:=aH1 E;have HV:Hid (decide (k<z2.length∧k<6)=false):=θ (aG9 (fun h=>h2 h.2));go_wp2_with fail;go_meet;case rel=>exact⟨by rw[HV.o],rfl⟩
      ·have d3:decide (k<z2.length)=false:=aG9 h1;have d4:decide ((k:Int)<(z2.length:Int))=false:=aG9 E;have HV:Hid (decide (k<z2.length∧k<6)=false):=θ (aG9 (fun h=>h1 h.1));go_wp2_with fail;go_meet;case rel=>exact⟨by rw[HV.o],rfl⟩
     case rest=>as_aux_lemma=>
     obtain⟨hv,rfl⟩:=hcut;have hTP:=HTP.o;clear HTP;by_cases hlt:k<z2.length∧k<6
     ·rw[aH1 hlt]at hv;subst hv;obtain⟨hlt,hlt6⟩:=hlt;obtain⟨b0,off,rfl,hbl,hcells⟩:=HA2.o.reads k hlt;have c1:=(hTP.bl.cell (p:=⟨b0,off+k,none⟩) hbl).trans (hcells k hlt);obtain⟨sp,hsp⟩:∃sp,z2[k]?.getD 0=sp:=⟨_,rfl⟩;rw[hsp]at c1;have c0':=hTP.md.cells.1;have hszs:=aI9 t;obtain⟨u,hu0,hu1,hu⟩:=u64r sp;obtain⟨kd,hkd,hkl⟩:∃kd:Nat,u%3=(kd:Int)∧kd<3:=⟨(u%3).toNat,E,E⟩;obtain⟨u3,hu3⟩:∃u3:Int,u/3=u3:=⟨_,rfl⟩;obtain⟨x,hx,hxl⟩:∃x:Nat,u3%((t.length:Int)+1)=(x:Int)∧x≤t.length:=⟨(u3%((t.length:Int)+1)).toNat,by have :=Int.emod_nonneg u3 (show (t.length:Int)+1≠0 by omega);omega,by have :=Int.emod_lt_of_pos u3 (show (0:Int)<(t.length:Int)+1 by omega);omega⟩;have hw1:IntKind.i64.wrap ((t.length:Int)+1)=(t.length:Int)+1:=ao4 _ E;have hw2:IntKind.u64.wrap ((t.length:Int)+1)=(t.length:Int)+1:=by rw[ao3];omega
      have hk3:u.tmod 3=(kd:Int):=by rw[ao1 hu0,hkd]
      have hk4:IntKind.u64.wrap (kd:Int)=(kd:Int):=by rw[ao3];omega
      have hk5:IntKind.i64.wrap (kd:Int)=(kd:Int):=ao4 _ E;have hk7:IntKind.i64.wrap (1+(kd:Int))=1+(kd:Int):=ao4 _ E;have hq3:u.tdiv 3=u3:=by rw[ao0 hu0,hu3]
      have hq4:IntKind.u64.wrap u3=u3:=by rw[ao3];omega
      have hx3:u3.tmod ((t.length:Int)+1)=(x:Int):=by rw[ao1 E,hx]
      have hx4:IntKind.u64.wrap (x:Int)=(x:Int):=by rw[ao3];omega
      have hx5:IntKind.i64.wrap (x:Int)=(x:Int):=ao4 _ E;have hne:((t.length:Int)+1==0)=false:=by rw[aG5];omega
      have hne2:((t.length:Int)+1=0)=False:=eq_false E;have k0:(0:Int)≤(k:Int):=E;have k1:(k:Int)<(z2.length:Int):=E;have hsl:∀w:World,(Instr.slice 32 (.slice a0 d.length c0) none (some (.int .i64 1)) none).run Tryz.prog w= .ok (.slice a0 1 c0) w:=fun w=>by
       have :=gA (P:=Tryz.prog) (w:=w) (t:=32) (a:=a0) (len:=d.length) (cap:=c0) (k:=1) aE9 Ek (by have :=HD.o;have :=HA.o.le;omega);exact this
      have HSB:Hid (∀W,Below wr.heap.size wr W→W.cell? ⟨b0,off+k,none⟩=some (.int .i64 sp)∧W.cell? ⟨b,0,none⟩=some (.string (strOfNums t))):=θ (fun W hW=>by
       have hs:=hTP.bl.size
       exact⟨(hW.cell (p:=⟨b0,off+k,none⟩) (by show b0<_;omega)).trans c1,(hW.cell (p:=⟨b,0,none⟩) hTP.md.lt).trans c0'⟩)
      have HTP:=θ hTP;have HBY:=θ hby;have HTL2:=θ (And.intro htl hC);clear hTP hby hcells hbl c1 c0' htl hC hx hkd hu3 hsp;generalize hst:strOfNums t=st at *;go_upto_region 16 with fail
      refine aE (fun w'=>w'.cell? ⟨b0,off+k,none⟩=some (.int .i64 sp)∧w'.cell? ⟨b,0,none⟩=some (.string st)) Ek (HSB.o _ ⟨rfl,rfl,rfl,aA5 _,fun _ _=>rfl⟩) (fun hh=>?_);refine rt 0 hh ?_;refine rt 1 hh ?_;refine rt 2 hh ?_;refine rt 3 hh ?_;refine rt 4 hh ?_;refine rt 5 hh ?_;refine rt 6 hh ?_;refine rt 7 hh ?_;refine rt 8 hh ?_;refine rt 9 hh ?_;refine rt 10 hh ?_;refine rt 11 hh ?_;refine rt 12 hh ?_;refine rt 13 hh ?_;refine rt 14 hh ?_;refine rt 15 hh ?_;refine rt 16 hh ?_;refine rt 17 hh ?_;refine rt 18 hh ?_;refine rt 19 hh ?_;refine rt 20 hh ?_;refine rt 21 hh ?_;refine rt 22 hh ?_;refine rt 23 hh ?_;refine rt 24 hh ?_;refine rt 25 hh ?_;refine rg 26 fun κ hK=>?_;go_simp;refine hK.out _ _ (HSB.o _ (stepB0 _)) ?_;intro hh;try simp only[pt]
      refine rg 27 fun κ hK=>?_;go_simp;refine hK.out _ _ (HSB.o _ (stepB _)) ?_;intro hh;try simp only[pt]
      refine rz ?_;clear hh;have hW:=stepB (w:=wr) (.cells #[.int .i64 (1+(kd:Int)), .int .i64 x, .int .i64 1, .slice a0 1 c0] 34);have hSA:StepAt (wr.alloc (.cells #[.int .i64 (1+(kd:Int)), .int .i64 x, .int .i64 1, .slice a0 1 c0] 34)).drew wr.heap.size (1+(kd:Int)) x 1 a0 1 c0:=aH5 wr _;generalize (wr.alloc (.cells #[.int .i64 (1+(kd:Int)), .int .i64 x, .int .i64 1, .slice a0 1 c0] 34)).drew=W at *;have hT1:TpS w.heap.size w W q b 6 200 t t C (fun j=>j=wr.heap.size):=HTP.o.add hW (fun j e=>Ej ⟨E,by subst e;exact(am0.1 hSA).1⟩);have HR1:Hid (Reads W .u8 a0 (d.take 1)):=θ (Nm ((HA.o.reads.below HTP.o.bl).below hW) 1);have HXL:=θ hxl;have HXB:Hid (wr.heap.size≠b):=θ (by have :=HTP.o.md.lt;omega);have HBL:Hid (b<W.heap.size):=θ hT1.md.lt;clear hu hu0 hu1 hk3 hk4 hk5 hk7 hq3 hq4 hx3 hx4 hx5 hw1 hw2 hne hne2 HSB k0 k1 hsl hW hszs hxl;generalize wr.heap.size=xb at *;have HD1:Hid ((d.take 1).length=1):=θ (by rw[at5];have :=HD.o;omega);have hby1:aU (d.take 1):=jP HBYD.o 1;obtain⟨dd,hdd⟩:∃dd,d.take 1=dd:=⟨_,rfl⟩;rw[hdd]at HR1 HD1 hby1;clear hdd;obtain⟨kk,hkk⟩:∃kk,(1:Int)+kd=kk:=⟨_,rfl⟩;rw[hkk]at hSA⊢;have hk123:kk=1∨kk=2∨kk=3:=E;have HTLC:=θ (And.intro HTL2.o.1 (And.intro HTL2.o.2 hlt6));have htl:=HTL2.o.1;have hC:=HTL2.o.2;have hcc:eV t kk 1 dd≤100:=by
       have h1:=HD1.o;unfold eV;split
       ·have :=aB5 (show min (1:Int).toNat t.length≤1 by omega) (aA5 (t.length+5));omega
       ·rw[h1];omega
      obtain⟨o,ho⟩:∃o,aK 200 t kk x 1 dd=o:=⟨_,rfl⟩;obtain⟨ol,od,ot⟩:=Jc (most:=200) (t:=t) (d:=dd) (at_:=x) (n:=1) hk123;rw[ho]at ol od ot;have hob:aU o.t:=by rw[←ho];exact Oe _ _ _ HBY.o hby1
      have HO:=θ (And.intro ol (And.intro od (And.intro (show o.t.length≤t.length+1 by have :=HD1.o;omega) hob)));have HSD:=θ ((hT1.drewN 1).sdo (HT.o.below (hT1.drewN 1).bl HTL.o) HTL.o (k:=kk) (at_:=x) (n:=1) (dc:=c0) (d:=dd) HR1.o (fun e=>by have :=HNIL.o e;have :=HD.o;omega) (fun h0 ad e=>Ei (HLOW.o ad e)) hby1 E E E (by have :=HD1.o;omega) (by have :=HD1.o;omega) E);have HME:Hid (∀w4,MdT w4 b 200 t→Chg (exT w.heap.size (zB (fun j=>j=xb) b)) (W.drewN 1) w4→w.heap.size≤b→Calls Tryz.prog 12 #[.pointer (some ⟨b,0,none⟩),bD kk x 1 a0 dd.length c0] w4 (MoR w4 b 200 o.t o.code o.n o.d o.l)):=θ (fun w4 h1 h2 h3=>by
       rw[←ho]
       exact Rk h1 E hk123 (Ao h2 HR1.o (fun h0 ad e e2=>by have :=HLOW.o ad e;have :=e2.1;omega)) (fun h0 ad e=>by have :=HLOW.o ad e;omega) E E (by have :=HD1.o;omega) (by have :=HD1.o;omega))
      rw[ho]at HSD;have HC2:Hid (C+eV t kk 1 dd≤20000+(k+1)*1000):=θ E;generalize C+eV t kk 1 dd=C2 at *;have HSAd:Hid (StepAt (W.drewN 1) xb kk x 1 a0 1 c0):=θ hSA;rw[HD1.o]at HSD HME;clear hSA hT1 hcc hk123 hby1 ol od ot hob ho htl hC hkk hkl HTL2 HR1;obtain⟨e0,e1,e2,e3⟩:=HSAd.o.cells;have hfd:∀(w:World) (x0 x1 x2 x3:Value),(Instr.field 38 (.agg #[x0,x1,x2,x3]) 0).run Tryz.prog w= .ok x0 w:=fun w x0 x1 x2 x3=>Ek;go_upto_region 17 with fail
      unfold bD at HSD HME;refine aE (fun w'=>w'.cell? ⟨xb,0,none⟩=some (.int .i64 kk)∧w'.cell? ⟨xb,1,none⟩=some (.int .i64 x)∧w'.cell? ⟨xb,2,none⟩=some (.int .i64 1)∧w'.cell? ⟨xb,3,none⟩=some (.slice a0 1 c0)) Ek (HSAd.o.cells) (fun hh=>?_);refine rt 0 hh ?_;refine rt 1 hh ?_;refine rt 3 hh ?_;refine rt 4 hh ?_;refine rg 2 fun κ hK=>?_;go_simp;refine HSD.o.mono ?_;rintro e w4 ⟨ea,ec,pa,pc,rfl,hr1,hr2,hT4,hc4,hv4⟩;have hSA4:StepAt w4 xb kk x 1 a0 1 c0:=hc4.heap HSAd.o (fun e=>e.2 (Ei rfl));have HMD:=θ (HME.o w4 hT4.md hc4 hT4.le);have HF4:=θ (And.intro hr1 (And.intro hr2 (And.intro hT4 hv4)));have HSA4:=θ hSA4;have HBS:Hid (b<(W.drewN 1).heap.size):=θ HBL.o;clear hr1 hr2 hT4 hc4 hv4 hSA4;refine hK.out _ _ (HSA4.o.cells) ?_;intro hh;try simp only[pt]
      refine rg 5 fun κ hK=>?_;go_simp;refine HMD.o.mono ?_;intro e w5 hm;obtain⟨ea5,ec5,pa5,pc5,rfl,hr51,hr52,hT5,hc5⟩:=HF4.o.2.2.1.mdo hm;have hne5:∀ad,ea=some ad∨pa=some ad→ad.block≠b:=fun ad e=>by have :=HF4.o.2.2.2 ad.block (e.imp (fun e=>⟨ad,e,rfl⟩) (fun e=>⟨ad,e,rfl⟩));have :=HBS.o;omega
      have HSR:=θ (It (dc:=ec) (dd:=ec5) (pc:=pc) (pd:=pc5) (code:=o.code) (n:=o.n) (hc5.reads HF4.o.1 (fun ad e=>hne5 ad (Ei e))) hr51 (hc5.reads HF4.o.2.1 (fun ad e=>hne5 ad (Ej e))) hr52 (by rw[HO.o.1];simp));have HSA5:Hid (StepAt w5 xb kk x 1 a0 1 c0):=θ (hc5.heap HSA4.o (fun e=>HXB.o e));have HT5:=θ (hT5.mono (Z':=fun j=>j=xb) (fun j e=>Ei e) (aA5 _));clear hm hr51 hr52 hT5 hc5 hne5;refine hK.out _ _ (HSA5.o.cells) ?_;intro hh;try simp only[pt]
      refine rg 6 fun κ hK=>?_;go_simp;refine HSR.o.mono ?_;rintro e w6 ⟨rfl,hb6⟩;have HT6:=θ (HT5.o.below hb6);have HSA6:Hid (StepAt w6 xb kk x 1 a0 1 c0):=θ ((Chg.of_below (S:=fun _=>False) hb6).heap HSA5.o (fun e=>e));have c6:=HT6.o.md.cells.1;have HF:=θ (HT6.o.fine (strOfNums o.t) (tM HO.o.2.2.2));generalize strOfNums o.t=s6 at *;clear hb6;refine hK.out _ _ (HSA6.o.cells) ?_;intro hh;try simp only[pt]
      refine rt 7 hh ?_;refine rt 8 hh ?_;refine rt 9 hh ?_;refine rt 10 hh ?_;refine rt 11 hh ?_;refine rt 12 hh ?_;refine rg 13 fun κ hK=>?_;go_simp;refine hK.out _ _ hh ?_;intro hh;try simp only[pt]
      refine rg 14 fun κ hK=>?_;go_simp;refine HF.o.mono ?_;rintro e w8 ⟨rfl,hT8,hc8⟩;have HT8:=θ hT8;have HSA8:Hid (StepAt w8 xb kk x 1 a0 1 c0):=θ (hc8.heap HSA6.o (fun e=>e.2 (Ei rfl)));clear hT8 hc8;refine hK.out _ _ (HSA8.o.cells) ?_;intro hh;try simp only[pt]
      refine rt 15 hh ?_;refine rt 16 hh ?_;refine rz ?_;clear hh;go_wp2_with fail;go_roundw;case rel=>exact⟨k+1,o.t,C2,E,E,by go_num,by have :=HO.o.2.2.1;have :=HTLC.o.1;omega,HO.o.2.2.2,HC2.o,HT8.o.mono (fun _ e=>e.elim) (aA5 _)⟩
      case measure=>have :=HTLC.o.2.2;simp[intOf];omega
     ·rw[aG9 hlt]at hv;subst hv;have HTD2:=θ (HTD.o wr hTP.bl);have HTP:=θ hTP;have HBY:=θ hby;clear hTP hby htl hC hlt;go_wp2_with fail;refine HTD2.o.mono ?_;rintro e w3 ⟨rfl,hb3⟩;have hT3:=HTP.o.below hb3;have c3:=hT3.md.cells.1;have HF:=θ (hT3.fine (strOfNums t) (tM HBY.o));clear hb3 hT3 HTD2 HTP;generalize strOfNums t=st at *;go_wp2_with fail;refine HF.o.mono ?_;rintro e w4 ⟨rfl,hT4,_⟩;have HB4:=θ hT4.bl;clear hT4 HF c3;go_wp2_with fail;go_ret;exact⟨rfl,HB4.o⟩
end
end Go.Proofs.YtchinbgemenenaaGreatDoor
