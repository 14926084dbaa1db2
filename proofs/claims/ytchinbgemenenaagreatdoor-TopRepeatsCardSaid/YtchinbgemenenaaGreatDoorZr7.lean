/- Lemmas and contracts under the claims of this seat. No condition. -/
import Derived.IntWalk
import Derived.Deep.QuietTactic
import Derived.BigQuiet
import Derived.Deep.DeepCutAuto
import Derived.Deep.CutBlock
import Derived.Deep.CutRange
import Derived.Laws.BytesArg
import Derived.Test.YtchinbgemenenaaGreatDoorZr1
import Derived.Test.YtchinbgemenenaaGreatDoorZr2
import Derived.Test.YtchinbgemenenaaGreatDoorZr3
import Derived.Test.YtchinbgemenenaaGreatDoorZr5
import Derived.Test.YtchinbgemenenaaGreatDoorZr6
namespace Go.Proofs.YtchinbgemenenaaGreatDoor
set_option linter.unusedVariables false
set_option linter.unusedSimpArgs false
set_option maxRecDepth 100000
set_option maxHeartbeats 12800000
section
open Go.RowKit
theorem Uo(T:TT):∀(w:World) (p:Nat) (C:Nat→Prop) (A:Ar) (xs:List Nd) (root vis:Int) (k:Nat),Head w p C A xs root vis→xs.length=A.T.length→0≤vis→vis+7*T.st.high+20≤100000000000→Sub w xs T→Own A T→k<T.st.bits.length→
  T.st.bits.length≤8589934592→T.st.high≤1000000000→T.st.Avl→(∀t,T.st=t→(t.isLeaf=true∨t.Fill))→
  Calls Tryz.prog 233 #[.pointer (some ⟨p,0,none⟩), .int .i64 T.num, .int .i64 k] w fun e w'=>vH w w' p C A xs root vis T k e:=by
 induction T with
 | leaf kn q l=>
  intro w p C A xs root vis k h hlen hv0 hv hS hO hk hb1 hh1 hav hfl;simp only[TT.st,ST.bits]at hk;exact Ot h hlen hv0 (by simp only[TT.st,ST.high]at hv;omega) hS hO k hk
 | pair kn a c iha ihc=>
  intro w p C A xs root vis k h hlen hv0 hv hS hO hk hb1 hh1 hav hfl;have hfill:(TT.pair kn a c).st.Fill:=by
   rcases hfl _ rfl with e | e
   ·cases e
   ·exact e
  obtain⟨av1,av2,av3,av4⟩:=hav;obtain⟨fa,fc⟩:=hfill;change Calls Tryz.prog _ #[.pointer (some ⟨p,0,none⟩), .int .i64 (kn:Int), .int .i64 k] w _;have hx:=hS.root;change xs[kn]? =some (TT.pair kn a c).nd at hx;obtain⟨g,rc,cur,c1,hgp,_⟩:=h.row (by have :=(ar5.1 hx).1;omega);obtain⟨_,_,hkx,_⟩:=h.node c1 hx;obtain⟨a0,a1,a2,a3,a4,a5,a6,a7⟩:=h.eight c1 hx;obtain⟨_,_,cv,fz⟩:=h.cells;have f3:=fz 3;have hp:=h.lt p h.self;have hg:=aF8 w _ a0;simp only[TT.st,ST.bits,ST.high,as6]at hv hk hb1 hh1;obtain⟨na,hna⟩:∃na,a.num=na:=⟨_,rfl⟩;obtain⟨nc,hnc⟩:∃nc,c.num=nc:=⟨_,rfl⟩;obtain⟨la,hla⟩:∃la,a.st.bits.length=la:=⟨_,rfl⟩;obtain⟨ha,hha⟩:∃h,a.st.high=h:=⟨_,rfl⟩;obtain⟨hc,hhc⟩:∃h,c.st.high=h:=⟨_,rfl⟩;rw[hla]at hk hb1;rw[hha,hhc]at hv hh1 av3 av4;simp only[TT.nd,eL,aD2]at a0 a1 a2 a3 a4 a5 a6 a7;rw[hla]at a3 a5;change w.cell? ⟨g,kn*8,none⟩=some (.int .i64 (a.num:Int))at a0;change w.cell? ⟨g,kn*8+1,none⟩=some (.int .i64 (c.num:Int))at a1;rw[hna]at a0;rw[hnc]at a1;have HNA:=θ hna;have HNC:=θ hnc;have HLA:=θ hla;have HHA:=θ hha;have HHC:=θ hhc;have HH3:Hid (∀o,Head ((w.setCell ⟨p,3,none⟩ (.int .i64 (vis+1))).alloc o) p C A xs root (vis+1)):=fun o=>(h.set3 (vis+1)).below (aN _ _);have HG:Hid (∀o,Chg C w ((w.setCell ⟨p,3,none⟩ (.int .i64 (vis+1))).alloc o)):=fun o=>(h.chg3 _ 3).alloc o;have HSA:Hid (∀w',Chg C w w'→Sub w' xs a):=fun w' hc=>hS.2.1.chgC h hc (fun _ _=>rfl);have HSC:Hid (∀w',Chg C w w'→Sub w' xs c):=fun w' hc=>hS.2.2.chgC h hc (fun _ _=>rfl);have HX:=θ hx;have HO:=θ hO;have HL:=θ hlen;have HIA:=θ iha;have HIC:=θ ihc;have HAV:Hid (a.st.Avl∧c.st.Avl∧a.st.Fill∧c.st.Fill):=⟨av1,av2,fa,fc⟩;have hkb:k≤8589934592:=E;clear h fz hx hS hO hlen iha ihc hna hnc hla hha hhc av1 av2 fa fc hfl;by_cases hlt:k<la
  ·have d1:decide (k<la)=true:=aH1 hlt;go_enter Tryz.func233,Tryz.ntmps233;go_wp2_with fail;have h2:=HH3.o (.cells #[.int .i64 na, .int .i64 nc, .int .i64 (ST.pair a.st c.st).high, .int .i64 (la+c.st.bits.length), .int .i64 (a.st.bits.count true+c.st.bits.count true), .int .i64 la, .int .i64 (a.st.bits.count true), .pointer none] 221);have hih:=HIA.o _ p C A xs root (vis+1) k h2 HL.o E (by rw[HHA.o];omega) (HSA.o _ (HG.o _)) HO.o.l (by rw[HLA.o];exact hlt) (by rw[HLA.o];omega) (by rw[HHA.o];omega) HAV.o.1 (fun t ht=>Ej (by rw[←ht];exact HAV.o.2.2.1));rw[HNA.o]at hih;refine hih.mono ?_;rintro e w3 ⟨T',C3,A3,xs3,v3,rfl,hP,hst,hmade⟩;obtain⟨q1,q2,q3⟩:=SubPre.left HO.o hP.pre h2 (HSC.o _ (HG.o _));have hx3:=q3.trans HX.o;have hpre:=SubPre.first (HG.o (.cells #[.int .i64 na, .int .i64 nc, .int .i64 (ST.pair a.st c.st).high, .int .i64 (la+c.st.bits.length), .int .i64 (a.st.bits.count true+c.st.bits.count true), .int .i64 la, .int .i64 (a.st.bits.count true), .pointer none] 221)) q1
   have h3:=hP.head;have s3:=hP.sub;have hv3:=hP.vis;rw[HHA.o]at hv3;have hdo:=tB HAV.o.1 HAV.o.2.2.1 (k:=k) (by rw[HLA.o];exact hlt);have hfw:=Ki (k:=k) HAV.o.2.2.1 (by rw[HLA.o];exact hlt);rw[←hst,HHA.o]at hdo;rw[←hst,HHA.o]at hfw;obtain⟨w1,w2,w4,w5⟩:=hdo;have hTb:T'.st.bits.length+1=la:=by rw[hst,iY (by rw[HLA.o];exact hlt),eJ (by rw[HLA.o];exact hlt)];rw[HLA.o];omega
   have hbit:aR (TT.pair kn a c).st.bits k=aR a.st.bits k:=by simp only[TT.st,ST.bits];exact tT (by rw[HLA.o];exact hlt)
   obtain⟨g3,rc3,cur3,r3,hgp3,_⟩:=h3.row (by have :=(ar5.1 hx3).1;omega);obtain⟨_,fz3,hkx3,_⟩:=h3.node r3 hx3;obtain⟨e0,e1,_⟩:=h3.eight r3 hx3;have z3:=fz3 (kn*8);obtain⟨h4,g4,_⟩:=h3.put r3 hx3 (i:=0) (v:= .int .i64 T'.num) (x':=⟨T'.num,c.num,(TT.pair kn a c).nd.height,(TT.pair kn a c).nd.n,(TT.pair kn a c).nd.ones,(TT.pair kn a c).nd.ln,(TT.pair kn a c).nd.lones,none⟩) E rfl;have g4C:Chg C3 w3 _:=g4.mono (fun j e=>by subst e;exact h3.rowC ⟨_,_,r3⟩);have hdis:=TT.dis hpre.own.nn;have st4:=s3.chgC h3 g4C (bC (y:=⟨T'.num,c.num,(TT.pair kn a c).nd.height,(TT.pair kn a c).nd.n,(TT.pair kn a c).nd.ones,(TT.pair kn a c).nd.ln,(TT.pair kn a c).nd.lones,none⟩) hdis.1);have sc4:=q2.chgC h3 g4C (bC (y:=⟨T'.num,c.num,(TT.pair kn a c).nd.height,(TT.pair kn a c).nd.n,(TT.pair kn a c).nd.ones,(TT.pair kn a c).nd.ln,(TT.pair kn a c).nd.lones,none⟩) hdis.2.1);have hp4:=hpre.next (T2:= .pair kn T' c) (xs':=xs3.set kn ⟨T'.num,c.num,(TT.pair kn a c).nd.height,(TT.pair kn a c).nd.n,(TT.pair kn a c).nd.ones,(TT.pair kn a c).nd.ln,(TT.pair kn a c).nd.lones,none⟩) g4C (fun j hj=>aG (by rintro rfl;exact hj TT.mem_k)) Es (ao5 _) rfl rfl;have sm1:Small T'.st:=⟨E,E⟩;have sm2:Small c.st:=⟨E,by rw[HHC.o];omega⟩;have HB:=θ (Ci h4 hp4.len E E (k:=kn) (l:=T') (r:=c) ⟨_,aS hx3,rfl,rfl,rfl,st4,sc4⟩ hp4.own (fun hf=>by rw[HHC.o];have :=hfw hf;omega) (fun hf=>by rw[HAV.o.2.2.2.not_few]at hf;cases hf) sm1 sm2);have H4:=θ h4;have HP4:=θ hp4;have HST:=θ hst;have HV3:=θ hv3;have HW:Hid (T'.st.Avl∧T'.st.Less∧T'.st.high≤ha∧ha≤T'.st.high+1∧(T'.st.few=true→ha=0)):=⟨w1,w2,w4,w5,hfw⟩;have HTB:=θ hTb;have HBIT:=θ hbit;have HMADE:=θ hmade;clear h2 hih hP hst q1 q2 q3 hx3 hpre h3 s3 fz3 h4 g4 g4C hdis st4 sc4 hTb hv3 w1 w2 w4 w5 hfw sm1 sm2 hp4 hbit hmade;obtain⟨nt,hnt⟩:∃n,T'.num=n:=⟨_,rfl⟩;rw[hnt];rw[hnt]at HB H4 HP4;go_wp2_with fail;refine HB.o.mono ?_;rintro e w5 ⟨T1,C5,A5,xs5,v5,rfl,h5,p5,hst5,v51,v52,s5,made5⟩;have hmk:=zU (l:=T'.st) (r:=c.st) HW.o.1 HAV.o.2.1 HW.o.2.1 HAV.o.2.2.2.less (by have :=HW.o;have :=HHC.o;omega) (by have :=HW.o;have :=HHC.o;omega) (fun hf=>by
    rcases hf with hf | hf
    ·have h1:=ST.few_high hf;have h2:=HW.o.2.2.2.2 hf;have :=HHC.o;omega
    ·rw[HAV.o.2.2.2.not_few]at hf;cases hf)
   have hp5:SubPre w w5 C A xs (.pair kn a c) T1 C5 A5 xs5:=HP4.o.cat p5;obtain⟨n1,hn1⟩:∃n,T1.num=n:=⟨_,rfl⟩;rw[hn1];cases T1 with
   | leaf k1 q1 l1=>
    obtain rfl:k1=n1:=hn1;obtain⟨g5,rc5,cur5,r5,_⟩:=h5.row (by have :=(ar5.1 s5.1).1;omega);obtain⟨_,_,_,_,_,_,_,y7⟩:=h5.eight r5 s5.1;obtain⟨_,_,hk5,_⟩:=h5.node r5 s5.1;change w5.cell? ⟨g5,k1*8+7,none⟩=some (.pointer (some ⟨q1,0,none⟩))at y7;change k1<xs5.length at hk5;have H5:=θ h5;have P5:=θ hp5;have HST5:=θ hst5;have S5:=θ s5;have HM5:=θ made5;clear h5 hp5 p5 hst5 s5 hmk made5;go_wp2_with fail;go_ret2;refine⟨.leaf k1 q1 l1,C5,A5,xs5,v5,by rw[HBIT.o];rfl,SubPost.of H5.o S5.out P5.out ?_,?_,HM5.o.trans HMADE.o⟩
    ·have :=HV3.o;simp only[TT.st,ST.high];rw[HHA.o,HHC.o];exact⟨E,E⟩
    ·have h1:=HST5.o;have h2:=HST.o;simp only[TT.st,dS]at h1 h2⊢;rw[aH9 (by rw[HLA.o];exact hlt),←h2,←h1];rfl
   | pair k1 a1 b1=>
    obtain rfl:k1=n1:=hn1;obtain⟨x5,x51,x52,x53,x54,sa5,sb5⟩:=s5;obtain⟨g5,rc5,cur5,r5,_⟩:=h5.row (by have :=(ar5.1 x51).1;omega);obtain⟨_,_,_,_,_,_,_,y7⟩:=h5.eight r5 x51;obtain⟨_,_,hk5,_⟩:=h5.node r5 x51;rw[x54]at y7;change w5.cell? ⟨g5,k1*8+7,none⟩=some (.pointer none)at y7;have hsm:Small (.pair a1.st b1.st):=by
     have e:ST.pair a1.st b1.st=cH (.pair T'.st c.st):=hst5;have hb5:=sA (.pair T'.st c.st);rw[←e]at hb5 hmk;have hl5:=aG8 List.length hb5;have hTB:=HTB.o;have hw3:=HW.o.2.2.1;obtain⟨_,_,_,_,_,m5,_⟩:=hmk;have hA:=HHA.o;have hC:=HHC.o;have hL:=HLA.o;simp only[ST.bits,as6]at hl5;refine⟨by simp only[ST.bits,as6];omega,by simp only[ST.high];omega⟩
    have HB6:=θ (rG h5 (by have :=HV3.o;omega) (by have :=HV3.o;omega) (k:=k1) (x:=x5) (a:=a1) (c:=b1) x51 x54 x52 x53 sa5 sb5 hp5.own.nn hsm);have H5:=θ h5;have P5:=θ hp5;have HST5:=θ hst5;have HM5:=θ made5;clear h5 hp5 p5 hst5 sa5 sb5 hmk made5 hsm x51 x52 x53 x54;go_wp2_with fail;refine HB6.o.mono ?_;rintro e w6 hB;obtain⟨T2,xs6,v6,rfl,h6,s6,hst6,hn6,hb6,kp6,ln6,hv6⟩:=hB.ex;have H6:=θ h6;have S6:=θ s6;have HST6:=θ hst6;have HN6:=θ hn6;have HB7:=θ hb6;have KP6:=θ kp6;have LN6:=θ ln6;have HV6:=θ hv6;have C6:=θ hB.chg;clear hB h6 s6 hst6 hn6 hb6 kp6 ln6 hv6;go_wp2_with fail;go_ret2;have hx6:=P5.out.next (T2:=T2) (xs':=xs6) C6.out KP6.out LN6.out HN6.o HB7.o (by rw[HST6.o,qM];rfl);refine⟨T2,C5,A5,xs6,v6,by rw[HBIT.o];rfl,SubPost.of H6.o S6.out hx6 ?_,?_,HM5.o.trans HMADE.o⟩
    ·have :=HV3.o;have :=HV6.o;simp only[TT.st,ST.high];rw[HHA.o,HHC.o];exact⟨E,E⟩
    ·have h1:=HST5.o;have h2:=HST.o;simp only[TT.st,dS]at h1 h2⊢;rw[aH9 (by rw[HLA.o];exact hlt),←h2,HST6.o,←h1]
  ·have d1:decide (k<la)=false:=aG9 hlt;go_enter Tryz.func233,Tryz.ntmps233;go_wp2_with fail;rw[show (k:Int)-(la:Int)=((k-la:Nat):Int) by omega];have h2:=HH3.o (.cells #[.int .i64 na, .int .i64 nc, .int .i64 (ST.pair a.st c.st).high, .int .i64 (la+c.st.bits.length), .int .i64 (a.st.bits.count true+c.st.bits.count true), .int .i64 la, .int .i64 (a.st.bits.count true), .pointer none] 221);have hih:=HIC.o _ p C A xs root (vis+1) (k-la) h2 HL.o E (by rw[HHC.o];omega) (HSC.o _ (HG.o _)) HO.o.r E E (by rw[HHC.o];omega) HAV.o.2.1 (fun t ht=>Ej (by rw[←ht];exact HAV.o.2.2.2));rw[HNC.o]at hih;refine hih.mono ?_;rintro e w3 ⟨T',C3,A3,xs3,v3,rfl,hP,hst,hmade⟩;obtain⟨q1,q2,q3⟩:=SubPre.right HO.o hP.pre h2 (HSA.o _ (HG.o _));have hx3:=q3.trans HX.o;have hpre:=SubPre.first (HG.o (.cells #[.int .i64 na, .int .i64 nc, .int .i64 (ST.pair a.st c.st).high, .int .i64 (la+c.st.bits.length), .int .i64 (a.st.bits.count true+c.st.bits.count true), .int .i64 la, .int .i64 (a.st.bits.count true), .pointer none] 221)) q1
   have h3:=hP.head;have s3:=hP.sub;have hv3:=hP.vis;rw[HHC.o]at hv3;have hdo:=tB HAV.o.2.1 HAV.o.2.2.2 (k:=(k-la)) E;have hfw:=Ki (k:=(k-la)) HAV.o.2.2.2 E;rw[←hst,HHC.o]at hdo;rw[←hst,HHC.o]at hfw;obtain⟨w1,w2,w4,w5⟩:=hdo;have hTb:T'.st.bits.length+1=c.st.bits.length:=by rw[hst,iY E,eJ E];omega
   have hbit:aR (TT.pair kn a c).st.bits k=aR c.st.bits (k-la):=by simp only[TT.st,ST.bits];exact by rw[tU (by rw[HLA.o];omega),HLA.o]
   obtain⟨g3,rc3,cur3,r3,hgp3,_⟩:=h3.row (by have :=(ar5.1 hx3).1;omega);obtain⟨_,fz3,hkx3,_⟩:=h3.node r3 hx3;obtain⟨e0,e1,_⟩:=h3.eight r3 hx3;have z3:=fz3 (kn*8+1);obtain⟨h4,g4,_⟩:=h3.put r3 hx3 (i:=1) (v:= .int .i64 T'.num) (x':=⟨a.num,T'.num,(TT.pair kn a c).nd.height,(TT.pair kn a c).nd.n,(TT.pair kn a c).nd.ones,(TT.pair kn a c).nd.ln,(TT.pair kn a c).nd.lones,none⟩) E rfl;have g4C:Chg C3 w3 _:=g4.mono (fun j e=>by subst e;exact h3.rowC ⟨_,_,r3⟩);have hdis:=TT.dis hpre.own.nn;have st4:=s3.chgC h3 g4C (bC (y:=⟨a.num,T'.num,(TT.pair kn a c).nd.height,(TT.pair kn a c).nd.n,(TT.pair kn a c).nd.ones,(TT.pair kn a c).nd.ln,(TT.pair kn a c).nd.lones,none⟩) hdis.2.1);have sc4:=q2.chgC h3 g4C (bC (y:=⟨a.num,T'.num,(TT.pair kn a c).nd.height,(TT.pair kn a c).nd.n,(TT.pair kn a c).nd.ones,(TT.pair kn a c).nd.ln,(TT.pair kn a c).nd.lones,none⟩) hdis.1);have hp4:=hpre.next (T2:= .pair kn a T') (xs':=xs3.set kn ⟨a.num,T'.num,(TT.pair kn a c).nd.height,(TT.pair kn a c).nd.n,(TT.pair kn a c).nd.ones,(TT.pair kn a c).nd.ln,(TT.pair kn a c).nd.lones,none⟩) g4C (fun j hj=>aG (by rintro rfl;exact hj TT.mem_k)) Es (ao5 _) rfl rfl;have sm1:Small T'.st:=⟨E,E⟩;have sm2:Small a.st:=⟨by rw[HLA.o];omega,by rw[HHA.o];omega⟩;have HB:=θ (Ci h4 hp4.len E E (k:=kn) (l:=a) (r:=T') ⟨_,aS hx3,rfl,rfl,rfl,sc4,st4⟩ hp4.own (fun hf=>by rw[HAV.o.2.2.1.not_few]at hf;cases hf) (fun hf=>by rw[HHA.o];have :=hfw hf;omega) sm2 sm1);have H4:=θ h4;have HP4:=θ hp4;have HST:=θ hst;have HV3:=θ hv3;have HW:Hid (T'.st.Avl∧T'.st.Less∧T'.st.high≤hc∧hc≤T'.st.high+1∧(T'.st.few=true→hc=0)):=⟨w1,w2,w4,w5,hfw⟩;have HTB:=θ hTb;have HBIT:=θ hbit;have HMADE:=θ hmade;clear h2 hih hP hst q1 q2 q3 hx3 hpre h3 s3 fz3 h4 g4 g4C hdis st4 sc4 hTb hv3 w1 w2 w4 w5 hfw sm1 sm2 hp4 hbit hmade;obtain⟨nt,hnt⟩:∃n,T'.num=n:=⟨_,rfl⟩;rw[hnt];rw[hnt]at HB H4 HP4;go_wp2_with fail;refine HB.o.mono ?_;rintro e w5 ⟨T1,C5,A5,xs5,v5,rfl,h5,p5,hst5,v51,v52,s5,made5⟩;have hmk:=zU (l:=a.st) (r:=T'.st) HAV.o.1 HW.o.1 HAV.o.2.2.1.less HW.o.2.1 (by have :=HW.o;have :=HHA.o;omega) (by have :=HW.o;have :=HHA.o;omega) (fun hf=>by
    rcases hf with hf | hf
    ·rw[HAV.o.2.2.1.not_few]at hf;cases hf
    ·have h1:=ST.few_high hf;have h2:=HW.o.2.2.2.2 hf;have :=HHA.o;omega)
   have hp5:SubPre w w5 C A xs (.pair kn a c) T1 C5 A5 xs5:=HP4.o.cat p5;obtain⟨n1,hn1⟩:∃n,T1.num=n:=⟨_,rfl⟩;rw[hn1];cases T1 with
   | leaf k1 q1 l1=>
    obtain rfl:k1=n1:=hn1;obtain⟨g5,rc5,cur5,r5,_⟩:=h5.row (by have :=(ar5.1 s5.1).1;omega);obtain⟨_,_,_,_,_,_,_,y7⟩:=h5.eight r5 s5.1;obtain⟨_,_,hk5,_⟩:=h5.node r5 s5.1;change w5.cell? ⟨g5,k1*8+7,none⟩=some (.pointer (some ⟨q1,0,none⟩))at y7;change k1<xs5.length at hk5;have H5:=θ h5;have P5:=θ hp5;have HST5:=θ hst5;have S5:=θ s5;have HM5:=θ made5;clear h5 hp5 p5 hst5 s5 hmk made5;go_wp2_with fail;go_ret2;refine⟨.leaf k1 q1 l1,C5,A5,xs5,v5,by rw[HBIT.o];rfl,SubPost.of H5.o S5.out P5.out ?_,?_,HM5.o.trans HMADE.o⟩
    ·have :=HV3.o;simp only[TT.st,ST.high];rw[HHA.o,HHC.o];exact⟨E,E⟩
    ·have h1:=HST5.o;have h2:=HST.o;simp only[TT.st,dS]at h1 h2⊢;rw[aH8 (by rw[HLA.o];exact hlt),HLA.o,←h2,←h1];rfl
   | pair k1 a1 b1=>
    obtain rfl:k1=n1:=hn1;obtain⟨x5,x51,x52,x53,x54,sa5,sb5⟩:=s5;obtain⟨g5,rc5,cur5,r5,_⟩:=h5.row (by have :=(ar5.1 x51).1;omega);obtain⟨_,_,_,_,_,_,_,y7⟩:=h5.eight r5 x51;obtain⟨_,_,hk5,_⟩:=h5.node r5 x51;rw[x54]at y7;change w5.cell? ⟨g5,k1*8+7,none⟩=some (.pointer none)at y7;have hsm:Small (.pair a1.st b1.st):=by
     have e:ST.pair a1.st b1.st=cH (.pair a.st T'.st):=hst5;have hb5:=sA (.pair a.st T'.st);rw[←e]at hb5 hmk;have hl5:=aG8 List.length hb5;have hTB:=HTB.o;have hw3:=HW.o.2.2.1;obtain⟨_,_,_,_,_,m5,_⟩:=hmk;have hA:=HHA.o;have hC:=HHC.o;have hL:=HLA.o;simp only[ST.bits,as6]at hl5;refine⟨by simp only[ST.bits,as6];omega,by simp only[ST.high];omega⟩
    have HB6:=θ (rG h5 (by have :=HV3.o;omega) (by have :=HV3.o;omega) (k:=k1) (x:=x5) (a:=a1) (c:=b1) x51 x54 x52 x53 sa5 sb5 hp5.own.nn hsm);have H5:=θ h5;have P5:=θ hp5;have HST5:=θ hst5;have HM5:=θ made5;clear h5 hp5 p5 hst5 sa5 sb5 hmk made5 hsm x51 x52 x53 x54;go_wp2_with fail;refine HB6.o.mono ?_;rintro e w6 hB;obtain⟨T2,xs6,v6,rfl,h6,s6,hst6,hn6,hb6,kp6,ln6,hv6⟩:=hB.ex;have H6:=θ h6;have S6:=θ s6;have HST6:=θ hst6;have HN6:=θ hn6;have HB7:=θ hb6;have KP6:=θ kp6;have LN6:=θ ln6;have HV6:=θ hv6;have C6:=θ hB.chg;clear hB h6 s6 hst6 hn6 hb6 kp6 ln6 hv6;go_wp2_with fail;go_ret2;have hx6:=P5.out.next (T2:=T2) (xs':=xs6) C6.out KP6.out LN6.out HN6.o HB7.o (by rw[HST6.o,qM];rfl);refine⟨T2,C5,A5,xs6,v6,by rw[HBIT.o];rfl,SubPost.of H6.o S6.out hx6 ?_,?_,HM5.o.trans HMADE.o⟩
    ·have :=HV3.o;have :=HV6.o;simp only[TT.st,ST.high];rw[HHA.o,HHC.o];exact⟨E,E⟩
    ·have h1:=HST5.o;have h2:=HST.o;simp only[TT.st,dS]at h1 h2⊢;rw[aH8 (by rw[HLA.o];exact hlt),HLA.o,←h2,HST6.o,←h1]
def ac7(w w':World)(p:Nat)(C:Nat→Prop)(A:Ar)(xs:List Nd)(T:TT)(k:Nat)(e:Ending):Prop:=
 e= .returned (.tuple #[.bool (aR T.st.bits k), .int .i64 0])∧∃(T':TT) (C':Nat→Prop) (A':Ar) (xs':List Nd) (v':Int),T'.st=dS T.st k∧0≤v'∧v'≤7*T.st.high+2∧(∀j,C' j→C j∨w.heap.size≤j)∧(∀q∈T'.bl,q∈T.bl∨w.heap.size≤q)∧
  xs'.length=A'.T.length∧A'.M=A.M∧A'.T.length=A.T.length∧Chg (fun j=>C j∨j∈T.bl) w w'∧
  ((T'.st.bits.length≠0∧Head w' p C' A' xs' T'.num v'∧Sub w' xs' T'∧Own A' T'∧A'.live+T.st.size=A.live+T'.st.size)∨
   (T'.st.bits.length=0∧Head w' p C' A' xs' (-1) v'∧A'.live+1+T.st.size=A.live+T'.st.size))
theorem Gv{w:World}{p:Nat}{C:Nat→Prop}{A:Ar}{xs:List Nd}{vis:Int}{T:TT}(h:Head w p C A xs T.num vis)(hS:Sub w xs T)(hlen:xs.length=A.T.length)(hO:Own A T)(hb1:T.st.bits.length≤8589934592)(hh:T.st.high≤1000000000)(hav:T.st.Avl)(hfl:T.st.isLeaf=true∨T.st.Fill)(k:Nat)(hk:k<T.st.bits.length):
  Calls Tryz.prog 212 #[.pointer (some ⟨p,0,none⟩), .int .i64 k] w fun e w'=>ac7 w w' p C A xs T k e:=by
 have h0:=Gy (o:=some T) h hS k;have e0:dZ (bI (some T)) k=0:=by
  have :((k:Int)<((bI (some T)).length:Int)):=by show (k:Int)<(T.st.bits.length:Int);omega
  unfold dZ;rw[aH9 E]
 rw[e0]at h0;have HH:=θ h0;have HD:Hid (∀w1,Head w1 p C A xs T.num 0→Chg C w w1→Calls Tryz.prog 233 #[.pointer (some ⟨p,0,none⟩), .int .i64 T.num, .int .i64 k] w1 fun e w'=>vH w1 w' p C A xs T.num 0 T k e):=
  fun w1 h1 c1=>Uo T w1 p C A xs T.num 0 k h1 hlen E E (hS.chgC h c1 (fun _ _=>rfl)) hO hk hb1 hh hav (fun t ht=>by rw[←ht];exact hfl)
 clear h0 h hS e0 hlen hO hav hfl;go_enter Tryz.func212,Tryz.ntmps212;go_wp2_with fail;refine HH.o.mono ?_;rintro e w1 ⟨rfl,hH1,hC1⟩;have hH1:Head w1 p C A xs T.num 0:=hH1;have c2:=hH1.cells.2.1;have HDD:=θ (HD.o w1 hH1 hC1);have C1:=θ hC1;clear hH1 hC1;obtain⟨nt,hnt⟩:∃n,T.num=n:=⟨_,rfl⟩;rw[hnt]at c2 HDD;clear hnt;go_wp2_with fail;refine HDD.o.mono ?_;rintro e w2 ⟨T',C2,A2,xs2,v2,rfl,hP,hst,hmade⟩;have h2:=hP.head;have hr:=hP.sub.root;obtain⟨g,rc,cur,r2,hgp,_⟩:=h2.row (by have :=(ar5.1 hr).1;omega);obtain⟨_,_,hkx,_⟩:=h2.node r2 hr;obtain⟨_,_,_,a3,_⟩:=h2.eight r2 hr;rw[T'.nd_n]at a3;obtain⟨_,b2,_,fz⟩:=h2.cells;have f2:=fz 2;obtain⟨n',hn'⟩:∃n,T'.num=n:=⟨_,rfl⟩;obtain⟨m',hm'⟩:∃n,T'.st.bits.length=n:=⟨_,rfl⟩;have hF:∃ap,(w2.setCell ⟨p,2,none⟩ (.int .i64 n')).cell? ⟨p,0,none⟩=some (.pointer (some ⟨ap,0,none⟩))∧Calls Tryz.prog 213 #[.pointer (some ⟨ap,0,none⟩), .slice (some ⟨(w2.setCell ⟨p,2,none⟩ (.int .i64 n')).heap.size,0,none⟩) 1 1] ((w2.setCell ⟨p,2,none⟩ (.int .i64 n')).alloc (.cells #[.int .i64 n'] 3)) fun e w'=>
   e= .returned (.int .i64 0)∧∃C',Head w' p C' (A2.fr1 n') xs2 n' v2∧HStep (w2.setCell ⟨p,2,none⟩ (.int .i64 n')) w' C2 C':=by
  refine tFree1 (h2.set2 n') ?_;rw[←hn'];exact hP.own.tk _ T'.num_mem
 obtain⟨ap,p0,hfr⟩:=hF;have hse:(w2.setCell ⟨p,2,none⟩ (.int .i64 n')).heap.size=w2.heap.size:=by simp[World.setCell]
 rw[hse]at hfr;have p0':w2.cell? ⟨p,0,none⟩=some (.pointer (some ⟨ap,0,none⟩)):=by
  obtain⟨⟨ap',q0⟩,_⟩:=h2.cells;have q1:(w2.setCell ⟨p,2,none⟩ (.int .i64 n')).cell? ⟨p,0,none⟩=some (.pointer (some ⟨ap',0,none⟩)):=by clear p0;go_simp
  rw[q1]at p0;rw[q0];exact p0
 rw[hn']at hkx a3;rw[hm']at a3;have H2:=θ h2;have HP:=θ hP;have HST:=θ hst;have HMD:=θ hmade;have HN':=θ hn';have HM':=θ hm';have HFR:=θ hfr;clear h2 hP hst hmade hr fz hfr p0 hse;rw[HN'.out];clear hn' hm';have c2C:Hid (Chg C2 w2 (w2.setCell ⟨p,2,none⟩ (.int .i64 n'))):=Chg.refl.setCell _ (Ei H2.o.self) _;by_cases hz:m'=0
 ·have d1:((m':Int)==0)=true:=by rw[aG6];omega
  have HZ:=θ hz;clear hz;go_wp2_with fail;refine HFR.o.mono ?_;rintro e w4 ⟨rfl,C4,h4,s4⟩;obtain⟨_,b4,_,fz4⟩:=h4.cells;have f4:=fz4 2;have H4:=θ h4;have S4:=θ s4;clear h4 s4 fz4;go_wp2_with fail;go_ret2;have hv:=HP.o.vis;have c5:Chg C4 w4 (w4.setCell ⟨p,2,none⟩ (.int .i64 (-1))):=Chg.refl.setCell _ (Ei H4.o.self) _;have hpc:=(HP.o.chg.trans c2C.out (fun j hj=>(HP.o.newC j hj).imp Ei id));have s1:=C1.out.size;have s2:=hpc.size;have gall:Chg (fun j=>C j∨j∈T.bl) w (w4.setCell ⟨p,2,none⟩ (.int .i64 (-1))):=((C1.out.mono (fun j hj=>Ei hj)).trans hpc (fun j hj=>Ei hj)).trans (S4.out.chg.trans c5 S4.out.new) (fun j hj=>(HP.o.newC j hj).imp Ei (fun h=>E));refine⟨rfl,T',C4,A2.fr1 n',xs2,v2,HST.o,E,E,fun j hj=>?_,fun q hq=>(HP.o.newB q hq).imp id (fun h=>E),?_,HP.o.max,?_,gall,Ej ⟨by rw[HM'.out,HZ.o],H4.o.set2 (-1),?_⟩⟩
  ·rcases S4.out.new j hj with e | e
   ·exact(HP.o.newC j e).imp id (fun h=>E)
   ·right;omega
  ·rw[HP.o.len];simp[Ar.fr1]
  ·rw[←HMD.o];simp[Ar.fr1]
  ·have h1:=HP.o.live;have h2:=Ar.fr1_live H2.o.arOk (x:=n') (by rw[←HN'.out];exact HP.o.own.tk _ T'.num_mem);omega
 ·have d1:((m':Int)==0)=false:=by rw[aG5];omega
  have HZ:=θ hz;clear hz;go_wp2_with fail;go_ret2;have hv:=HP.o.vis;have s1:=C1.out.size;have hpc:=(HP.o.chg.trans c2C.out (fun j hj=>(HP.o.newC j hj).imp Ei id));refine⟨rfl,T',C2,A2,xs2,v2,HST.o,E,E,fun j hj=>(HP.o.newC j hj).imp id (fun h=>E),fun q hq=>(HP.o.newB q hq).imp id (fun h=>E),HP.o.len,HP.o.max,HMD.o,(C1.out.mono (fun j hj=>Ei hj)).trans hpc (fun j hj=>Ei hj),Ei ⟨by rw[HM'.out];exact HZ.o,by rw[HN'.out];exact H2.o.set2 n',HP.o.sub.chgC H2.o c2C.out (fun _ _=>rfl),HP.o.own,HP.o.live⟩⟩
theorem Us{w:World}{p:Nat}{C:Nat→Prop}{A:Ar}{xs:List Nd}{root vis:Int}(h:Head w p C A xs root vis):
  Calls Tryz.prog 194 #[.pointer (some ⟨p,0,none⟩)] w fun e w'=>e= .returned (.int .i64 A.live)∧∃n,w'=w.drewN n:=by
 obtain⟨ap,SA,p0,hA,_,_⟩:=h.arena;have HL:=θ (qJ hA);clear h hA;go_enter Tryz.func194,Tryz.ntmps194;go_wp2_with fail;refine HL.o.mono ?_;rintro e w' ⟨rfl,n,rfl⟩;go_wp2_with fail;go_ret;exact⟨rfl,n,rfl⟩
theorem Jq{w:World}{p:Nat}{C:Nat→Prop}{A:Ar}{xs:List Nd}{root vis:Int}(h:Head w p C A xs root vis):
  Calls Tryz.prog 206 #[.pointer (some ⟨p,0,none⟩)] w fun e w'=>e= .returned (.int .i64 vis)∧w=w':=by
 have c3:=h.cells.2.2.1;clear h;go_enter Tryz.func206,Tryz.ntmps206;go_wp2_with fail;go_ret;exact⟨rfl,rfl⟩
theorem Jo{w:World}{p:Nat}{C:Nat→Prop}{A:Ar}{xs:List Nd}{vis:Int}(h:Head w p C A xs (-1) vis):
  Calls Tryz.prog 145 #[.pointer (some ⟨p,0,none⟩)] w fun e w'=>e= .returned (.agg #[.int .i64 0, .int .i64 0, .int .i64 0, .int .i64 0])∧Below w.heap.size w w':=by
 have c2:=h.cells.2.1;have hp:=h.lt p h.self;clear h;go_enter Tryz.func145,Tryz.ntmps145;go_wp2_with fail;exact bodyPost_ret (v:= .agg #[.int .i64 0, .int .i64 0, .int .i64 0, .int .i64 0]) (by simp[results,Tryz.results145,go_sem]) rfl ⟨rfl,(am4 _ _).alloc (aA5 _) _⟩
theorem Jp{w:World}{p:Nat}{C:Nat→Prop}{A:Ar}{xs:List Nd}{vis:Int}{T:TT}(h:Head w p C A xs T.num vis)(hS:Sub w xs T)(hl:A.live=T.st.size)(hlm:T.st.size≤1000000000):
  Calls Tryz.prog 145 #[.pointer (some ⟨p,0,none⟩)] w fun e w'=>e= .returned (.agg #[.int .i64 T.st.bits.length, .int .i64 T.st.high, .int .i64 T.st.leaves, .int .i64 T.st.size])∧Below w.heap.size w w':=by
 have hr:=hS.root;obtain⟨g,rc,cur,c1,hgp,hCg,_⟩:=h.row (by have :=(ar5.1 hr).1;omega);obtain⟨_,_,hkx,_⟩:=h.node c1 hr;obtain⟨_,_,a2,_⟩:=h.eight c1 hr;rw[T.nd_high]at a2;have c2:=h.cells.2.1;have hp:=h.lt p h.self;have hg:=h.lt g hCg;have hlv:=T.st.size_leaves;have hll:(T.st.leaves:Int)=((T.st.size:Int)+1)/2:=E;have dr:((T.num:Int)== -1)=false:=by rw[aG5];omega
 have h1:∀n o,Head ((w.alloc o).drewN n) p C A xs T.num vis:=fun n o=>(h.below (aN w o)).drewN n;have HLI:Hid (∀o,Calls Tryz.prog 194 #[.pointer (some ⟨p,0,none⟩)] (w.alloc o) fun e w'=>e= .returned (.int .i64 T.st.size)∧∃n,w'=(w.alloc o).drewN n):=fun o=>by
  have :=Us (h1 0 o);rw[hl]at this;exact this
 have HLE:Hid (∀n o,Calls Tryz.prog 144 #[.pointer (some ⟨p,0,none⟩)] ((w.alloc o).drewN n) fun e w'=>e= .returned (.int .i64 T.st.bits.length)∧∃m,w'=((w.alloc o).drewN n).drewN m):=fun n o=>
  lM (h1 n o) (hS.chgC h ((Chg.refl.alloc o).drewN n) (fun _ _=>rfl))
 have HLL:=θ hll;clear h hS hr hl h1 hCg hlv hll;generalize T.num=nt at *;generalize T.st.size=z at *;generalize T.st.bits.length=n at *;generalize T.st.high=ht at *;go_enter Tryz.func145,Tryz.ntmps145;go_wp2_with fail;refine(HLI.o _).mono ?_;rintro e w' ⟨rfl,n1,rfl⟩;go_wp2_with fail;obtain⟨lv,hlv⟩:∃l,l=T.st.leaves:=⟨_,rfl⟩;have hw3:((z:Int)+1)/2=(lv:Int):=by rw[hlv];exact HLL.o.symm
 have hlv2:lv≤1000000000:=E;have hw1:IntKind.i64.wrap ((z:Int)+1)=(z:Int)+1:=ao4 _ E;have hw4:IntKind.i64.wrap (lv:Int)=(lv:Int):=ao4 _ E;have hw5:IntKind.i64.wrap (((z:Int)+1).tdiv 2)=(lv:Int):=by rw[ao0 E,hw3,hw4]
 have HLV:=θ hlv;have HL2:=θ (HLE.o (n1+1) (.cells #[.int .i64 0, .int .i64 0, .int .i64 0, .int .i64 0] 85));clear hlv HLI HLE;refine aE (fun w'=>w'.cell? ⟨p,1,none⟩=some (.slice (some ⟨g,0,none⟩) xs.length rc)∧w'.cell? ⟨p,2,none⟩=some (.int .i64 nt)∧w'.cell? ⟨g,nt*8+2,none⟩=some (.int .i64 ht)) Ek ?hish (fun hh=>?_);case hish=>(refine⟨?_,?_,?_⟩<;>go_simp)
 refine rt 0 hh ?_;refine rt 2 hh ?_;refine rt 3 hh ?_;refine rt 4 hh ?_;refine rt 5 hh ?_;refine rt 6 hh ?_;refine rt 7 hh ?_;refine rt 8 hh ?_;refine rt 9 hh ?_;refine rt 10 hh ?_;refine rt 11 hh ?_;refine rt 12 hh ?_;refine rt 13 hh ?_;refine rt 14 hh ?_;refine rt 15 hh ?_;refine rt 16 hh ?_;refine rg 1 fun κ hK=>?_;go_simp
 ((refine HL2.o.mono ?_))
 rintro e w2 ⟨rfl,n2,rfl⟩;refine hK.out _ _ ?kpsh1 (fun hNew=>?_);case kpsh1=>(refine⟨?_,?_,?_⟩<;>go_simp)
 clear hK κ hh;have hh:=hNew;clear hNew;try simp only[pt]
 refine rt 17 hh ?_;refine rg 18 fun κ hK=>?_;go_simp;refine hK.out _ _ ?kpsh18 (fun hNew=>?_);case kpsh18=>(refine⟨?_,?_,?_⟩<;>go_simp)
 clear hK κ hh;have hh:=hNew;clear hNew;try simp only[pt]
 refine rz ?_;clear hh;go_wp2_with fail;rw[←HLV.o];exact bodyPost_ret (v:= .agg #[.int .i64 n, .int .i64 ht, .int .i64 lv, .int .i64 z]) (by simp[results,Tryz.results145,go_sem]) rfl ⟨rfl,((((Hy ((am4 _ _).alloc (aA5 _) _) _).setCell (by exact aA5 _) _).setCell (by exact aA5 _) _).setCell (by exact aA5 _) _).setCell (by exact aA5 _) _⟩
def TLook(S:Nat→Prop)(w w':World)(p:Nat)(o:Option ST)(made m:Nat):Prop:=(∃v:Nat,v≤m∧TreeIs S w' p o made v)∧Chg S w w'
section
variable {S:Nat→Prop}{w w':World}{p made:Nat}{o:Option ST}{vis:Int}
theorem Vd{O:Option TT}(hg:oY (ost O))(hl:(aF (ost O)).length≤2147483648):OSm O:=by
 cases O with
 | none=>trivial
 | some T=>
  have h:=iA hg.2 hl;refine⟨?_,E⟩;have :T.st.bits.length≤2147483648:=hl;omega
theorem Yb(O:Option TT):yO O≤aO (ost O)+1:=by cases O<;>simp[yO,aO,ost]
theorem TreeIs.open (h:TreeIs S w p o made vis):∃(C:Nat→Prop) (A:Ar) (xs:List Nd) (O:Option TT),Head w p C A xs (iH O) vis∧OSub w xs O∧OSm O∧bI O=aF o∧yO O≤aO o+1∧(∀k,C k→S k)∧A.live=osz O∧made=A.T.length∧ost O=o∧
  (∀w' v,Head w' p C A xs (iH O) v→Chg C w w'→TreeIs S w' p o made v∧Chg S w w'):=by
 obtain⟨C,A,xs,O,h1,h2,h3,h4,h5,h6,rfl,h8,h9⟩:=h.ex;have hCS:∀k,C k→S k:=fun k hk=>(h9 k).2 (Ei hk);exact⟨C,A,xs,O,h1,h2,Vd h.good h.len,Xz O,Yb O,hCS,h5,h8,rfl,fun w' v hH hc=>
  ⟨⟨⟨C,A,xs,O,hH,h2.chgC h1 hc,h3,h4,h5,h6,rfl,h8,h9⟩,h.good,h.len⟩,hc.mono hCS⟩⟩
theorem TreeIs.drewN (h:TreeIs S w p o made vis)(n:Nat):TreeIs S (w.drewN n) p o made vis:=h.below ⟨rfl,rfl,rfl,aA5 _,fun _ _=>rfl⟩
theorem ak2(h:TreeIs S w p o made vis):Calls Tryz.prog 144 #[.pointer (some ⟨p,0,none⟩)] w fun e w'=>e= .returned (.int .i64 (aF o).length)∧∃n,w'=w.drewN n:=by
 obtain⟨C,A,xs,O,h1,h2,_,e,_⟩:=h.open;rw[←e];exact rH h1 h2
theorem Pc(h:TreeIs S w p o made vis):Calls Tryz.prog 206 #[.pointer (some ⟨p,0,none⟩)] w fun e w'=>e= .returned (.int .i64 vis)∧w=w':=by
 obtain⟨C,A,xs,O,h1,_⟩:=h.open;exact Jq h1
def sN:Option ST→Value
 | none=> .agg #[.int .i64 0, .int .i64 0, .int .i64 0, .int .i64 0]
 | some t=> .agg #[.int .i64 t.bits.length, .int .i64 t.high, .int .i64 t.leaves, .int .i64 t.size]
theorem Va(h:TreeIs S w p o made vis):Calls Tryz.prog 145 #[.pointer (some ⟨p,0,none⟩)] w fun e w'=>e= .returned (sN o)∧Below w.heap.size w w':=by
 have hg:=h.good;have hl:=h.len;obtain⟨C,A,xs,O,h1,h2,_,e,_,_,hv,_,rfl,_⟩:=h.open;cases O with
 | none=>exact Jo h1
 | some T=>
  have hs:=iA hg.2 hl;exact Jp h1 h2 hv E
theorem TLook.of {C:Nat→Prop}{A:Ar}{xs:List Nd}{root:Int}{m m':Nat}(hh:∀w' v,Head w' p C A xs root v→Chg C w w'→TreeIs S w' p o made v∧Chg S w w')(hL:Look w w' p C A xs root m)(hm:m≤m'):TLook S w w' p o made m':=by
 obtain⟨⟨v,hv,hH⟩,hc⟩:=hL;exact⟨⟨v,E,(hh w' v hH hc).1⟩,(hh w' v hH hc).2⟩
theorem ak1(h:TreeIs S w p o made vis)(k:Nat)(hk:k<(aF o).length):
  Calls Tryz.prog 158 #[.pointer (some ⟨p,0,none⟩), .int .i64 k] w fun e w'=>e= .returned (.tuple #[.bool (aR (aF o) k), .int .i64 0])∧TLook S w w' p o made (aO o+1):=by
 obtain⟨C,A,xs,O,h1,h2,hs,e,_,_,_,_,rfl,hh⟩:=h.open;cases O with
 | none=>simp[ost,aF]at hk
 | some T=>
  refine(Uq h1 h2 hs k hk).mono ?_;rintro e w' ⟨rfl,hL⟩;exact⟨rfl,TLook.of hh hL (aA5 _)⟩
theorem ab5(h:TreeIs S w p o made vis)(k:Int)(x:Bool):
  Calls Tryz.prog 210 #[.pointer (some ⟨p,0,none⟩), .int .i64 k, .bool x] w fun e w'=>e= .returned (.int .i64 (aJ (aF o) k.toNat x))∧TLook S w w' p o made (aO o+1):=by
 obtain⟨C,A,xs,O,h1,h2,hs,e,hi,_,_,_,_,hh⟩:=h.open;rw[←e];refine(Uz h1 h2 hs k x).mono ?_;rintro e w' ⟨rfl,hL⟩;exact⟨rfl,TLook.of hh hL hi⟩
theorem Pb(h:TreeIs S w p o made vis)(hTab:BitTab w)(hN:¬S 0)(j:Int)(x:Bool):
  Calls Tryz.prog 178 #[.pointer (some ⟨p,0,none⟩), .int .i64 j, .bool x] w fun e w'=>e= .returned (.int .i64 (cF (aF o) j x))∧TLook S w w' p o made (aO o+1):=by
 obtain⟨C,A,xs,O,h1,h2,hs,e,hi,hCS,_,_,_,hh⟩:=h.open;rw[←e];refine(Jl h1 h2 hs hTab (fun hc=>hN (hCS _ hc)) j x).mono ?_;rintro e w' ⟨rfl,hL⟩;exact⟨rfl,TLook.of hh hL hi⟩
end
def iG(o:Option ST)(k:Nat):Option ST:=match o with
 | none=>none
 | some t=>if (dS t k).bits.length=0 then none else some (dS t k)
theorem At{o:Option ST}{k:Nat}(hk:k<(aF o).length):aF (iG o k)=aB (aF o) k:=by
 cases o with
 | none=>simp[aF]at hk
 | some t=>
  have h:=iY (t:=t) (k:=k) hk;simp only[iG];split
  ·next h0=>show []=aB t.bits k;rw[←h];exact(aq2 h0).symm
  ·exact h
theorem Av{o:Option ST}{k:Nat}(hg:oY o)(hk:k<(aF o).length):oY (iG o k)∧aO (iG o k)≤aO o:=by
 cases o with
 | none=>exact⟨trivial,aA5 _⟩
 | some t=>
  have hk':k<t.bits.length:=hk;simp only[iG];split
  ·exact⟨trivial,aC8 _⟩
  ·next h0=>
   cases t with
   | leaf l=>
    have h2:(aB l k).length≠0:=h0;have h3:l.length≤128:=hg.2.2;have h4:(aB l k).length=l.length-1:=eJ hk;exact⟨⟨trivial,⟨E,E⟩⟩,aA5 _⟩
   | pair a b=>
    obtain⟨g1,g2,g3,g4⟩:=tB hg.1 (show (ST.pair a b).Fill from hg.2) hk;refine⟨⟨g1,?_⟩,g3⟩
    revert g2
    cases dS (.pair a b) k with
    | leaf l=>intro g2;exact⟨by have :=g2.1;omega,g2.2⟩
    | pair x y=>intro g2;exact g2
section
variable {S:Nat→Prop}{w w':World}{p made:Nat}{o:Option ST}{vis:Int}
theorem Oq(h:TreeIs S w p o made vis)(k:Nat)(hk:k<(aF o).length):
  Calls Tryz.prog 212 #[.pointer (some ⟨p,0,none⟩), .int .i64 k] w fun e w'=>e= .returned (.tuple #[.bool (aR (aF o) k), .int .i64 0])∧∃v',TreeStep S w w' p (iG o k) made v'∧0≤v'∧v'≤7*aO o+2:=by
 have hgood:=(Av h.good hk).1;have hbits:=At hk;have hlen':(aF (iG o k)).length≤2147483648:=by rw[hbits,eJ hk];have :=h.len;omega
 have hgo:=h.good;have hl:=h.len;obtain⟨C,A,xs,O,h1,h2,h3,h4,h5,h6,rfl,h8,h9⟩:=h.ex;have hCS:∀j,C j→S j:=fun j hj=>(h9 j).2 (Ei hj);cases O with
 | none=>simp[ost,aF]at hk
 | some T=>
  have hsm:=iA hgo.2 hl;have hl':T.st.bits.length≤2147483648:=hl;have hlv:A.live=T.st.size:=h5;refine(Gv h1 h2 h4 h3 E E hgo.1 ?_ k hk).mono ?_
  ·have hr:T.st.Root:=hgo.2
   revert hr
   cases T.st with
   | leaf l=>exact fun _=>Ei rfl
   | pair a b=>exact fun hr=>Ej hr
  rintro e w' ⟨rfl,T',C',A',xs',v',hst,hv0,hv1,hC,hB,hx,hM,hmd,hc,hO⟩;have hbc:∀j,(C' j∨j∈T'.bl)→S j∨w.heap.size≤j:=fun j hj=>hj.elim (fun h=>(hC j h).imp (hCS j) id) (fun h=>(hB j h).imp (fun h=>(h9 j).2 (Ej h)) id);have hcS:Chg S w w':=hc.mono (fun j hj=>(h9 j).2 hj);rcases hO with ⟨h0,hH,hSub,hOw,hlv'⟩ | ⟨h0,hH,hlv'⟩
  ·refine⟨rfl,v',⟨⟨fun j=>C' j∨j∈obl (some T'),⟨⟨C',A',xs',some T',hH,hSub,hOw,hx,?_,by rw[hM,h6],?_,by rw[h8,hmd],fun j=>Iff.rfl⟩,hgood,hlen'⟩,hbc⟩,hcS⟩,hv0,hv1⟩
   ·show A'.live=T'.st.size;omega
   ·show some T'.st=_;simp only[ost,iG];rw[←hst,aH8 h0]
  ·refine⟨rfl,v',⟨⟨C',⟨⟨C',A',xs',none,hH,trivial,trivial,hx,?_,by rw[hM,h6],?_,by rw[h8,hmd],fun j=>by simp[obl]⟩,hgood,hlen'⟩,fun j hj=>hbc j (Ei hj)⟩,hcS⟩,hv0,hv1⟩
   ·show A'.live=0;have h7:T'.st.size=1:=by
     have hg':(dS T.st k).bits.length=0:=by rw[←hst];exact h0
     rw[hst]
     revert hg'
     have hav:T.st.Avl:=hgo.1;have hrt:T.st.Root:=hgo.2;have hk':k<T.st.bits.length:=hk
     revert hav hrt hk'
     cases T.st with
     | leaf l=>intros;rfl
     | pair a b=>
      intro hav hrt hk' hg';obtain⟨g1,g2,g3,g4⟩:=tB hav (show (ST.pair a b).Fill from hrt) hk'
      revert g2 hg'
      cases dS (.pair a b) k with
      | leaf l=>intros;rfl
      | pair x y=>
       intro hg' g2;have g3:=ST.Fill.len (t:= .pair x y) g2;have :=ST.leaves_pos (.pair x y);omega
    omega
   ·simp only[ost,iG];rw[←hst,aH9 h0]
theorem ak3(w:World){a:Option Addr}{c:Nat}(L:List Bool)(hr:ReadsV w a (L.map Value.bool))(hc:L.length≤c)(hL:L.length≤2147483648):
  Calls Tryz.prog 195 #[.slice a L.length c] w fun e w'=>∃p S o,e= .returned (.pointer (some ⟨p,0,none⟩))∧TreeIs S w' p o (match o with | none=>0 | some t=>t.size) 0∧(∀k,S k→w.heap.size≤k)∧aF o=L∧Chg (fun _=>False) w w':=by
 by_cases h0:L.length=0
 ·obtain rfl:=aq2 h0;refine(ab4 w a c).mono ?_;rintro e w' ⟨p,q,rfl,hp,hq,hH,hcg⟩;refine⟨p,fun k=>k=p∨k=q,none,rfl,⟨⟨_,_,[],none,hH,trivial,trivial,rfl,rfl,rfl,rfl,rfl,fun k=>by simp[obl]⟩,trivial,by simp[aF]⟩,fun k hk=>by rcases hk with rfl | rfl<;>assumption,rfl,hcg⟩
 ·have had:∀ad,a=some ad→ad.block<w.heap.size:=by
   intro ad h;obtain⟨b,off,h2,h3,_⟩:=hr 0 (by rw[at1];omega);rw[h]at h2;injection h2 with h2;rw[h2];exact h3
  refine(Uv w hr hc hL E had).mono ?_;rintro e w' ⟨p,st,S,rfl,h1,h2,h3,h4⟩;exact⟨p,S,some st,rfl,h1,h2,h3,h4⟩
end
def exT(B:Nat)(X:Nat→Prop)(k:Nat):Prop:=B≤k∧¬X k
section
variable {B:Nat}{X:Nat→Prop}{w w':World}{p made:Nat}{o:Option ST}{vis:Int}
theorem eE(hc:Chg (exT B X) w w')(hB:B≤w.heap.size):Below B w w':=hc.below (fun b hb=>hb.1) hB
end
def pw(l:Nat):Nat:=2^l
theorem Fm(l:Nat):0<pw l:=aC6 l
theorem tH{l:Nat}(h:l<9):pw l≤256:=by
 unfold pw;exact aA6 (aB8 E (E:l≤8)) Ed
theorem TreeIs.types {S:Nat→Prop}{w:World}{p made:Nat}{o:Option ST}{vis:Int}(h:TreeIs S w p o made vis){k:Nat}(hk:S k):
  TypeAt w k 218∨TypeAt w k 221∨TypeAt w k 186∨TypeAt w k 4∨TypeAt w k 3∨TypeAt w k 242:=by
 obtain⟨C,A,xs,O,h1,h2,_,_,_,_,_,_,h9⟩:=h.ex;rcases(h9 k).1 hk with hk | hk
 ·rcases h1.types hk with g | g | g | g | g
  ·exact Ei g
  ·exact Ej (Ei g)
  ·exact Ej (Ej (Ei g))
  ·exact Ej (Ej (Ej (Ei g)))
  ·exact Ej (Ej (Ej (Ej (Ei g))))
 ·cases O with
  | none=>simp[obl]at hk
  | some T=>exact Ej (Ej (Ej (Ej (Ej (Sub.type h2 hk)))))
theorem TreeIs.notT {S:Nat→Prop}{w:World}{p made:Nat}{o:Option ST}{vis:Int}(h:TreeIs S w p o made vis){k:Nat}{T:TypeId}(hk:TypeAt w k T)
  (hT:T≠218∧T≠221∧T≠186∧T≠4∧T≠3∧T≠242):¬S k:=by
 intro hs;rcases h.types hs with g | g | g | g | g | g
 ·exact hk.ne g hT.1 rfl
 ·exact hk.ne g hT.2.1 rfl
 ·exact hk.ne g hT.2.2.1 rfl
 ·exact hk.ne g hT.2.2.2.1 rfl
 ·exact hk.ne g hT.2.2.2.2.1 rfl
 ·exact hk.ne g hT.2.2.2.2.2 rfl
structure WD where
 G:Nat→Nat
 C:Nat→Nat
 Q:Nat→Nat→Nat
def WD.row (D:WD)(l:Nat):Value:= .slice (some ⟨D.G l,0,none⟩) (pw l) (D.C l)
def Cx(D:WD)(n:Nat)(vis:Int):Array Value:=
 #[D.row 0,D.row 1,D.row 2,D.row 3,D.row 4,D.row 5,D.row 6,D.row 7,D.row 8, .int .i64 n, .int .i64 vis]
def rowsV(D:WD):Value:= .agg #[D.row 0,D.row 1,D.row 2,D.row 3,D.row 4,D.row 5,D.row 6,D.row 7,D.row 8]
def bQ(D:WD)(l k:Nat):Value:= .agg #[.pointer (some ⟨D.Q l k,0,none⟩), .int .i64 l, .int .i64 k]
structure WaveIn (w:World) (p:Nat) (D:WD) (O:Nat→Nat→Option ST) (S:Nat→Nat→Nat→Prop) (n:Nat) (vis:Int) (Vb:Nat→Nat→Int→Prop):Prop where
 head:w.heap[p]? =some (.cells (Cx D n vis) 178 (0,0))
 rty:∀l,l<9→∃cs,w.heap[D.G l]? =some (.cells cs 181 (0,0))
 rows:∀l k,l<9→k<pw l→w.cell? ⟨D.G l,k*3,none⟩=some (.pointer (some ⟨D.Q l k,0,none⟩))∧w.cell? ⟨D.G l,k*3+1,none⟩=some (.int .i64 l)∧w.cell? ⟨D.G l,k*3+2,none⟩=some (.int .i64 k)
 tree:∀l k,l<9→k<pw l→∃(made:Nat) (v:Int),Vb l k v∧TreeIs (S l k) w (D.Q l k) (O l k) made v
 dis:∀l k l' k',l<9→k<pw l→l'<9→k'<pw l'→(l≠l'∨k≠k')→∀j,S l k j→¬S l' k' j
def WvB(p:Nat)(D:WD)(S:Nat→Nat→Nat→Prop)(j:Nat):Prop:=j=p∨(∃l,l<9∧j=D.G l)∨∃l k,l<9∧k<pw l∧S l k j
structure WaveE (B:Nat) (X:Nat→Prop) (w:World) (p:Nat) (D:WD) (O:Nat→Nat→Option ST) (n:Nat) (vis:Int) (Vb:Nat→Nat→Int→Prop):Prop where
 i:∃S,WaveIn w p D O S n vis Vb∧∀j,WvB p D S j→exT B X j
 le:B≤w.heap.size
 x:∀k,X k→k<w.heap.size
def bA:Nat→Nat→Int→Prop:=fun _ _ _=>True
def dM{α:Type}(O:Nat→Nat→α)(l k:Nat)(o:α):Nat→Nat→α:=fun l' k'=>if l'=l∧k'=k then o else O l' k'
theorem cA{α:Type}(O:Nat→Nat→α)(l k:Nat)(o:α):dM O l k o l k=o:=by simp[dM]
theorem dI{α:Type}(O:Nat→Nat→α){l k l' k':Nat}(o:α)(h:l'≠l∨k'≠k):dM O l k o l' k'=O l' k':=by
 unfold dM;rw[aH8 E]
theorem sW{α:Type}(O:Nat→Nat→α)(l k:Nat):dM O l k (O l k)=O:=by
 funext l' k';unfold dM;split
 ·next h=>rw[h.1,h.2]
 ·rfl
section
variable {B:Nat}{X Y:Nat→Prop}{w w':World}{p n:Nat}{D:WD}{O:Nat→Nat→Option ST}{S:Nat→Nat→Nat→Prop}{vis vis':Int}{Vb Vc:Nat→Nat→Int→Prop}
theorem WaveIn.tyP (h:WaveIn w p D O S n vis Vb):TypeAt w p 178:=⟨_,h.head⟩
theorem WaveIn.tyG (h:WaveIn w p D O S n vis Vb){l:Nat}(hl:l<9):TypeAt w (D.G l) 181:=by
 obtain⟨cs,h⟩:=h.rty l hl;exact⟨cs,h⟩
theorem WaveIn.nP (h:WaveIn w p D O S n vis Vb){l k:Nat}(hl:l<9)(hk:k<pw l):¬S l k p:=by
 obtain⟨m,v,_,ht⟩:=h.tree l k hl hk;exact ht.notT h.tyP Ed
theorem WaveIn.nG (h:WaveIn w p D O S n vis Vb){l k l':Nat}(hl:l<9)(hk:k<pw l)(hl':l'<9):¬S l k (D.G l'):=by
 obtain⟨m,v,_,ht⟩:=h.tree l k hl hk;exact ht.notT (h.tyG hl') Ed
theorem WaveIn.pG (h:WaveIn w p D O S n vis Vb){l:Nat}(hl:l<9):D.G l≠p:=TypeAt.ne (h.tyG hl) h.tyP Ed
theorem WaveIn.lt (h:WaveIn w p D O S n vis Vb):∀j,WvB p D S j→j<w.heap.size:=by
 rintro j (rfl | ⟨l,hl,rfl⟩ | ⟨l,k,hl,hk,hj⟩)
 ·exact h.tyP.lt
 ·exact(h.tyG hl).lt
 ·obtain⟨m,v,_,ht⟩:=h.tree l k hl hk;exact ht.lt j hj
theorem WaveIn.chg {Z:Nat→Prop}(h:WaveIn w p D O S n vis Vb)(hc:Chg Z w w')(hd:∀j,WvB p D S j→¬Z j):WaveIn w' p D O S n vis Vb:=by
 refine⟨hc.heap h.head (hd p (Ei rfl)),fun l hl=>?_,fun l k hl hk=>?_,fun l k hl hk=>?_,h.dis⟩
 ·obtain⟨cs,h1⟩:=h.rty l hl;exact⟨cs,hc.heap h1 (hd _ (Ej (Ei ⟨l,hl,rfl⟩)))⟩
 ·obtain⟨a,b,c⟩:=h.rows l k hl hk;have hn:=hd _ (Ej (Ei ⟨l,hl,rfl⟩));exact⟨hc.cell (p:=⟨D.G l,k*3,none⟩) a hn,hc.cell (p:=⟨D.G l,k*3+1,none⟩) b hn,hc.cell (p:=⟨D.G l,k*3+2,none⟩) c hn⟩
 ·obtain⟨m,v,hv,ht⟩:=h.tree l k hl hk;exact⟨m,v,hv,ht.chg hc (fun j hj=>hd j (Ej (Ej ⟨l,k,hl,hk,hj⟩)))⟩
theorem WaveIn.put (h:WaveIn w p D O S n vis Vb){n':Nat}(hc:Chg (fun j=>j=p) w w')(hp:w'.heap[p]? =some (.cells (Cx D n' vis') 178 (0,0))):WaveIn w' p D O S n' vis' Vb:=by
 refine⟨hp,fun l hl=>?_,fun l k hl hk=>?_,fun l k hl hk=>?_,h.dis⟩
 ·obtain⟨cs,h1⟩:=h.rty l hl;exact⟨cs,hc.heap h1 (h.pG hl)⟩
 ·obtain⟨a,b,c⟩:=h.rows l k hl hk;have hn:=h.pG hl;exact⟨hc.cell (p:=⟨D.G l,k*3,none⟩) a hn,hc.cell (p:=⟨D.G l,k*3+1,none⟩) b hn,hc.cell (p:=⟨D.G l,k*3+2,none⟩) c hn⟩
 ·obtain⟨m,v,hv,ht⟩:=h.tree l k hl hk;exact⟨m,v,hv,ht.chg hc (fun j hj e=>h.nP hl hk (by rw[←e];exact hj))⟩
theorem WaveIn.step (h:WaveIn w p D O S n vis Vb){l k:Nat}(hl:l<9)(hk:k<pw l){S':Nat→Prop}{o':Option ST}{made':Nat}{v':Int}(ht:TreeIs S' w' (D.Q l k) o' made' v')(hS:∀j,S' j→S l k j∨w.heap.size≤j)(hc:Chg (S l k) w w')
  (hv:Vc l k v') (hvv:∀l' k' v,Vb l' k' v→(l'≠l∨k'≠k)→Vc l' k' v):WaveIn w' p D (dM O l k o') (dM S l k S') n vis Vc:=by
 refine⟨hc.heap h.head (h.nP hl hk),fun l' hl'=>?_,fun l' k' hl' hk'=>?_,fun l' k' hl' hk'=>?_,fun l1 k1 l2 k2 h1 h2 h3 h4 hne j hj hj2=>?_⟩
 ·obtain⟨cs,h1⟩:=h.rty l' hl';exact⟨cs,hc.heap h1 (h.nG hl hk hl')⟩
 ·obtain⟨a,b,c⟩:=h.rows l' k' hl' hk';have hn:=h.nG hl hk hl';exact⟨hc.cell (p:=⟨D.G l',k'*3,none⟩) a hn,hc.cell (p:=⟨D.G l',k'*3+1,none⟩) b hn,hc.cell (p:=⟨D.G l',k'*3+2,none⟩) c hn⟩
 ·by_cases e:l'=l∧k'=k
  ·obtain⟨rfl,rfl⟩:=e;rw[cA,cA];exact⟨made',v',hv,ht⟩
  ·have hne:l'≠l∨k'≠k:=E;rw[dI _ _ hne,dI _ _ hne];obtain⟨m,v,hvb,ht2⟩:=h.tree l' k' hl' hk';exact⟨m,v,hvv l' k' v hvb hne,ht2.chg hc (fun j hj=>h.dis l' k' l k hl' hk' hl hk E j hj)⟩
 ·have key:∀l1 k1,l1<9→k1<pw l1→dM S l k S' l1 k1 j→(l1=l∧k1=k∧(S l k j∨w.heap.size≤j))∨((l1≠l∨k1≠k)∧S l1 k1 j):=by
   intro l1 k1 h1 h2 hj;by_cases e:l1=l∧k1=k
   ·obtain⟨rfl,rfl⟩:=e;rw[cA]at hj;exact Ei ⟨rfl,rfl,hS j hj⟩
   ·have hne:l1≠l∨k1≠k:=E;rw[dI _ _ hne]at hj;exact Ej ⟨hne,hj⟩
  have ltS:∀l1 k1,l1<9→k1<pw l1→S l1 k1 j→j<w.heap.size:=fun l1 k1 h1 h2 hj=>h.lt j (Ej (Ej ⟨l1,k1,h1,h2,hj⟩));rcases key l1 k1 h1 h2 hj with ⟨e1,e2,e3⟩ | ⟨e1,e2⟩<;>rcases key l2 k2 h3 h4 hj2 with ⟨f1,f2,f3⟩ | ⟨f1,f2⟩
  ·omega
  ·rcases e3 with e3 | e3
   ·exact h.dis l k l2 k2 hl hk h3 h4 E j e3 f2
   ·have :=ltS l2 k2 h3 h4 f2;omega
  ·rcases f3 with f3 | f3
   ·exact h.dis l k l1 k1 hl hk h1 h2 E j f3 e2
   ·have :=ltS l1 k1 h1 h2 e2;omega
  ·exact h.dis l1 k1 l2 k2 h1 h2 h3 h4 hne j e2 f2
theorem WaveE.vb (h:WaveE B X w p D O n vis Vb)(hv:∀l k v,Vb l k v→Vc l k v):WaveE B X w p D O n vis Vc:=by
 obtain⟨S,h1,h2⟩:=h.i;exact⟨⟨S,⟨h1.head,h1.rty,h1.rows,fun l k hl hk=>by obtain⟨m,v,hvb,ht⟩:=h1.tree l k hl hk;exact⟨m,v,hv l k v hvb,ht⟩,h1.dis⟩,h2⟩,h.le,h.x⟩
theorem WaveE.any (h:WaveE B X w p D O n vis Vb):WaveE B X w p D O n vis bA:=h.vb (fun _ _ _ _=>trivial)
theorem WaveE.less (h:WaveE B X w p D O n vis Vb)(hb:Below w.heap.size w w')(hy:∀k,Y k→X k∨w.heap.size≤k)(hl:∀k,Y k→k<w'.heap.size):WaveE B Y w' p D O n vis Vb:=by
 obtain⟨S,h1,h2⟩:=h.i;refine⟨⟨S,h1.chg (Z:=fun _=>False) (Chg.of_below hb) (fun _ _ hf=>hf),fun j hj=>⟨(h2 j hj).1,fun hY=>(hy j hY).elim (h2 j hj).2 (fun g=>by have :=h1.lt j hj;omega)⟩⟩,aA6 h.le hb.size,hl⟩
theorem WaveE.below (h:WaveE B X w p D O n vis Vb)(hb:Below w.heap.size w w'):WaveE B X w' p D O n vis Vb:=h.less hb (fun k hk=>Ei hk) (fun k hk=>aA9 (h.x k hk) hb.size)
theorem WaveE.drewN (h:WaveE B X w p D O n vis Vb)(m:Nat):WaveE B X (w.drewN m) p D O n vis Vb:=h.below ⟨rfl,rfl,rfl,aA5 _,fun _ _=>rfl⟩
theorem WaveE.chg {Z:Nat→Prop}(h:WaveE B X w p D O n vis Vb)(hc:Chg Z w w')(hd:∀k,exT B X k→k<w.heap.size→¬Z k):WaveE B X w' p D O n vis Vb:=by
 obtain⟨S,h1,h2⟩:=h.i;exact⟨⟨S,h1.chg hc (fun k hk=>hd k (h2 k hk) (h1.lt k hk)),h2⟩,aA6 h.le hc.size,fun k hk=>aA9 (h.x k hk) hc.size⟩
theorem WaveE.mono (h:WaveE B X w p D O n vis Vb)(hy:∀k,Y k→X k):WaveE B Y w p D O n vis Vb:=by
 obtain⟨S,h1,h2⟩:=h.i;exact⟨⟨S,h1,fun j hj=>⟨(h2 j hj).1,fun hY=>(h2 j hj).2 (hy j hY)⟩⟩,h.le,fun k hk=>h.x k (hy k hk)⟩
theorem WaveE.step (h:WaveE B X w p D O n vis Vb){l k:Nat}(hl:l<9)(hk:k<pw l):
  ∃(S:Nat→Prop) (made:Nat) (v:Int),Vb l k v∧TreeIs S w (D.Q l k) (O l k) made v∧(∀j,S j→exT B X j)∧
   ∀w' S' o' made' v' Vc,TreeIs S' w' (D.Q l k) o' made' v'→(∀j,S' j→S j∨w.heap.size≤j)→Chg S w w'→Vc l k v'→(∀l' k' v,Vb l' k' v→(l'≠l∨k'≠k)→Vc l' k' v)→
    WaveE B X w' p D (dM O l k o') n vis Vc∧Chg (exT B X) w w':=by
 obtain⟨S,h1,h2⟩:=h.i;obtain⟨m,v,hv,ht⟩:=h1.tree l k hl hk;have hSx:∀j,S l k j→exT B X j:=fun j hj=>h2 j (Ej (Ej ⟨l,k,hl,hk,hj⟩));refine⟨S l k,m,v,hv,ht,hSx,fun w' S' o' made' v' Vc ht' hS hc hvc hvv=>⟨⟨⟨dM S l k S',h1.step hl hk ht' hS hc hvc hvv,?_⟩,aA6 h.le hc.size,fun j hj=>aA9 (h.x j hj) hc.size⟩,hc.mono hSx⟩⟩;rintro j (rfl | ⟨l1,hl1,rfl⟩ | ⟨l1,k1,hl1,hk1,hj⟩)
 ·exact h2 _ (Ei rfl)
 ·exact h2 _ (Ej (Ei ⟨l1,hl1,rfl⟩))
 ·by_cases e:l1=l∧k1=k
  ·obtain⟨rfl,rfl⟩:=e;rw[cA]at hj;rcases hS j hj with hj | hj
   ·exact hSx j hj
   ·exact⟨aA6 h.le hj,fun hx=>by have :=h.x j hx;omega⟩
  ·have hne:l1≠l∨k1≠k:=E;rw[dI _ _ hne]at hj;exact h2 j (Ej (Ej ⟨l1,k1,hl1,hk1,hj⟩))
theorem WaveE.head (h:WaveE B X w p D O n vis Vb):w.heap[p]? =some (.cells (Cx D n vis) 178 (0,0))∧exT B X p:=by
 obtain⟨S,h1,h2⟩:=h.i;exact⟨h1.head,h2 p (Ei rfl)⟩
theorem WaveE.put (h:WaveE B X w p D O n vis Vb){n':Nat}(hc:Chg (fun j=>j=p) w w')(hp:w'.heap[p]? =some (.cells (Cx D n' vis') 178 (0,0))):WaveE B X w' p D O n' vis' Vb:=by
 obtain⟨S,h1,h2⟩:=h.i;exact⟨⟨S,h1.put hc hp,h2⟩,aA6 h.le hc.size,fun j hj=>aA9 (h.x j hj) hc.size⟩
theorem WaveE.setVis (h:WaveE B X w p D O n vis Vb)(v:Int):WaveE B X (w.setCell ⟨p,10,none⟩ (.int .i64 v)) p D O n v Vb∧Chg (exT B X) w (w.setCell ⟨p,10,none⟩ (.int .i64 v)):=by
 have hc:Chg (fun j=>j=p) w (w.setCell ⟨p,10,none⟩ (.int .i64 v)):=Chg.refl.setCell (S:=fun j=>j=p) ⟨p,10,none⟩ (Ei rfl) _;exact⟨h.put hc (aH6 w p 10 _ _ _ h.head.1),hc.mono (fun j hj=>by subst hj;exact h.head.2)⟩
theorem WaveE.setN (h:WaveE B X w p D O n vis Vb)(m:Nat):WaveE B X (w.setCell ⟨p,9,none⟩ (.int .i64 m)) p D O m vis Vb∧Chg (exT B X) w (w.setCell ⟨p,9,none⟩ (.int .i64 m)):=by
 have hc:Chg (fun j=>j=p) w (w.setCell ⟨p,9,none⟩ (.int .i64 m)):=Chg.refl.setCell (S:=fun j=>j=p) ⟨p,9,none⟩ (Ei rfl) _;exact⟨h.put hc (aH6 w p 9 _ _ _ h.head.1),hc.mono (fun j hj=>by subst hj;exact h.head.2)⟩
theorem WaveE.cells (h:WaveE B X w p D O n vis Vb):(∀l,l<9→w.cell? ⟨p,l,none⟩=some (D.row l))∧w.cell? ⟨p,9,none⟩=some (.int .i64 n)∧w.cell? ⟨p,10,none⟩=some (.int .i64 vis)∧(∀j,w.frozen? ⟨p,j,none⟩=false)∧p<w.heap.size:=by
 have hp:=h.head.1;refine⟨fun l hl=>?_,by rw[aG7 w p 9 _ _ _ hp];rfl,by rw[aG7 w p 10 _ _ _ hp];rfl,fun j=>aH3 w p j _ _ hp,(am0.1 hp).1⟩;rw[aG7 w p l _ _ _ hp];have :l=0∨l=1∨l=2∨l=3∨l=4∨l=5∨l=6∨l=7∨l=8:=E;rcases this with rfl | rfl | rfl | rfl | rfl | rfl | rfl | rfl | rfl<;>rfl
theorem WaveE.shelf (h:WaveE B X w p D O n vis Vb){l k:Nat}(hl:l<9)(hk:k<pw l):w.cell? ⟨D.G l,k*3,none⟩=some (.pointer (some ⟨D.Q l k,0,none⟩))∧w.cell? ⟨D.G l,k*3+1,none⟩=some (.int .i64 l)∧w.cell? ⟨D.G l,k*3+2,none⟩=some (.int .i64 k):=by
 obtain⟨S,h1,_⟩:=h.i;exact h1.rows l k hl hk
end
def lU(l k M:Nat):Nat→Nat→Int→Prop:=fun l' k' v=>l'=l→k'=k→0≤v∧v≤M
section
variable {B:Nat}{X:Nat→Prop}{w w':World}{p n:Nat}{D:WD}{O:Nat→Nat→Option ST}{vis:Int}{Vb:Nat→Nat→Int→Prop}{l k:Nat}
theorem qD{M v:Nat}(h:v≤M):lU l k M l k (v:Int):=fun _ _=>⟨E,by exact_mod_cast h⟩
theorem qE{M:Nat}{Vb:Nat→Nat→Int→Prop}:∀l' k' v,Vb l' k' v→(l'≠l∨k'≠k)→lU l k M l' k' v:=fun l' k' v _ hne h1 h2=>E
theorem WaveE.tLen (h:WaveE B X w p D O n vis Vb)(hl:l<9)(hk:k<pw l):
  Calls Tryz.prog 144 #[.pointer (some ⟨D.Q l k,0,none⟩)] w fun e w'=>e= .returned (.int .i64 (aF (O l k)).length)∧∃m,w'=w.drewN m:=by
 obtain⟨S,made,v,hv,ht,hS,hst⟩:=h.step hl hk;exact ak2 ht
theorem WaveE.tShape (h:WaveE B X w p D O n vis Vb)(hl:l<9)(hk:k<pw l):
  Calls Tryz.prog 145 #[.pointer (some ⟨D.Q l k,0,none⟩)] w fun e w'=>e= .returned (sN (O l k))∧Below w.heap.size w w':=by
 obtain⟨S,made,v,hv,ht,hS,hst⟩:=h.step hl hk;exact Va ht
theorem WaveE.tGood (h:WaveE B X w p D O n vis Vb)(hl:l<9)(hk:k<pw l):oY (O l k)∧(aF (O l k)).length≤2147483648:=by
 obtain⟨S,made,v,hv,ht,hS,hst⟩:=h.step hl hk;exact⟨ht.good,ht.len⟩
theorem WaveE.tRank (h:WaveE B X w p D O n vis Vb)(hl:l<9)(hk:k<pw l)(j:Int)(x:Bool):
  Calls Tryz.prog 210 #[.pointer (some ⟨D.Q l k,0,none⟩), .int .i64 j, .bool x] w fun e w'=>e= .returned (.int .i64 (aJ (aF (O l k)) j.toNat x))∧WaveE B X w' p D O n vis (lU l k (aO (O l k)+1))∧Chg (exT B X) w w':=by
 obtain⟨S,made,v,hv,ht,hS,hst⟩:=h.step hl hk;refine(ab5 ht j x).mono ?_;rintro e w' ⟨rfl,⟨v',hv',ht'⟩,hc⟩;have :=hst w' S _ made v' (lU l k (aO (O l k)+1)) ht' (fun j hj=>Ei hj) hc (qD hv') qE;rw[sW]at this;exact⟨rfl,this⟩
theorem WaveE.tGet (h:WaveE B X w p D O n vis Vb)(hl:l<9)(hk:k<pw l)(j:Nat)(hj:j<(aF (O l k)).length):
  Calls Tryz.prog 158 #[.pointer (some ⟨D.Q l k,0,none⟩), .int .i64 j] w fun e w'=>e= .returned (.tuple #[.bool (aR (aF (O l k)) j), .int .i64 0])∧WaveE B X w' p D O n vis (lU l k (aO (O l k)+1))∧Chg (exT B X) w w':=by
 obtain⟨S,made,v,hv,ht,hS,hst⟩:=h.step hl hk;refine(ak1 ht j hj).mono ?_;rintro e w' ⟨rfl,⟨v',hv',ht'⟩,hc⟩;have :=hst w' S _ made v' (lU l k (aO (O l k)+1)) ht' (fun j hj=>Ei hj) hc (qD hv') qE;rw[sW]at this;exact⟨rfl,this⟩
theorem WaveE.tSelect (h:WaveE B X w p D O n vis Vb)(hl:l<9)(hk:k<pw l)(hTab:BitTab w)(hN:0<B)(j:Int)(x:Bool):
  Calls Tryz.prog 178 #[.pointer (some ⟨D.Q l k,0,none⟩), .int .i64 j, .bool x] w fun e w'=>e= .returned (.int .i64 (cF (aF (O l k)) j x))∧WaveE B X w' p D O n vis (lU l k (aO (O l k)+1))∧Chg (exT B X) w w':=by
 obtain⟨S,made,v,hv,ht,hS,hst⟩:=h.step hl hk;refine(Pb ht hTab (fun hs=>by have :=(hS _ hs).1;omega) j x).mono ?_;rintro e w' ⟨rfl,⟨v',hv',ht'⟩,hc⟩;have :=hst w' S _ made v' (lU l k (aO (O l k)+1)) ht' (fun j hj=>Ei hj) hc (qD hv') qE;rw[sW]at this;exact⟨rfl,this⟩
theorem WaveE.tInsert (h:WaveE B X w p D O n vis Vb)(hl:l<9)(hk:k<pw l)(j:Nat)(hj:j≤(aF (O l k)).length)(hlen:(aF (O l k)).length<2147483648)(x:Bool):
  Calls Tryz.prog 216 #[.pointer (some ⟨D.Q l k,0,none⟩), .int .i64 j, .bool x] w fun e w'=>e= .returned (.int .i64 0)∧WaveE B X w' p D (dM O l k (lO (O l k) j x)) n vis (lU l k (7*aO (O l k)+2))∧Chg (exT B X) w w':=by
 obtain⟨S,made,v,hv,ht,hS,hst⟩:=h.step hl hk;refine(Ox ht hlen j hj x).mono ?_;rintro e w' ⟨rfl,made',v',⟨⟨S',ht',hS'⟩,hc⟩,h0,h1⟩;obtain⟨u,rfl⟩:=am8 h0;exact⟨rfl,hst w' S' _ made' u (lU l k (7*aO (O l k)+2)) ht' hS' hc (qD (by have h1':(u:Int)≤7*(aO (O l k):Int)+2:=h1;omega)) qE⟩
theorem WaveE.tDelete (h:WaveE B X w p D O n vis Vb)(hl:l<9)(hk:k<pw l)(j:Nat)(hj:j<(aF (O l k)).length):
  Calls Tryz.prog 212 #[.pointer (some ⟨D.Q l k,0,none⟩), .int .i64 j] w fun e w'=>e= .returned (.tuple #[.bool (aR (aF (O l k)) j), .int .i64 0])∧WaveE B X w' p D (dM O l k (iG (O l k) j)) n vis (lU l k (7*aO (O l k)+2))∧Chg (exT B X) w w':=by
 obtain⟨S,made,v,hv,ht,hS,hst⟩:=h.step hl hk;refine(Oq ht j hj).mono ?_;rintro e w' ⟨rfl,v',⟨⟨S',ht',hS'⟩,hc⟩,h0,h1⟩;obtain⟨u,rfl⟩:=am8 h0;exact⟨rfl,hst w' S' _ made u (lU l k (7*aO (O l k)+2)) ht' hS' hc (qD (by have h1':(u:Int)≤7*(aO (O l k):Int)+2:=h1;omega)) qE⟩
end
def shC(Q:Nat→Nat→Nat)(l k:Nat):List Value:=(List.range k).flatMap (fun i=>[.pointer (some ⟨Q l i,0,none⟩), .int .i64 l, .int .i64 i])
theorem oE(Q:Nat→Nat→Nat)(l k:Nat):shC Q l (k+1)=shC Q l k++[.pointer (some ⟨Q l k,0,none⟩), .int .i64 l, .int .i64 k]:=by
 unfold shC;rw[ay4,aq6];simp
theorem Lm(Q:Nat→Nat→Nat)(l k:Nat):(shC Q l k).length=k*3:=by
 induction k with
 | zero=>rfl
 | succ k ih=>rw[oE,as6,ih];simp;omega
theorem Cd{Q Q':Nat→Nat→Nat}{l k:Nat}(h:∀i,i<k→Q l i=Q' l i):shC Q l k=shC Q' l k:=by
 induction k with
 | zero=>rfl
 | succ k ih=>rw[oE,oE,ih (fun i hi=>h i E),h k E]
theorem aj0(Q:Nat→Nat→Nat)(l:Nat){i k:Nat}(h:i<k):(shC Q l k)[i*3]? =some (.pointer (some ⟨Q l i,0,none⟩))∧(shC Q l k)[i*3+1]? =some (.int .i64 l)∧(shC Q l k)[i*3+2]? =some (.int .i64 i):=by
 induction k with
 | zero=>omega
 | succ k ih=>
  rw[oE];by_cases e:i=k
  ·subst e;have hl:=Lm Q l i;refine⟨?_,?_,?_⟩
   ·rw[ar0 E,hl,aC0];rfl
   ·rw[ar0 E,hl,show i*3+1-i*3=1 by omega];rfl
   ·rw[ar0 E,hl,show i*3+2-i*3=2 by omega];rfl
  ·obtain⟨a,b,c⟩:=ih E;have hl:=Lm Q l k;refine⟨?_,?_,?_⟩
   ·rw[aq9 E];exact a
   ·rw[aq9 E];exact b
   ·rw[aq9 E];exact c
def iK(V:Nat→Value)(n:Nat):Array Value:=#[V 0,V 1,V 2,V 3,V 4,V 5,V 6,V 7,V 8, .int .i64 n, .int .i64 0]
def bM(V:Nat→Value)(l:Nat)(v:Value):Nat→Value:=fun l'=>if l'=l then v else V l'
def mS(c:Nat→Nat)(l:Nat):Nat→Nat:=fun l'=>if l'=l then c l+1 else c l'
theorem Qs(V:Nat→Value)(n:Nat){l:Nat}(h:l<9)(v:Value):(iK V n).setIfInBounds l v=iK (bM V l v) n:=by
 have :l=0∨l=1∨l=2∨l=3∨l=4∨l=5∨l=6∨l=7∨l=8:=E;rcases this with rfl | rfl | rfl | rfl | rfl | rfl | rfl | rfl | rfl<;>rfl
theorem Az(V:Nat→Value)(n:Nat){l:Nat}(h:l<9):(iK V n)[l]? =some (V l):=by
 have :l=0∨l=1∨l=2∨l=3∨l=4∨l=5∨l=6∨l=7∨l=8:=E;rcases this with rfl | rfl | rfl | rfl | rfl | rfl | rfl | rfl | rfl<;>rfl
structure WavePt (w:World) (base p:Nat) (V:Nat→Value) (c:Nat→Nat) (Q:Nat→Nat→Nat) (O:Nat→Nat→Option ST) (S:Nat→Nat→Nat→Prop) (n:Nat):Prop where
 head:w.heap[p]? =some (.cells (iK V n) 178 (0,0))
 rows:∀l,l<9→w.ownsRow base 181 3 (V l) (c l) (shC Q l (c l))
 rdis:∀l l' g,l<9→l'<9→l≠l'→(V l).ownBlock=some g→(V l').ownBlock≠some g
 tree:∀l k,l<9→k<c l→∃made,TreeIs (S l k) w (Q l k) (O l k) made 0
 dis:∀l k l' k',l<9→k<c l→l'<9→k'<c l'→(l≠l'∨k≠k')→∀j,S l k j→¬S l' k' j
 low:base≤p∧∀l k j,l<9→k<c l→S l k j→base≤j
section
variable {w w':World}{base p n:Nat}{V:Nat→Value}{c:Nat→Nat}{Q:Nat→Nat→Nat}{O:Nat→Nat→Option ST}{S:Nat→Nat→Nat→Prop}
theorem yQ{w:World}{base:Nat}{e:TypeId}{size:Nat}{v:Value}{n:Nat}{xs:List Value}(h:w.ownsRow base e size v n xs){g:Nat}(hg:v.ownBlock=some g):TypeAt w g e:=by
 rcases h.2 with ⟨rfl,_⟩ | ⟨g',cap,cur,rfl,_,hgg,_⟩
 ·simp[Value.ownBlock]at hg
 ·simp[Value.ownBlock]at hg;subst hg;exact⟨cur,hgg⟩
theorem WavePt.tyP (h:WavePt w base p V c Q O S n):TypeAt w p 178:=⟨_,h.head⟩
theorem WavePt.tyG (h:WavePt w base p V c Q O S n){l g:Nat}(hl:l<9)(hg:(V l).ownBlock=some g):TypeAt w g 181:=yQ (h.rows l hl) hg
theorem WavePt.chg {Z:Nat→Prop}(h:WavePt w base p V c Q O S n)(hc:Chg Z w w')(hp:¬Z p)(hr:∀l g,l<9→(V l).ownBlock=some g→¬Z g)(ht:∀l k j,l<9→k<c l→S l k j→¬Z j):WavePt w' base p V c Q O S n:=
 ⟨hc.heap h.head hp,fun l hl=>hc.own (h.rows l hl) (fun g hg=>hr l g hl hg),h.rdis,fun l k hl hk=>by obtain⟨m,t⟩:=h.tree l k hl hk;exact⟨m,t.chg hc (fun j hj=>ht l k j hl hk hj)⟩,h.dis,h.low⟩
theorem WavePt.below (h:WavePt w base p V c Q O S n)(hb:Below w.heap.size w w'):WavePt w' base p V c Q O S n:=
 h.chg (Z:=fun _=>False) (Chg.of_below hb) id (fun _ _ _ _=>id) (fun _ _ _ _ _ _=>id)
theorem WavePt.start (w:World)(n:Nat)(hb:base≤w.heap.size)(Q:Nat→Nat→Nat)(O:Nat→Nat→Option ST)(S:Nat→Nat→Nat→Prop):WavePt (w.alloc (.cells (iK (fun _=> .slice none 0 0) n) 178)) base w.heap.size (fun _=> .slice none 0 0) (fun _=>0) Q O S n:=
 ⟨aH5 w _,fun l hl=>aG2 _ _ _ _,fun l l' g _ _ _ h=>by simp[Value.ownBlock]at h,fun l k _ hk=>E,fun l k l' k' _ hk=>E,hb,fun l k j _ hk=>E⟩
theorem WavePt.push {w1 w2 w3:World}(h:WavePt w base p V c Q O S n){l:Nat}(hl:l<9){S':Nat→Prop}{q m:Nat}{o:Option ST}(ht:TreeIs S' w1 q o m 0)(hS:∀j,S' j→w.heap.size≤j)(h1:Chg (fun _=>False) w w1)(h2:Below w1.heap.size w1 w2)
  {v:Value} {g:Nat} (hv:v.ownBlock=some g) (hown:w3.ownsRow base 181 3 v (c l+1) (shC Q l (c l)++[.pointer (some ⟨q,0,none⟩), .int .i64 l, .int .i64 (c l:Nat)])) (hg:w2.grownBy w3 (V l).ownBlock) (hor:(V l).ownBlock=some g∨w2.heap.size≤g):
  WavePt (w3.setCell ⟨p,l,none⟩ v) base p (bM V l v) (mS c l) (dM Q l (c l) q) (dM O l (c l) o) (dM S l (c l) S') n∧Chg (fun j=>j=p∨(V l).ownBlock=some j) w (w3.setCell ⟨p,l,none⟩ v):=by
 have h12:Chg (fun _=>False) w w2:=h1.trans (Chg.of_below (S:=fun _=>False) h2) (fun b hb=>hb.elim);have h3:Chg (fun j=>(V l).ownBlock=some j) w w3:=(h12.mono (fun j hj=>hj.elim)).grown hg (fun k hk=>Ei hk);have h3':Chg (fun j=>(V l).ownBlock=some j) w1 w3:=(Chg.of_below (S:=fun j=>(V l).ownBlock=some j) h2).grown hg (fun k hk=>Ei hk);have hpw:=h.tyP.lt;have hpl:(V l).ownBlock≠some p:=fun e=>TypeAt.ne (h.tyG hl e) h.tyP Ed rfl;have hset:Chg (fun j=>j=p) w3 (w3.setCell ⟨p,l,none⟩ v):=Chg.refl.setCell (S:=fun j=>j=p) ⟨p,l,none⟩ (Ei rfl) v;have hgt:TypeAt w3 g 181:=yQ hown hv;have hhead:w3.heap[p]? =some (.cells (iK V n) 178 (0,0)):=h3.heap h.head hpl;have hgp:g≠p:=fun e=>TypeAt.ne hgt ⟨_,hhead⟩ Ed e;have nP:∀l' k,l'<9→k<c l'→¬S l' k p:=fun l' k hl' hk=>by obtain⟨m,t⟩:=h.tree l' k hl' hk;exact t.notT h.tyP Ed
 have nG:∀l' k g',l'<9→k<c l'→(V l).ownBlock=some g'→¬S l' k g':=fun l' k g' hl' hk e=>by obtain⟨m,t⟩:=h.tree l' k hl' hk;exact t.notT (h.tyG hl e) Ed
 have nG':∀j,S' j→(V l).ownBlock≠some j:=fun j hj e=>by have :=(h.tyG hl e).lt;have :=hS j hj;omega
 have nP':¬S' p:=fun hj=>by have :=hS p hj;omega
 have hsz:=h12.size;refine⟨⟨?_,fun l' hl'=>?_,fun l1 l2 g' hl1 hl2 hne hg1 hg2=>?_,fun l' k hl' hk=>?_,fun l1 k1 l2 k2 hl1 hk1 hl2 hk2 hne j hj1 hj2=>?_,h.low.1,fun l' k j hl' hk hj=>?_⟩,Chg.setCell (S:=fun j=>j=p∨(V l).ownBlock=some j) (h3.mono (fun j hj=>Ej hj)) ⟨p,l,none⟩ (Ei (Ei rfl)) v⟩
 ·have :=aH6 w3 p l _ _ v hhead;rw[Qs V n hl v]at this;exact this
 ·by_cases e:l'=l
  ·subst e;have e1:bM V l' v l'=v:=by simp[bM]
   have e2:mS c l' l'=c l'+1:=by simp[mS]
   rw[e1,e2,oE,cA,Cd (Q':=Q) (fun i hi=>dI Q q E)];exact hset.own hown (fun k hk e=>by rw[hv]at hk;injection hk with hk;omega)
  ·have e1:bM V l v l'=V l':=by simp[bM,e]
   have e2:mS c l l'=c l':=by simp[mS,e]
   rw[e1,e2,Cd (Q':=Q) (fun i hi=>dI Q q (Ei e))];refine hset.own (h3.own (h.rows l' hl') (fun k hk e3=>h.rdis l l' k hl hl' (Ne.symm e) e3 hk)) (fun k hk e3=>?_);exact TypeAt.ne (h.tyG hl' hk) h.tyP Ed e3
 ·by_cases e:l1=l
  ·subst e;have e1:bM V l1 v l1=v:=by simp[bM]
   have e2:bM V l1 v l2=V l2:=by simp[bM,Ne.symm hne]
   rw[e1,hv]at hg1;injection hg1 with hg1;subst hg1
   rw[e2]at hg2;rcases hor with hor | hor
   ·exact h.rdis l1 l2 g hl1 hl2 hne hor hg2
   ·have :=(h.tyG hl2 hg2).lt;omega
  ·by_cases e':l2=l
   ·subst e';have e1:bM V l2 v l1=V l1:=by simp[bM,e]
    have e2:bM V l2 v l2=v:=by simp[bM]
    rw[e2,hv]at hg2;injection hg2 with hg2;subst hg2
    rw[e1]at hg1;rcases hor with hor | hor
    ·exact h.rdis l1 l2 g hl1 hl2 hne hg1 hor
    ·have :=(h.tyG hl1 hg1).lt;omega
   ·have e1:bM V l v l1=V l1:=by simp[bM,e]
    have e2:bM V l v l2=V l2:=by simp[bM,e']
    rw[e1]at hg1;rw[e2]at hg2;exact h.rdis l1 l2 g' hl1 hl2 hne hg1 hg2
 ·by_cases e:l'=l∧k=c l
  ·obtain⟨rfl,rfl⟩:=e;rw[cA,cA,cA];exact⟨m,(ht.chg h3' nG').chg hset (fun j hj e=>nP' (e▸hj))⟩
  ·have hne:l'≠l∨k≠c l:=E;have hk':k<c l':=by
    unfold mS at hk;split at hk
    ·next e2=>subst e2;omega
    ·exact hk
   rw[dI _ _ hne,dI _ _ hne,dI _ _ hne];obtain⟨m,t⟩:=h.tree l' k hl' hk';exact⟨m,(t.chg h3 (fun j hj e=>nG l' k j hl' hk' e hj)).chg hset (fun j hj e=>nP l' k hl' hk' (e▸hj))⟩
 ·have key:∀l1 k1,l1<9→k1<mS c l l1→dM S l (c l) S' l1 k1 j→(l1=l∧k1=c l∧w.heap.size≤j)∨((l1≠l∨k1≠c l)∧k1<c l1∧S l1 k1 j∧j<w.heap.size):=by
   intro l1 k1 hl1 hk1 hj;by_cases e:l1=l∧k1=c l
   ·obtain⟨rfl,rfl⟩:=e;rw[cA]at hj;exact Ei ⟨rfl,rfl,hS j hj⟩
   ·have hne:l1≠l∨k1≠c l:=E;have hk':k1<c l1:=by
     unfold mS at hk1;split at hk1
     ·next e2=>subst e2;omega
     ·exact hk1
    rw[dI _ _ hne]at hj;obtain⟨m,t⟩:=h.tree l1 k1 hl1 hk';exact Ej ⟨hne,hk',hj,t.lt j hj⟩
  rcases key l1 k1 hl1 hk1 hj1 with ⟨a1,a2,a3⟩ | ⟨a1,a2,a3,a4⟩<;>rcases key l2 k2 hl2 hk2 hj2 with ⟨b1,b2,b3⟩ | ⟨b1,b2,b3,b4⟩
  ·omega
  ·omega
  ·omega
  ·exact h.dis l1 k1 l2 k2 hl1 a2 hl2 b2 hne j a3 b3
 ·by_cases e:l'=l∧k=c l
  ·obtain⟨rfl,rfl⟩:=e;rw[cA]at hj;have :=hS j hj;have :=h.low.1;omega
  ·have hne:l'≠l∨k≠c l:=E;have hk':k<c l':=by
    unfold mS at hk;split at hk
    ·next e2=>subst e2;omega
    ·exact hk
   rw[dI _ _ hne]at hj;exact h.low.2 l' k j hl' hk' hj
theorem WavePt.mid {w1 w2 w3:World}(h:WavePt w base p V c Q O S n){l:Nat}(hl:l<9)(h1:Chg (fun _=>False) w w1)(h2:Below w1.heap.size w1 w2)(hg:w2.grownBy w3 (V l).ownBlock):w3.cell? ⟨p,l,none⟩=some (V l)∧w3.frozen? ⟨p,l,none⟩=false:=by
 have h12:Chg (fun _=>False) w w2:=h1.trans (Chg.of_below (S:=fun _=>False) h2) (fun b hb=>hb.elim);have h3:Chg (fun j=>(V l).ownBlock=some j) w w3:=(h12.mono (fun j hj=>hj.elim)).grown hg (fun k hk=>Ei hk);have hpl:(V l).ownBlock≠some p:=fun e=>TypeAt.ne (h.tyG hl e) h.tyP Ed rfl;have hhead:w3.heap[p]? =some (.cells (iK V n) 178 (0,0)):=h3.heap h.head hpl;exact⟨by rw[aG7 w3 p l _ _ _ hhead,Az V n hl],aH3 w3 p l _ _ hhead⟩
theorem WavePt.done (h:WavePt w base p V c Q O S n)(hc:∀l,l<9→c l=pw l)(hb:base≤w.heap.size):∃D,WaveE base (fun _=>False) w p D O n 0 bA:=by
 have hex:∀l,∃g cap,l<9→V l= .slice (some ⟨g,0,none⟩) (pw l) cap∧∃cur:Array Value,base≤g∧w.heap[g]? =some (.cells cur 181 (0,0))∧cur.toList.take (pw l*3)=shC Q l (pw l):=by
  intro l;by_cases hl:l<9
  ·have h1:=h.rows l hl;rw[hc l hl]at h1;rcases h1.2 with ⟨_,h0⟩ | ⟨g,cap,cur,hv,hb,hg,_,_,_,ht⟩
   ·have :=Fm l;omega
   ·exact⟨g,cap,fun _=>⟨hv,cur,hb,hg,ht⟩⟩
  ·exact⟨0,0,fun h=>absurd h hl⟩
 obtain⟨G,hG⟩:=Classical.axiomOfChoice hex;obtain⟨C,hC⟩:=Classical.axiomOfChoice hG;refine⟨⟨G,C,Q⟩,⟨S,⟨?_,fun l hl=>?_,fun l k hl hk=>?_,fun l k hl hk=>?_,fun l k l' k' hl hk hl' hk' hne j hj=>h.dis l k l' k' hl (by rw[hc l hl];exact hk) hl' (by rw[hc l' hl'];exact hk') hne j hj⟩,fun j hj=>?_⟩,hb,fun _ hf=>hf.elim⟩
 ·have hh:=h.head;unfold iK at hh;rw[(hC 0 E).1,(hC 1 E).1,(hC 2 E).1,(hC 3 E).1,(hC 4 E).1,(hC 5 E).1,(hC 6 E).1,(hC 7 E).1,(hC 8 E).1]at hh;exact hh
 ·obtain⟨_,cur,_,hg,_⟩:=hC l hl;exact⟨cur,hg⟩
 ·obtain⟨_,cur,_,hg,ht⟩:=hC l hl;obtain⟨a,b,c'⟩:=aj0 Q l hk;have key:∀i v,(shC Q l (pw l))[i]? =some v→w.cell? ⟨G l,i,none⟩=some v:=by
   intro i v hv;rw[aG7 w (G l) i _ _ _ hg];rw[←ht,ar9]at hv;split at hv
   ·simpa using hv
   ·cases hv
  exact⟨key _ _ a,key _ _ b,key _ _ c'⟩
 ·obtain⟨m,t⟩:=h.tree l k hl (by rw[hc l hl];exact hk);exact⟨m,0,trivial,t⟩
 ·rcases hj with rfl | ⟨l,hl,rfl⟩ | ⟨l,k,hl,hk,hj⟩
  ·exact⟨h.low.1,id⟩
  ·obtain⟨_,cur,hb,_,_⟩:=hC l hl;exact⟨hb,id⟩
  ·exact⟨h.low.2 l k j hl (by rw[hc l hl];exact hk) hj,id⟩
end
structure BitsR (w:World) (base b N:Nat) (vs:Nat→Value) (F:Nat→List Bool):Prop where
 blk:w.heap[b]? =some (.cells (aP vs N).toArray 132 (0,0))
 rows:∀k,k<N→w.ownsRow base 4 1 (vs k) (F k).length ((F k).map Value.bool)
 dis:∀k k' g,k<N→k'<N→k≠k'→(vs k).ownBlock=some g→(vs k').ownBlock≠some g
 low:base≤b
def xB(F:Nat→List Bool)(k:Nat)(x:Bool):Nat→List Bool:=fun k'=>if k'=k then F k++[x]else F k'
section
variable {w w':World}{base b N:Nat}{vs:Nat→Value}{F:Nat→List Bool}
theorem BitsR.lt (h:BitsR w base b N vs F):b<w.heap.size:=(am0.1 h.blk).1
theorem BitsR.cell (h:BitsR w base b N vs F){k:Nat}(hk:k<N):w.cell? ⟨b,k,none⟩=some (vs k):=by
 rw[aG7 w b k _ _ _ h.blk,as0,dN hk]
theorem BitsR.frz (h:BitsR w base b N vs F)(k:Nat):w.frozen? ⟨b,k,none⟩=false:=aH3 w b k _ _ h.blk
theorem BitsR.chg {Z:Nat→Prop}(h:BitsR w base b N vs F)(hc:Chg Z w w')(hb:∀j,base≤j→¬Z j):BitsR w' base b N vs F:=
 ⟨hc.heap h.blk (hb b h.low),fun k hk=>hc.own (h.rows k hk) (fun g hg=>hb g ((h.rows k hk).lt g hg).1),h.dis,h.low⟩
theorem BitsR.start (w:World)(N:Nat)(hb:base≤w.heap.size):BitsR (w.alloc (.cells (aP (fun _=> .slice none 0 0) N).toArray 132)) base w.heap.size N (fun _=> .slice none 0 0) (fun _=>[]):=
 ⟨aH5 w _,fun k hk=>aG2 _ _ _ _,fun k k' g _ _ _ h=>by simp[Value.ownBlock]at h,hb⟩
theorem BitsR.nB (h:BitsR w base b N vs F){k:Nat}(hk:k<N):(vs k).ownBlock≠some b:=fun e=>TypeAt.ne (yQ (h.rows k hk) e) (⟨_,h.blk⟩:TypeAt w b 132) Ed rfl
theorem BitsR.push {w2 w3:World}(h:BitsR w base b N vs F){k:Nat}(hk:k<N){x:Bool}(h2:Below w.heap.size w w2)
  {v:Value} {g:Nat} (hv:v.ownBlock=some g) (hown:w3.ownsRow base 4 1 v ((F k).length+1) ((F k).map Value.bool++[.bool x])) (hg:w2.grownBy w3 (vs k).ownBlock) (hor:(vs k).ownBlock=some g∨w2.heap.size≤g):
  BitsR (w3.setCell ⟨b,k,none⟩ v) base b N (bM vs k v) (xB F k x)∧Chg (fun j=>j=b∨(vs k).ownBlock=some j) w (w3.setCell ⟨b,k,none⟩ v):=by
 have h3:Chg (fun j=>(vs k).ownBlock=some j) w w3:=(Chg.of_below (S:=fun j=>(vs k).ownBlock=some j) h2).grown hg (fun k hk=>Ei hk);have hset:Chg (fun j=>j=b) w3 (w3.setCell ⟨b,k,none⟩ v):=Chg.refl.setCell (S:=fun j=>j=b) ⟨b,k,none⟩ (Ei rfl) v;have hblk:w3.heap[b]? =some (.cells (aP vs N).toArray 132 (0,0)):=h3.heap h.blk (h.nB hk);have hgb:g≠b:=fun e=>TypeAt.ne (yQ hown hv) (⟨_,hblk⟩:TypeAt w3 b 132) Ed e;have hsz:=h2.size;refine⟨⟨?_,fun k' hk'=>?_,fun k1 k2 g' hk1 hk2 hne hg1 hg2=>?_,h.low⟩,Chg.setCell (S:=fun j=>j=b∨(vs k).ownBlock=some j) (h3.mono (fun j hj=>Ej hj)) ⟨b,k,none⟩ (Ei (Ei rfl)) v⟩
 ·have :=aH6 w3 b k _ _ v hblk;rw[ay5,rL]at this;exact this
 ·by_cases e:k'=k
  ·subst e;have e1:bM vs k' v k'=v:=by simp[bM]
   have e2:xB F k' x k'=F k'++[x]:=by simp[xB]
   rw[e1,e2,as6,at6];exact hset.own hown (fun j hj e=>by rw[hv]at hj;injection hj with hj;omega)
  ·have e1:bM vs k v k'=vs k':=by simp[bM,e]
   have e2:xB F k x k'=F k':=by simp[xB,e]
   rw[e1,e2];exact hset.own (h3.own (h.rows k' hk') (fun j hj e3=>h.dis k k' j hk hk' (Ne.symm e) e3 hj)) (fun j hj e3=>h.nB hk' (e3▸hj))
 ·have old:∀k1,k1<N→(vs k1).ownBlock=some g→g<w.heap.size:=fun k1 hk1 e=>((h.rows k1 hk1).lt g e).2;by_cases e:k1=k
  ·subst e;have e1:bM vs k1 v k1=v:=by simp[bM]
   have e2:bM vs k1 v k2=vs k2:=by simp[bM,Ne.symm hne]
   rw[e1,hv]at hg1;injection hg1 with hg1;subst hg1
   rw[e2]at hg2;rcases hor with hor | hor
   ·exact h.dis k1 k2 g hk1 hk2 hne hor hg2
   ·have :=old k2 hk2 hg2;omega
  ·by_cases e':k2=k
   ·subst e';have e1:bM vs k2 v k1=vs k1:=by simp[bM,e]
    have e2:bM vs k2 v k2=v:=by simp[bM]
    rw[e2,hv]at hg2;injection hg2 with hg2;subst hg2
    rw[e1]at hg1;rcases hor with hor | hor
    ·exact h.dis k1 k2 g hk1 hk2 hne hg1 hor
    ·have :=old k1 hk1 hg1;omega
   ·have e1:bM vs k v k1=vs k1:=by simp[bM,e]
    have e2:bM vs k v k2=vs k2:=by simp[bM,e']
    rw[e1]at hg1;rw[e2]at hg2;exact h.dis k1 k2 g' hk1 hk2 hne hg1 hg2
end
theorem BitsR.mid {w w2 w3:World}{base b N:Nat}{vs:Nat→Value}{F:Nat→List Bool}(h:BitsR w base b N vs F){k:Nat}(hk:k<N)(h2:Below w.heap.size w w2)(hg:w2.grownBy w3 (vs k).ownBlock):w3.cell? ⟨b,k,none⟩=some (vs k)∧w3.frozen? ⟨b,k,none⟩=false:=by
 have h3:Chg (fun j=>(vs k).ownBlock=some j) w w3:=(Chg.of_below (S:=fun j=>(vs k).ownBlock=some j) h2).grown hg (fun k hk=>Ei hk);have hblk:w3.heap[b]? =some (.cells (aP vs N).toArray 132 (0,0)):=h3.heap h.blk (h.nB hk);exact⟨by rw[aG7 w3 b k _ _ _ hblk,as0,dN hk],aH3 w3 b k _ _ hblk⟩
def fY(L:List Nat)(l j:Nat):Nat→List Bool:=fun k=>lvl (L.take j) l k
theorem Id(L:List Nat)(l:Nat):fY L l 0=fun _=>[]:=by funext k;simp[fY,lvl]
theorem yE(L:List Nat)(l k:Nat):fY L l L.length k=lvl L l k:=by simp[fY]
theorem Ic{L:List Nat}{l j s:Nat}(h:L[j]? =some s):fY L l (j+1)=xB (fY L l j) (pth s l) (cV s l):=by
 funext k;have ht:L.take (j+1)=L.take j++[s]:=by rw[ay9,h];rfl
 unfold fY xB lvl;rw[ht,aq4,at6];by_cases e:k=pth s l
 ·subst e;simp
 ·have e':¬pth s l=k:=fun x=>e x.symm;simp[e,e']
theorem Bj(L:List Nat)(l k j:Nat):(fY L l j k).length≤L.length:=by
 unfold fY lvl;rw[at1];exact aA6 (as9 _ _) (by rw[at5];omega)
theorem Tryz.infoBools:(Tryz.prog.info? 132).map (fun i=>(i.zero,i.size,i.bytes))=some (some (.slice none 0 0),1,24):=Ek
theorem Tryz.infoShelf:(Tryz.prog.info? 181).map (fun i=>(i.zero,i.size,i.bytes))=some (some (.agg #[.pointer none, .int .i64 0, .int .i64 0]),3,24):=Ek
theorem Rj(n:Nat)(h:n≤1000000000)(w:World):(Instr.makeSlice 222 (.int .i64 (n:Int)) (.int .i64 (n:Int))).run Tryz.prog w= .ok (.slice (some ⟨w.heap.size,0,none⟩) n n) (w.alloc (.cells (aP (fun _=> .slice none 0 0) n).toArray 132)):=
 Cb Tryz.infoBools Tryz.underlying222 rfl n E (by unfold maxLen;omega) w
theorem gV{P:Program}{w:World}{o:Oper}{a:Act}{K:Act→World→Prop}{Q:Exit→Act→World→Prop}(s x:Operand)(t:TypeId)
  (ho:o.op= .call {callee:= .builtin .append,args:=#[s,x],argTypes:=#[t,t]})
  (base:Nat) (e:TypeId) {z:Value} {bytes size:Nat} (hinfo:(P.info? e).map (fun i=>(i.zero,i.size,i.bytes))=some (some z,size,bytes)) (ht:P.underlying t=some (.slice e)) (hz1:z.cells.size=size) (hsz0:0<size)
  (v:Value) (n:Nat) (xs:List Value) (hs:a.eval s=v) (hown:w.ownsRow base e size v n xs)
  (b c:Nat) (us:List Value) (hx:a.eval x= .slice (some ⟨b,0,none⟩) 1 c) (hl:us.length=size) (hus:∀j u,us[j]? =some u→w.cell? ⟨b,j,none⟩=some u) (h1:∀u∈us,u.oneCell'=true)
  (h63:n+1≤maxLen) (hbytes:(n+1)*bytes≤140737488355328) (hbase:base≤w.heap.size)
  (h:∀g cap w',w'.ownsRow base e size (.slice (some ⟨g,0,none⟩) (n+1) cap) (n+1) (xs++us)→w.grownBy w' v.ownBlock→(v.ownBlock=some g∨w.heap.size≤g)→g<w'.heap.size→
   K (a.put o.dst (.slice (some ⟨g,0,none⟩) (n+1) cap)) w'):Oper.wp P o a w K Q:=by
 obtain⟨i,hi,hz,hsz,hby⟩:=aI1 hinfo;obtain⟨v',w',hr,h2,h3,_,h5⟩:=run_append_own_at (P:=P) w base t o.type e i z size bytes ht hi hz hsz hby hz1 hsz0 v n xs hown ⟨b,0,none⟩ 1 c us E (fun j u hj=>by rw[al5,aC7];exact hus j u hj) h1 h63 hbytes hbase;unfold Oper.wp execOp;simp only[ho,resolve,invoke,builtin,Sem.run_bind,Sem.run_pure,aD6,av7,at8,av5,hs,hx,hr];obtain⟨a',c',rfl,hn,hb⟩:=aM h2;cases a' with
 | none=>exact absurd (hn rfl).1 E
 | some ad=>
  obtain⟨g,rfl,hg1,hg2,hg3⟩:=hb _ rfl;refine h g c' w' h2 h3 ?_ hg2;rcases h5 with hor | hor
  ·left;rw[←hor];exact hg3
  ·right;rw[hor]at hg3;injection hg3 with hg3;omega
theorem sX{P:Program}{w:World}{ops:Array Oper}{rest:List Oper}{o:Oper}{a:Act}{Q:Exit→Act→World→Prop}(hgd:o.guard=none)(s x:Operand)(t:TypeId)
  (ho:o.op= .call {callee:= .builtin .append,args:=#[s,x],argTypes:=#[t,t]})
  (base:Nat) (e:TypeId) {z:Value} {bytes size:Nat} (hinfo:(P.info? e).map (fun i=>(i.zero,i.size,i.bytes))=some (some z,size,bytes)) (ht:P.underlying t=some (.slice e)) (hz1:z.cells.size=size) (hsz0:0<size)
  (v:Value) (n:Nat) (xs:List Value) (hs:a.eval s=v) (hown:w.ownsRow base e size v n xs)
  (b c:Nat) (us:List Value) (hx:a.eval x= .slice (some ⟨b,0,none⟩) 1 c) (hl:us.length=size) (hus:∀j u,us[j]? =some u→w.cell? ⟨b,j,none⟩=some u) (h1:∀u∈us,u.oneCell'=true)
  (h63:n+1≤maxLen) (hbytes:(n+1)*bytes≤140737488355328) (hbase:base≤w.heap.size)
  (h:∀g cap w',w'.ownsRow base e size (.slice (some ⟨g,0,none⟩) (n+1) cap) (n+1) (xs++us)→w.grownBy w' v.ownBlock→(v.ownBlock=some g∨w.heap.size≤g)→g<w'.heap.size→
   wpList P ops Q rest (a.put o.dst (.slice (some ⟨g,0,none⟩) (n+1) cap)) w'):wpList P ops Q (o::rest) a w:=
 wpList_plain hgd fun K hK=>gV s x t ho base e hinfo ht hz1 hsz0 v n xs hs hown b c us hx hl hus h1 h63 hbytes hbase (fun g cap w' a1 a2 a3 a4=>hK _ _ (h g cap w' a1 a2 a3 a4))
theorem Hz{B:Nat}{w w':World}(h:Below B w w')(n:Nat):Below B w (w'.drewN n):=⟨h.os,h.tape,h.output,h.size,h.block⟩
theorem u64r(a:Int):∃u:Int,0≤u∧u<18446744073709551616∧IntKind.u64.wrap a=u:=⟨IntKind.u64.wrap a,by rw[ao3];omega,by rw[ao3];omega,rfl⟩
theorem Mj:∀h,(aY h).2≤2*(aY h).1
 | 0=>by simp[aY]
 | h+1=>by have :=lZ h;simp only[aY];omega
theorem Mi{h:Nat}:(aY (h+1)).1=(aY h).2∧(aY (h+1)).2=(aY h).1+(aY h).2:=⟨rfl,rfl⟩
theorem Fz(h:Nat)(hh:h≤1000000000000)(w:World):
  Calls Tryz.prog 141 #[.int .i64 (h:Int)] w fun e w'=>e= .returned (.int .i64 (min (aY h).1 2147483648:Nat))∧∃n,w'=w.drewN n:=by
 go_enter Tryz.func141,Tryz.ntmps141;go_wp2_with fail;go_loopw [3,4,5] (fun a b i wr=>∃k:Nat,k≤h∧i= .int .i64 k∧a= .int .i64 ((aY k).1:Nat)∧b= .int .i64 ((aY k).2:Nat)∧(aY k).1≤4294967296∧∃n,wr=w.drewN n) (fun _ _ i _=>h-(intOf i).toNat);case atStart=>exact⟨0,aC8 _,rfl,rfl,rfl,Ed,0,rfl⟩
 case round=>
  obtain⟨k,hk,rfl,rfl,rfl,hle,n,rfl⟩:=hrel;have h2:=Mj k;have h1:=lZ k;obtain⟨e1,e2⟩:=Mi (h:=k);by_cases hlt:k<h∧(aY k).1<2147483648
  ·obtain⟨hlt,hl2⟩:=hlt;have HE1:=θ e1;have HE2:=θ e2;clear e1 e2;generalize (aY k).1=a at *;generalize (aY k).2=b at *;have d1:decide ((a:Int)<2147483648)=true:=aH1 E;have d2:IntKind.i64.wrap ((a:Int)+(b:Int))=(a:Int)+(b:Int):=ao4 _ E;have HL2:Hid (b≤4294967296):=(E:b≤4294967296);clear hl2;go_wp2_with fail;go_roundw;case rel=>exact⟨k+1,E,by go_num,by rw[HE1.o],by rw[HE2.o];go_num,by rw[HE1.o];exact HL2.o,n,rfl⟩
   case measure=>simp[intOf];omega
  ·have HR:Hid (((min (aY k).1 2147483648:Nat):Int)=((min (aY h).1 2147483648:Nat):Int)):=by
    show _=_;by_cases hkh:k=h
    ·rw[hkh]
    ·have :=tY (h:=k) (g:=h) hk;omega
   clear e1 e2;generalize (aY k).1=a at *;generalize (aY k).2=b at *;have HW:Hid ((k<h→¬a<2147483648)∧(a<2147483648→k=h)):=⟨fun h1 h2=>hlt ⟨h1,h2⟩,fun h1=>E⟩;by_cases h5:a<2147483648
   ·have hm:min (a:Int) 2147483648=(a:Int):=E;obtain rfl:=HW.o.2 h5;clear h5 hlt HW;go_wp2_with fail;all_goals
     go_ret;exact⟨aT (by rw[←HR.o];omega),n,rfl⟩
   ·have d1:decide ((a:Int)<2147483648)=false:=aG9 E;have HA:=θ h5;have HM:Hid (2147483648=((min (aY h).1 2147483648:Nat):Int)):=by show _=_;rw[←HR.o];omega
    rcases(E:(2147483648:Int)<(a:Int)∨(a:Int)=2147483648)with h6 | h6
    ·clear h5 hlt HW;by_cases h3:k<h;all_goals
      go_wp2_with fail;all_goals
       go_ret;exact⟨aT HM.o,n,rfl⟩
    ·rw[h6]at d1⊢;clear h5 hlt HW h6 h1 h2;by_cases h3:k<h;all_goals
      go_wp2_with fail;all_goals
       go_ret;exact⟨aT HM.o,n,rfl⟩
theorem Fy(n:Nat)(hn:n≤1000000000000)(w:World):
  Calls Tryz.prog 142 #[.int .i64 (n:Int)] w fun e w'=>e= .returned (.int .i64 (n/32:Nat))∧w=w':=by
 have e:((n/32:Nat):Int)=(n:Int)/128*4+(n:Int)%128*4/128:=E;have HE:=θ e;clear e;go_enter Tryz.func142,Tryz.ntmps142;go_wp2_with fail;go_ret;exact⟨aT HE.o.symm,rfl⟩
theorem box4{w:World}{q:Nat}{T:TypeId}{a b c d:Value}(h:w.heap[q]? =some (.cells #[a,b,c,d] T (0,0))):w.cell? ⟨q,0,none⟩=some a∧w.cell? ⟨q,1,none⟩=some b∧w.cell? ⟨q,2,none⟩=some c∧w.cell? ⟨q,3,none⟩=some d:=
 ⟨by rw[aG7 w q 0 _ _ _ h];rfl,by rw[aG7 w q 1 _ _ _ h];rfl,by rw[aG7 w q 2 _ _ _ h];rfl,by rw[aG7 w q 3 _ _ _ h];rfl⟩
theorem oN{w w1 w2:World}{N q:Nat}{sa sb sc sd:Value}(hN:N≤w.heap.size)(h:(w1.cell? ⟨q,0,none⟩=some sa∧w1.cell? ⟨q,1,none⟩=some sb∧w1.cell? ⟨q,2,none⟩=some sc∧w1.cell? ⟨q,3,none⟩=some sd)∧Below N w w1)(hb:Below w1.heap.size w1 w2):
  (w2.cell? ⟨q,0,none⟩=some sa∧w2.cell? ⟨q,1,none⟩=some sb∧w2.cell? ⟨q,2,none⟩=some sc∧w2.cell? ⟨q,3,none⟩=some sd)∧Below N w w2:=by
 have hq:=aF8 w1 _ h.1.1;exact⟨⟨(hb.cell (p:=⟨q,0,none⟩) hq).trans h.1.1,(hb.cell (p:=⟨q,1,none⟩) hq).trans h.1.2.1,(hb.cell (p:=⟨q,2,none⟩) hq).trans h.1.2.2.1,(hb.cell (p:=⟨q,3,none⟩) hq).trans h.1.2.2.2⟩,h.2.trans (hb.mono (aA6 hN h.2.size))⟩
theorem Bl{t:ST}(ha:t.Avl)(hr:t.Root)(hl:t.bits.length≤2147483648):1≤t.bits.length∧t.high≤1000000000∧min (aY t.high).1 2147483648≤t.leaves∧1≤t.leaves∧t.leaves≤t.bits.length/32+1∧t.size+1=2*t.leaves∧t.leaves≤1000000000:=by
 have h1:=hr.pos;have h2:=iA hr hl;have h3:=qL ha;have h4:=t.leaves_pos;have h5:=hr.len;have h6:=t.size_leaves;omega
theorem Nq{o:Option ST}(hg:oY o)(hl:(aF o).length≤2147483648)(w:World):
  Calls Tryz.prog 83 #[sN o] w fun e w'=>e= .returned (.bool true)∧Below w.heap.size w w':=by
 cases o with
 | none=>
  show Calls _ _ #[.agg #[.int .i64 0, .int .i64 0, .int .i64 0, .int .i64 0]] w _;go_enter Tryz.func83,Tryz.ntmps83;go_wp2_with fail;go_ret;exact⟨rfl,(am4 _ _).alloc (aA5 _) _⟩
 | some t=>
  obtain⟨f1,f2,f3,f4,f5,f6,f7⟩:=Bl hg.1 hg.2 hl;have hl':t.bits.length≤2147483648:=hl;have HL:=θ (fun w=>Fz t.high E w);have HF:=θ (fun w=>Fy t.bits.length E w);show Calls _ _ #[.agg #[.int .i64 t.bits.length, .int .i64 t.high, .int .i64 t.leaves, .int .i64 t.size]] w _;clear hg hl;generalize t.bits.length=n at *;generalize t.high=h at *;generalize t.leaves=m at *;generalize t.size=z at *;generalize min (aY h).1 2147483648=q at *;generalize hg:n/32=g at *;have d0:((n:Int)==0)=false:=by rw[aG5];omega
  have d1:decide ((0:Int)<(n:Int))=true:=aH1 E;have d1n:decide (0<n)=true:=aH1 E;have d1p:0<n:=E;have d2:decide ((0:Int)≤(h:Int))=true:=aH1 E;have d3:decide (q≤m)=true:=aH1 f3;have d4:decide ((1:Int)≤(m:Int))=true:=aH1 E;have d4n:decide (1≤m)=true:=aH1 E;have d5:decide ((m:Int)-1≤(g:Int))=true:=aH1 E;have d6:((z:Int)==2*(m:Int)-1)=true:=by rw[aG6];omega
  have d7:IntKind.i64.wrap ((m:Int)-1)=(m:Int)-1:=ao4 _ E;have d8:IntKind.i64.wrap (2*(m:Int))=2*(m:Int):=ao4 _ E;have d9:IntKind.i64.wrap (2*(m:Int)-1)=2*(m:Int)-1:=ao4 _ E;clear hg f1 f2 f3 f4 f5 f6 f7 hl';go_enter Tryz.func83,Tryz.ntmps83;go_wp2_with fail;have HW:Hid (Below w.heap.size w ((w.alloc (.cells #[.int .i64 n, .int .i64 h, .int .i64 m, .int .i64 z] 85)))):=(am4 _ _).alloc (aA5 _) _;have hq:=aH5 w (.cells #[.int .i64 n, .int .i64 h, .int .i64 m, .int .i64 z] 85);have b0:=box4 hq;generalize w.alloc (.cells #[.int .i64 n, .int .i64 h, .int .i64 m, .int .i64 z] 85)=wb at *;have B0:Hid ((wb.drew.cell? ⟨w.heap.size,0,none⟩=some (.int .i64 n)∧wb.drew.cell? ⟨w.heap.size,1,none⟩=some (.int .i64 h)∧wb.drew.cell? ⟨w.heap.size,2,none⟩=some (.int .i64 m)∧wb.drew.cell? ⟨w.heap.size,3,none⟩=some (.int .i64 z))∧Below w.heap.size w wb.drew):=⟨b0,Hz HW.o 1⟩;clear hq b0 HW;refine aE (fun w'=>(w'.cell? ⟨w.heap.size,0,none⟩=some (.int .i64 n)∧w'.cell? ⟨w.heap.size,1,none⟩=some (.int .i64 h)∧w'.cell? ⟨w.heap.size,2,none⟩=some (.int .i64 m)∧w'.cell? ⟨w.heap.size,3,none⟩=some (.int .i64 z))∧Below w.heap.size w w') Ek (B0.out) (fun hh=>?_);refine rt 0 hh ?_;refine rt 1 hh ?_;refine rt 2 hh ?_;refine rt 3 hh ?_;refine rt 4 hh ?_;refine rt 5 hh ?_;refine rt 6 hh ?_;refine rt 7 hh ?_;refine rt 8 hh ?_;refine rt 9 hh ?_;refine rt 10 hh ?_;refine rt 11 hh ?_;refine rt 12 hh ?_;refine rg 13 fun κ hK=>?_;go_simp
  ((refine(HL.o _).mono ?_))
  rintro e w2 ⟨rfl,n2,rfl⟩;refine hK.out _ _ (oN (aA5 _) hh ⟨rfl,rfl,rfl,aA5 _,fun _ _=>rfl⟩) ?_;intro hh;try simp only[pt]
  refine rt 14 hh ?_;refine rt 15 hh ?_;refine rt 16 hh ?_;refine rt 17 hh ?_;refine rt 18 hh ?_;refine rt 19 hh ?_;refine rt 20 hh ?_;refine rt 21 hh ?_;refine rt 22 hh ?_;refine rt 23 hh ?_;refine rt 24 hh ?_;refine rt 25 hh ?_;refine rt 26 hh ?_;refine rg 27 fun κ hK=>?_;go_simp
  ((refine(HF.o _).mono ?_))
  rintro e w2 ⟨rfl,rfl⟩;refine hK.out _ _ (oN (aA5 _) hh ⟨rfl,rfl,rfl,aA5 _,fun _ _=>rfl⟩) ?_;intro hh;try simp only[pt]
  refine rt 28 hh ?_;refine rt 29 hh ?_;refine rt 30 hh ?_;refine rt 31 hh ?_;refine rt 32 hh ?_;refine rt 33 hh ?_;refine rt 34 hh ?_;refine rt 35 hh ?_;refine rt 36 hh ?_;refine rt 37 hh ?_;refine rt 38 hh ?_;refine rt 39 hh ?_;refine rz ?_;have HHD:=θ hh.2;clear hh;go_wp2_with fail;go_ret;exact⟨rfl,HHD.o⟩
section
variable {B:Nat}{X:Nat→Prop}{w0 w w':World}{p made:Nat}{o:Option ST}{a:Option Addr}{L:List Bool}
end
end
def bP(s:ByteArray):List Int:=s.data.toList.map fun b=>(b.toNat:Int)
theorem iW(s:ByteArray):(bP s).length=s.size:=by unfold bP;rw[at1];rfl
theorem sS(s:ByteArray):aU (bP s):=by
 intro x hx;obtain⟨b,_,rfl⟩:=ax1.1 hx;have :=b.toNat_lt;omega
theorem tM{t:List Int}(h:aU t):bP (strOfNums t)=t:=by
 unfold bP;rw[aI8,av0];apply List.ext_getElem
 ·simp
 ·intro i h1 h2;have :=h _ (as3 h2);simp only[as2,Function.comp];rw[UInt8.toNat_ofNat',aB3 E];omega
theorem qC{s:ByteArray}{k:Nat}(h:k<s.size):sy (aA (bP s)) k=(s[k].toNat:Int)+1:=by
 have h2:k<(bP s).length:=by rw[iW];exact h
 rw[kS h2];have e:(bP s)[k]? =some (s[k].toNat:Int):=by
  unfold bP;rw[ar6,ar3 (by exact h)];rfl
 rw[ar3 h2]at e;injection e with e
 rw[e]
theorem He(s:ByteArray):sy (aA (bP s)) s.size=0:=by
 have :=oW (bP s);rwa[iW]at this
theorem Uf{l:List Int}{d a b:Nat}(h:eqK l d a b):sufLt l a b↔sufLt l (a+d) (b+d):=by
 constructor
 ·rintro⟨w,e,he,h1,h2⟩;have hde:d≤e:=by
   rcases aB0 e d with k | k
   ·have :=h e k;omega
   ·exact k
  obtain⟨v,rfl⟩:=aA3 hde;refine⟨v+1,v,E,(mH.1 h1).2,by rwa[az7,az7]⟩
 ·rintro⟨w,h2⟩;exact⟨d+w,mI.2 (Ej ⟨h,h2⟩)⟩
theorem Wd{l:List Int}{d a b:Nat}(h:eqK l d a b)(e:sy l (a+d)=sy l (b+d)):eqK l (d+1) a b:=
 mH.2 ⟨h,fun x hx=>by
                obtain rfl:x=0:=E
                simpa using e⟩
def bY{α:Type}(l:List α)(k:Nat)(x:α):List α:=l.take k++x::l.drop k
theorem kH{α:Type}{l:List α}{k:Nat}{x:α}(h:k≤l.length):(bY l k x).length=l.length+1:=by simp[bY];omega
theorem rV{α:Type}(l:List α)(k:Nat)(x:α):(bY l k x).Perm (x::l):=by
 unfold bY;refine List.perm_middle.trans ?_;rw[az0]
theorem Ii{R:Nat→Nat→Prop}{l:List Nat}{k x:Nat}(hk:k≤l.length)(h:l.Pairwise R)(h1:∀i (hi:i<l.length),i<k→R l[i] x)(h2:∀i (hi:i<l.length),k≤i→R x l[i]):(bY l k x).Pairwise R:=by
 unfold bY;rw[List.pairwise_append];refine⟨h.sublist (az4 _ _),ay1.2 ⟨fun y hy=>?_,h.sublist (List.drop_sublist _ _)⟩,fun y hy z hz=>?_⟩
 ·obtain⟨i,hi,rfl⟩:=as4 hy;rw[as8]at hi;rw[as1];exact h2 (k+i) E E
 ·obtain⟨i,hi,rfl⟩:=as4 hy;rw[at5]at hi;rw[as5];rcases av9.1 hz with rfl | hz
  ·exact h1 i E E
  ·obtain⟨j,hj,rfl⟩:=as4 hz;rw[as8]at hj;rw[as1];exact ay2.1 h i (k+j) E E (E)
section
open Go.RowKit
theorem We{a:Ar}(h:a.Ok){i:Nat}(hi:i<a.T.length)(hn:i∉a.F):a.free [(i:Int)]=(0,⟨a.T.set i false,a.F++[i],a.M⟩):=by
 have hv:a.T[i]? =some true:=by
  have h1:¬a.T[i]? =some false:=fun e=>hn ((h.iff i).1 e);rw[ar3 hi]at h1⊢;cases hb:a.T[i]
  ·rw[hb]at h1;exact absurd rfl h1
  ·rfl
 have hIs:kE a.T (i:Int)=true:=mO.2 ⟨E,by simpa using hv⟩;unfold Ar.free;simp only[clr,hIs,aI0,ao2];rfl
theorem sY{P:Program}{w:World}{ops:Array Oper}{rest:List Oper}{o:Oper}{a:Act}{Q:Exit→Act→World→Prop}{e':TypeId}{u1 u2:Value}(hgd:o.guard=none)(s x:Operand)(t:TypeId)
  (ho:o.op= .call {callee:= .builtin .append,args:=#[s,x],argTypes:=#[t,t]})
  (base:Nat) (e:TypeId) {z:Value} {bytes:Nat} (hinfo:(P.info? e).map (fun i=>(i.zero,i.size,i.bytes))=some (some z,2,bytes)) (ht:P.underlying t=some (.slice e)) (hz1:z.cells.size=2)
  (v:Value) (n:Nat) (xs:List Value) (hs:a.eval s=v) (hown:w.ownsRow base e 2 v n xs)
  (hx:a.eval x= .slice (some ⟨w.heap.size,0,none⟩) 1 1) (h1:u1.oneCell'=true) (h2:u2.oneCell'=true)
  (h63:n+1≤maxLen) (hbytes:(n+1)*bytes≤140737488355328) (hbase:base≤w.heap.size)
  (h:∀g cap w',w'.ownsRow base e 2 (.slice (some ⟨g,0,none⟩) (n+1) cap) (n+1) (xs++[u1,u2])→w.grownBy w' v.ownBlock→(v.ownBlock=some g∨w.heap.size≤g)→g<w'.heap.size→
   wpList P ops Q rest (a.put o.dst (.slice (some ⟨g,0,none⟩) (n+1) cap)) w'):wpList P ops Q (o::rest) a (w.alloc (.cells #[u1,u2] e')):=by
 obtain⟨i,hi,hz,hsz,hby⟩:=aI1 hinfo;refine wpList_append_lies (w.alloc (.cells #[u1,u2] e')) hgd s x t ho base e i z 2 bytes ht hi hz hsz hby hz1 E v n xs hs (hown.alloc _) ⟨w.heap.size,0,none⟩ 1 1 [u1,u2] hx rfl ?_ ?_ E h63 hbytes ?_ _ rfl ?_
 ·intro j u' hj;match j,hj with
  | 0,hj=>simp at hj;subst hj;simp[Addr.add]
  | 1,hj=>simp at hj;subst hj;simp[Addr.add]
 ·intro u' hu;simp at hu;rcases hu with rfl | rfl<;>assumption
 ·simp;omega
 ·intro g cap w' h1 h2 h3 h4;exact h g cap w' h1 ⟨h2.os,h2.tape,h2.output,by have :=h2.size;simp at this;omega,fun k hk hne=>by
   rw[h2.block k (by simp;omega) hne];exact am3 w _ k hk⟩ (h3.imp id (fun h=>by simp at h;omega)) h4
end
end Go.Proofs.YtchinbgemenenaaGreatDoor
