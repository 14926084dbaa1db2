/- Lemmas and contracts under the claims of this seat. No condition. -/
import Derived.IntWalk
import Derived.Test.YtchinbgemenenaaGreatDoorZr1
import Derived.Test.YtchinbgemenenaaGreatDoorZr2
import Derived.Test.YtchinbgemenenaaGreatDoorZr3
import Derived.Test.YtchinbgemenenaaGreatDoorZr4
namespace Go.Proofs.YtchinbgemenenaaGreatDoor
set_option linter.unusedVariables false
set_option linter.unusedSimpArgs false
set_option maxRecDepth 100000
set_option maxHeartbeats 12800000
section
open Go.RowKit
theorem Ov{w:World}{p:Nat}{C:Nat→Prop}{A:Ar}{xs:List Nd}{root vis:Int}(h:Head w p C A xs root vis)(hlen:xs.length=A.T.length)(hv0:0≤vis)(hv:vis≤100000000000){kn q:Nat}{l:List Bool}(hS:Sub w xs (.leaf kn q l))
  (hO:Own A (.leaf kn q l)) (hl:l.length=128) (hlv:A.live+2≤A.M) (k:Nat) (hk:k≤128) (b:Bool):
  Calls Tryz.prog 237 #[.pointer (some ⟨p,0,none⟩), .int .i64 kn, .int .i64 k, .bool b] w fun e w'=>sZ w w' p C A xs root vis (.leaf kn q l) k b e:=by
 have hx:=hS.root;change xs[kn]? =some (TT.leaf kn q l).nd at hx;obtain⟨g,rc,cur,c1,hgp,_⟩:=h.row (by have :=(ar5.1 hx).1;omega);obtain⟨_,_,hkx,_⟩:=h.node c1 hx;obtain⟨a0,a1,a2,a3,a4,a5,a6,a7⟩:=h.eight c1 hx;obtain⟨_,_,cv,fz⟩:=h.cells;have f3:=fz 3;have hp:=h.lt p h.self;have hg:=aF8 w _ a0;simp only[TT.nd,eL,aD3]at a0 a1 a2 a3 a4 a5 a6 a7;have hq:=hS.2;have hqC:¬C q:=h.notBlk hq.type;have HW:Hid (∀v o,IsBlock ((w.setCell ⟨p,3,none⟩ v).alloc o) q l):=fun v o=>hq.chg ((Chg.refl.setCell ⟨p,3,none⟩ (Ei h.self) v).alloc o) hqC;have HH3:Hid (∀o,Head ((w.setCell ⟨p,3,none⟩ (.int .i64 (vis+1))).alloc o) p C A xs root (vis+1)):=fun o=>(h.set3 (vis+1)).below (aN _ _);have HG:Hid (∀o,Chg C w ((w.setCell ⟨p,3,none⟩ (.int .i64 (vis+1))).alloc o)):=fun o=>(h.chg3 _ 3).alloc o;have d1:((l.length:Int)==128)=true:=by rw[aG6];omega
 have HX:=θ hx;have HQC:=θ hqC;have HO:=θ hO;have HL:=θ hlen;have HLV:=θ hlv;have HQL:=θ hq.lt;have hBq:¬w.heap.size=q:=by have :=hq.lt;omega
 clear h fz hx hS hq hqC hO hlen hlv;go_enter Tryz.func237,Tryz.ntmps237;go_wp2_with fail;refine(xS (HW.o _ _)).mono ?_;rintro e w2 ⟨rfl,rfl⟩;go_wp2_with fail;refine(Vx (HW.o _ _)).mono ?_;rintro e w3 ⟨q2,rfl,hq2,hhi,hlo,c3⟩;rw[hl]at hhi hlo;have x7:w3.cell? ⟨w.heap.size,7,none⟩=some (.pointer (some ⟨q,0,none⟩)):=c3.cell (p:=⟨w.heap.size,7,none⟩) (by go_simp) hBq;have h3:=(HH3.o _).chg c3 (fun j hj e=>HQC.o (e▸hj));have g3:Chg (fun j=>C j∨j∈(TT.leaf kn q l).bl) w w3:=((HG.o _).mono (fun j hj=>Ei hj)).trans c3 (fun j e=>Ei (Ej (by simp[TT.bl,e])));have hq2':w.heap.size≤q2:=by simp at hq2;omega
 have HQ2:=θ hq2';have HNE:Hid (q≠q2):=by have :=HQL.o;show q≠q2;omega
 have H3:=θ h3;have G3:=θ g3;have hl1:(l.take (128/2)).length=64:=by rw[at5];omega
 have hl2:(l.drop (128/2)).length=64:=by rw[as8];omega
 obtain⟨lo,hlo1⟩:∃lo,lo=l.take (128/2):=⟨_,rfl⟩;obtain⟨hi,hhi1⟩:∃hi,hi=l.drop (128/2):=⟨_,rfl⟩;rw[←hlo1]at hlo hl1;rw[←hhi1]at hhi hl2;have HTK:Hid (lo=l.take 64∧hi=l.drop 64):=⟨hlo1,hhi1⟩;clear hlo1 hhi1;have HB1:=θ hlo;have HB2:=θ hhi;obtain⟨v1,hv1⟩:∃v1,v1=vis+1:=⟨_,rfl⟩;have HV1:=θ hv1;rw[←hv1]at H3;have hv10:0≤v1∧v1≤200000000000:=E;obtain⟨hv10,hv11⟩:=hv10;clear h3 g3 hlo hhi c3 hq2 hq2' HH3 HG HW a0 a1 a2 a3 a4 a5 a6 a7 c1 hv1 d1;go_wp2_with fail;refine(xS HB1.o).mono ?_;rintro e w4 ⟨rfl,rfl⟩;rw[hl1];by_cases hkn:64<k
 ·have d2:decide ((64:Int)<(k:Int))=true:=aH1 E;have d2':decide (64<k)=true:=aH1 E;obtain⟨k',hk'⟩:∃k',k=64+k':=⟨k-64,E⟩;have HKK:=θ hk';subst hk';go_wp2_with fail;rw[show (64+(k':Int)-64)=(k':Int) by omega];refine(rS HB2.o E k' E b).mono ?_;rintro e w4 ⟨rfl,hhi,c4'⟩;have hlo:=HB1.o.chg c4' (fun e=>HNE.o e);have c4:Chg (fun j=>j=q∨j=q2) w3 w4:=c4'.mono (fun j e=>Ej e);clear c4';have h4:=H3.o.chg c4 (fun j hj e=>e.elim (fun e=>HQC.o (e▸hj)) (fun e=>H3.o.notBlk HB2.o.type (e▸hj)));have HF:=θ (fP h4 HX.o rfl hlo);have H4:=θ h4;have G4:=θ c4;have HLO:=θ hlo;have HHI:=θ hhi;clear h4 c4 hlo hhi x7;go_wp2_with fail;refine HF.o.mono ?_;rintro e w5 ⟨rfl,h5,g5⟩;change Head w5 p C A (xs.set kn (TT.leaf kn q lo).nd) root v1 at h5;have g5C:=H4.o.chgRow g5;have lo5:=HLO.o.chg g5C (H4.o.notBlk HLO.o.type);have hi5:=HHI.o.chg g5C (H4.o.notBlk HHI.o.type);have xk5:(xs.set kn (TT.leaf kn q lo).nd)[kn]? =some (TT.leaf kn q lo).nd:=aS HX.o;have kp5:∀j:Nat,j≠kn→(xs.set kn (TT.leaf kn q lo).nd)[j]? =xs[j]? :=fun j hj=>aG hj;have ln5:(xs.set kn (TT.leaf kn q lo).nd).length=A.T.length:=by rw[at4];exact HL.o
  generalize xs.set kn (TT.leaf kn q lo).nd=xs5 at *;obtain⟨_,_,cv5,fz5⟩:=h5.cells;have f35:=fz5 3;have h6:=h5.set3 (v1+1);have g6:=h5.chg3 (.int .i64 (v1+1)) 3;have lo6:=lo5.chg g6 (h5.notBlk lo5.type);have hi6:=hi5.chg g6 (h5.notBlk hi5.type);have HLF:=θ (oX h6 ln5 (by have :=HLV.o;omega) hi6);have H6:=θ h6;have G6:=θ (g5C.trans g6 (fun j hj=>Ei hj));have LO6:=θ lo6;have HI6:=θ hi6;have XK5:=θ xk5;have KP5:=θ kp5;clear fz5 h5 g5 g5C lo5 hi5 xk5 kp5 ln5 h6 g6 lo6 hi6;go_wp2_with fail;refine HLF.o.mono ?_;rintro e w7 hP;obtain⟨k2,C7,A7,xs7,rfl,h7,s7,l7,x7,n7,kp7,t7,lv7,m7,_⟩:=hP.ex;have tkn:=HO.o.tk kn (by simp[TT.nums]);have sa:Sub w7 xs7 (.leaf kn q lo):=⟨(kp7 kn tkn).1.trans XK5.out,LO6.out.chg s7.chg (H6.o.notBlk LO6.out.type)⟩;have sb:Sub w7 xs7 (.leaf k2 q2 (inL hi k' b)):=⟨x7,HI6.o.chg s7.chg (H6.o.notBlk HI6.o.type)⟩;have ta:∀j∈(TT.leaf kn q lo).nums,A7.T[j]? =some true:=by
   intro j hj;simp[TT.nums]at hj;subst hj;exact(kp7 _ tkn).2
  have tb:∀j∈(TT.leaf k2 q2 (inL hi k' b)).nums,A7.T[j]? =some true:=by
   intro j hj;simp[TT.nums]at hj;subst hj;exact t7
  have HPA:=θ (sT h7 l7 (by have :=HLV.o;omega) sa sb ta tb ⟨by have :=LO6.out.1;simp only[TT.st,ST.bits];omega,by simp[TT.st,ST.high]⟩ ⟨by have :=HI6.o.1;simp only[TT.st,ST.bits];omega,by simp[TT.st,ST.high]⟩);have H7:=θ h7;have S7:=θ s7;have SA:=θ sa;have SB:=θ sb;have N7:=θ n7;have KP7:=θ kp7;have T7:Hid (A7.T[kn]? =some true∧A7.T[k2]? =some true):=⟨(kp7 _ tkn).2,t7⟩;have LV7:=θ lv7;have M7:=θ m7;have TKN:=θ tkn;clear hP h7 s7 l7 x7 n7 kp7 t7 lv7 m7 tkn sa sb ta tb;go_wp2_with fail;refine HPA.o.mono ?_;rintro e w8 hP;obtain⟨k3,C8,A8,xs8,rfl,h8,s8,l8,x8,n8,kp8,t8,lv8,m8,_⟩:=hP.ex;have H8:=θ h8;have S8:=θ s8;have L8:=θ l8;have X8:=θ x8;have N8:=θ n8;have KP8:=θ kp8;have T8:=θ t8;have LV8:=θ lv8;have M8:=θ m8;clear hP h8 s8 l8 x8 n8 kp8 t8 lv8 m8;go_wp2_with fail;go_ret;have hne:q≠q2:=HNE.o;have e1:kn≠k2:=by rintro rfl;exact N7.out TKN.out
  have e2:k3≠kn:=by rintro rfl;exact N8.out T7.out.1
  have e3:k3≠k2:=by rintro rfl;exact N8.out T7.out.2
  have gall:Chg (fun j=>C j∨j∈(TT.leaf kn q l).bl) w w7:=((G3.out.trans G4.out (fun j e=>by
   rcases e with e | e
   ·exact Ei (Ej (by simp[TT.bl,e]))
   ·subst e;exact Ej HQ2.o)).trans G6.out (fun j hj=>Ei (Ei hj))).trans S7.out.chg (fun j hj=>Ei (Ei hj))
  have hs3:=G3.out.size;have hs4:=G4.out.size;have hs6:=G6.out.size;have hs7:=S7.out.chg.size;refine⟨.pair k3 (.leaf kn q lo) (.leaf k2 q2 (inL hi k' b)),C8,A8,xs8,_,rfl,⟨H8.o,⟨X8.out,?_,?_⟩,⟨?_,?_,?_⟩,L8.out,fun j hj=>?_,fun j hj=>?_,fun j h1 h2=>?_,?_,?_,?_,?_⟩,?_⟩
  ·exact SA.out.chgC H7.o S8.out.chg (fun j hj=>by simp[TT.nums]at hj;subst hj;exact(KP8.out _ T7.out.1).1)
  ·exact SB.out.chgC H7.o S8.out.chg (fun j hj=>by simp[TT.nums]at hj;subst hj;exact(KP8.out _ T7.out.2).1)
  ·simp[TT.nums,e1,e2,e3]
  ·simp[TT.bl,hne]
  ·intro j hj;simp[TT.nums]at hj;rcases hj with rfl | rfl | rfl
   ·exact T8.out
   ·exact(KP8.out _ T7.out.1).2
   ·exact(KP8.out _ T7.out.2).2
  ·rcases S8.out.new j hj with h | h
   ·rcases S7.out.new j h with h | h
    ·exact Ei h
    ·right;omega
   ·right;omega
  ·simp[TT.bl]at hj;rcases hj with rfl | rfl
   ·exact Ei (by simp[TT.bl])
   ·exact Ej HQ2.o
  ·have hjn:j≠kn:=by rintro rfl;exact h2 (by simp[TT.nums])
   have k7:=KP7.out j h1;have k8:=KP8.out j k7.2;refine⟨k8.1.trans (k7.1.trans (KP5.out j hjn)),k8.2,?_⟩;simp only[TT.nums,av9,ap1,ax5,ay0,aI5];rintro(rfl | rfl | rfl)
   ·exact N8.out k7.2
   ·exact hjn rfl
   ·exact N7.out h1
  ·have :=LV7.out;have :=LV8.out;simp only[TT.st,ST.size];omega
  ·exact M8.out.trans M7.out
  ·have :=HV1.o;exact⟨E,by simp only[TT.st,ST.high];omega⟩
  ·exact gall.trans S8.out.chg (fun j hj=>(S7.out.new j hj).elim (fun h=>Ei (Ei h)) (fun h=>Ej E))
  ·simp only[TT.st,cT];rw[aH9 hl,aH9 E,HTK.o.1,HTK.o.2,Nat.add_sub_cancel_left]
 ·have d2:decide ((64:Int)<(k:Int))=false:=aG9 E;have d2':decide (64<k)=false:=aG9 E;go_wp2_with fail;refine(rS HB1.o E k E b).mono ?_;rintro e w4 ⟨rfl,hlo,c4'⟩;have hhi:=HB2.o.chg c4' (fun e=>HNE.o e.symm);have c4:Chg (fun j=>j=q∨j=q2) w3 w4:=c4'.mono (fun j e=>Ei e);clear c4';have h4:=H3.o.chg c4 (fun j hj e=>e.elim (fun e=>HQC.o (e▸hj)) (fun e=>H3.o.notBlk HB2.o.type (e▸hj)));have HF:=θ (fP h4 HX.o rfl hlo);have H4:=θ h4;have G4:=θ c4;have HLO:=θ hlo;have HHI:=θ hhi;clear h4 c4 hlo hhi x7;go_wp2_with fail;refine HF.o.mono ?_;rintro e w5 ⟨rfl,h5,g5⟩;change Head w5 p C A (xs.set kn (TT.leaf kn q (inL lo k b)).nd) root v1 at h5;have g5C:=H4.o.chgRow g5;have lo5:=HLO.o.chg g5C (H4.o.notBlk HLO.o.type);have hi5:=HHI.o.chg g5C (H4.o.notBlk HHI.o.type);have xk5:(xs.set kn (TT.leaf kn q (inL lo k b)).nd)[kn]? =some (TT.leaf kn q (inL lo k b)).nd:=aS HX.o;have kp5:∀j:Nat,j≠kn→(xs.set kn (TT.leaf kn q (inL lo k b)).nd)[j]? =xs[j]? :=fun j hj=>aG hj;have ln5:(xs.set kn (TT.leaf kn q (inL lo k b)).nd).length=A.T.length:=by rw[at4];exact HL.o
  generalize xs.set kn (TT.leaf kn q (inL lo k b)).nd=xs5 at *;obtain⟨_,_,cv5,fz5⟩:=h5.cells;have f35:=fz5 3;have h6:=h5.set3 (v1+1);have g6:=h5.chg3 (.int .i64 (v1+1)) 3;have lo6:=lo5.chg g6 (h5.notBlk lo5.type);have hi6:=hi5.chg g6 (h5.notBlk hi5.type);have HLF:=θ (oX h6 ln5 (by have :=HLV.o;omega) hi6);have H6:=θ h6;have G6:=θ (g5C.trans g6 (fun j hj=>Ei hj));have LO6:=θ lo6;have HI6:=θ hi6;have XK5:=θ xk5;have KP5:=θ kp5;clear fz5 h5 g5 g5C lo5 hi5 xk5 kp5 ln5 h6 g6 lo6 hi6;go_wp2_with fail;refine HLF.o.mono ?_;rintro e w7 hP;obtain⟨k2,C7,A7,xs7,rfl,h7,s7,l7,x7,n7,kp7,t7,lv7,m7,_⟩:=hP.ex;have tkn:=HO.o.tk kn (by simp[TT.nums]);have sa:Sub w7 xs7 (.leaf kn q (inL lo k b)):=⟨(kp7 kn tkn).1.trans XK5.out,LO6.out.chg s7.chg (H6.o.notBlk LO6.out.type)⟩;have sb:Sub w7 xs7 (.leaf k2 q2 hi):=⟨x7,HI6.o.chg s7.chg (H6.o.notBlk HI6.o.type)⟩;have ta:∀j∈(TT.leaf kn q (inL lo k b)).nums,A7.T[j]? =some true:=by
   intro j hj;simp[TT.nums]at hj;subst hj;exact(kp7 _ tkn).2
  have tb:∀j∈(TT.leaf k2 q2 hi).nums,A7.T[j]? =some true:=by
   intro j hj;simp[TT.nums]at hj;subst hj;exact t7
  have HPA:=θ (sT h7 l7 (by have :=HLV.o;omega) sa sb ta tb ⟨by have :=LO6.out.1;simp only[TT.st,ST.bits];omega,by simp[TT.st,ST.high]⟩ ⟨by have :=HI6.o.1;simp only[TT.st,ST.bits];omega,by simp[TT.st,ST.high]⟩);have H7:=θ h7;have S7:=θ s7;have SA:=θ sa;have SB:=θ sb;have N7:=θ n7;have KP7:=θ kp7;have T7:Hid (A7.T[kn]? =some true∧A7.T[k2]? =some true):=⟨(kp7 _ tkn).2,t7⟩;have LV7:=θ lv7;have M7:=θ m7;have TKN:=θ tkn;clear hP h7 s7 l7 x7 n7 kp7 t7 lv7 m7 tkn sa sb ta tb;go_wp2_with fail;refine HPA.o.mono ?_;rintro e w8 hP;obtain⟨k3,C8,A8,xs8,rfl,h8,s8,l8,x8,n8,kp8,t8,lv8,m8,_⟩:=hP.ex;have H8:=θ h8;have S8:=θ s8;have L8:=θ l8;have X8:=θ x8;have N8:=θ n8;have KP8:=θ kp8;have T8:=θ t8;have LV8:=θ lv8;have M8:=θ m8;clear hP h8 s8 l8 x8 n8 kp8 t8 lv8 m8;go_wp2_with fail;go_ret;have hne:q≠q2:=HNE.o;have e1:kn≠k2:=by rintro rfl;exact N7.out TKN.out
  have e2:k3≠kn:=by rintro rfl;exact N8.out T7.out.1
  have e3:k3≠k2:=by rintro rfl;exact N8.out T7.out.2
  have gall:Chg (fun j=>C j∨j∈(TT.leaf kn q l).bl) w w7:=((G3.out.trans G4.out (fun j e=>by
   rcases e with e | e
   ·exact Ei (Ej (by simp[TT.bl,e]))
   ·subst e;exact Ej HQ2.o)).trans G6.out (fun j hj=>Ei (Ei hj))).trans S7.out.chg (fun j hj=>Ei (Ei hj))
  have hs3:=G3.out.size;have hs4:=G4.out.size;have hs6:=G6.out.size;have hs7:=S7.out.chg.size;refine⟨.pair k3 (.leaf kn q (inL lo k b)) (.leaf k2 q2 hi),C8,A8,xs8,_,rfl,⟨H8.o,⟨X8.out,?_,?_⟩,⟨?_,?_,?_⟩,L8.out,fun j hj=>?_,fun j hj=>?_,fun j h1 h2=>?_,?_,?_,?_,?_⟩,?_⟩
  ·exact SA.out.chgC H7.o S8.out.chg (fun j hj=>by simp[TT.nums]at hj;subst hj;exact(KP8.out _ T7.out.1).1)
  ·exact SB.out.chgC H7.o S8.out.chg (fun j hj=>by simp[TT.nums]at hj;subst hj;exact(KP8.out _ T7.out.2).1)
  ·simp[TT.nums,e1,e2,e3]
  ·simp[TT.bl,hne]
  ·intro j hj;simp[TT.nums]at hj;rcases hj with rfl | rfl | rfl
   ·exact T8.out
   ·exact(KP8.out _ T7.out.1).2
   ·exact(KP8.out _ T7.out.2).2
  ·rcases S8.out.new j hj with h | h
   ·rcases S7.out.new j h with h | h
    ·exact Ei h
    ·right;omega
   ·right;omega
  ·simp[TT.bl]at hj;rcases hj with rfl | rfl
   ·exact Ei (by simp[TT.bl])
   ·exact Ej HQ2.o
  ·have hjn:j≠kn:=by rintro rfl;exact h2 (by simp[TT.nums])
   have k7:=KP7.out j h1;have k8:=KP8.out j k7.2;refine⟨k8.1.trans (k7.1.trans (KP5.out j hjn)),k8.2,?_⟩;simp only[TT.nums,av9,ap1,ax5,ay0,aI5];rintro(rfl | rfl | rfl)
   ·exact N8.out k7.2
   ·exact hjn rfl
   ·exact N7.out h1
  ·have :=LV7.out;have :=LV8.out;simp only[TT.st,ST.size];omega
  ·exact M8.out.trans M7.out
  ·have :=HV1.o;exact⟨E,by simp only[TT.st,ST.high];omega⟩
  ·exact gall.trans S8.out.chg (fun j hj=>(S7.out.new j hj).elim (fun h=>Ei (Ei h)) (fun h=>Ej E))
  ·simp only[TT.st,cT];rw[aH9 hl,aH8 E,HTK.o.1,HTK.o.2]
structure SubPre (w w':World) (C:Nat→Prop) (A:Ar) (xs:List Nd) (T T':TT) (C':Nat→Prop) (A':Ar) (xs':List Nd):Prop where
 own:Own A' T'
 len:xs'.length=A'.T.length
 newC:∀j,C' j→C j∨w.heap.size≤j
 newB:∀q∈T'.bl,q∈T.bl∨w.heap.size≤q
 keep:∀j:Nat,A.T[j]? =some true→j∉T.nums→xs'[j]? =xs[j]? ∧A'.T[j]? =some true∧j∉T'.nums
 live:A'.live+T.st.size=A.live+T'.st.size
 max:A'.M=A.M
 chg:Chg (fun j=>C j∨j∈T.bl) w w'
section
variable {w w1 w2 w3 w':World}{p:Nat}{C C' C3:Nat→Prop}{A A' A3:Ar}{xs xs' xs3:List Nd}{root vis v':Int}{T T' T1 T2 a c:TT}{kn:Nat}
theorem SubPost.pre (h:SubPost w w' p C A xs root vis T T' C' A' xs' v'):SubPre w w' C A xs T T' C' A' xs':=⟨h.own,h.len,h.newC,h.newB,h.keep,h.live,h.max,h.chg⟩
theorem SubPost.of (h1:Head w' p C' A' xs' root v')(h2:Sub w' xs' T')(h:SubPre w w' C A xs T T' C' A' xs')(h3:vis≤v'∧v'≤vis+7*T.st.high+2):SubPost w w' p C A xs root vis T T' C' A' xs' v':=
 ⟨h1,h2,h.own,h.len,h.newC,h.newB,h.keep,h.live,h.max,h3,h.chg⟩
theorem SubPre.first (h0:Chg C w w1)(h:SubPre w1 w' C A xs T T' C' A' xs'):SubPre w w' C A xs T T' C' A' xs':=
 ⟨h.own,h.len,fun j hj=>(h.newC j hj).imp id (fun h=>aA6 h0.size h),fun q hq=>(h.newB q hq).imp id (fun h=>aA6 h0.size h),h.keep,h.live,h.max,
  (h0.mono (fun j hj=>Ei hj)).trans h.chg (fun j hj=>Ei hj)⟩
theorem SubPre.next (h:SubPre w w3 C A xs T T1 C3 A3 xs3)(hc:Chg C3 w3 w')(hk:∀j,j∉T1.nums→xs'[j]? =xs3[j]?)(hl:xs'.length=xs3.length)(hn:T2.nums.Perm T1.nums)(hb:T2.bl=T1.bl)(hs:T2.st.size=T1.st.size):
  SubPre w w' C A xs T T2 C3 A3 xs':=
 ⟨⟨hn.nodup_iff.2 h.own.nn,by rw[hb];exact h.own.bn,fun j hj=>h.own.tk j (hn.mem_iff.1 hj)⟩,hl.trans h.len,h.newC,by rw[hb];exact h.newB,fun j h1 h2=>by
  obtain⟨e1,e2,e3⟩:=h.keep j h1 h2
  exact⟨(hk j e3).trans e1,e2,fun hj=>e3 (hn.mem_iff.1 hj)⟩,by rw[hs];exact h.live,h.max,
  h.chg.trans hc (fun j hj=>(h.newC j hj).imp Ei id)⟩
theorem SubPre.left (hO:Own A (.pair kn a c))(h:SubPre w w3 C A xs a T' C3 A3 xs3)(hH:Head w p C A xs root vis)(hc:Sub w xs c):
  SubPre w w3 C A xs (.pair kn a c) (.pair kn T' c) C3 A3 xs3∧Sub w3 xs3 c∧xs3[kn]? =xs[kn]? :=by
 obtain⟨n1,n2,n3,n4,n5⟩:=TT.dis hO.nn;have hbn:=hO.bn;simp only[TT.bl,ax6]at hbn;obtain⟨b1,b2,b3⟩:=hbn;have tk:=hO.tk kn TT.mem_k;obtain⟨k1,k2,k3⟩:=h.keep kn tk n1;have kc:∀j∈c.nums,xs3[j]? =xs[j]? ∧A3.T[j]? =some true∧j∉T'.nums:=fun j hj=>h.keep j (hO.tk j (TT.mem_r hj)) (fun e=>n5 j e hj);have bc:∀q∈c.bl,q<w.heap.size:=fun q hq=>(hc.type hq).lt;refine⟨⟨⟨?_,?_,fun j hj=>?_⟩,h.len,h.newC,fun q hq=>?_,fun j h1 h2=>?_,?_,h.max,h.chg.mono (fun j hj=>hj.imp id (fun h=>by simp[TT.bl,h]))⟩,?_,k1⟩
 ·simp only[TT.nums,ax7,av8,aI3,ax6];exact⟨⟨k3,n2⟩,h.own.nn,n4,fun x hx y hy e=>by subst e;exact(kc x hy).2.2 hx⟩
 ·simp only[TT.bl,ax6];refine⟨h.own.bn,b2,fun x hx y hy e=>?_⟩;subst e;rcases h.newB x hx with e | e
  ·exact b3 x e x hy rfl
  ·have :=bc x hy;omega
 ·simp only[TT.nums,av9,av8]at hj;rcases hj with rfl | hj | hj
  ·exact k2
  ·exact h.own.tk j hj
  ·exact(kc j hj).2.1
 ·simp only[TT.bl,av8]at hq⊢;rcases hq with hq | hq
  ·exact(h.newB q hq).imp Ei id
  ·exact Ei (Ej hq)
 ·have h2':j≠kn∧j∉a.nums∧j∉c.nums:=by
   simp only[TT.nums,av9,av8,aI3]at h2;exact h2
  obtain⟨e1,e2,e3⟩:=h.keep j h1 h2'.2.1;refine⟨e1,e2,?_⟩;simp only[TT.nums,av9,av8,aI3];exact⟨h2'.1,e3,h2'.2.2⟩
 ·have :=h.live;simp only[TT.st,ST.size];omega
 ·exact hc.keep (fun j hj=>(kc j hj).1) (fun q hq=>h.chg.block q (bc q hq) (fun hs=>hs.elim (hH.notBlk (hc.type hq)) (fun e=>b3 q e q hq rfl)))
theorem SubPre.right (hO:Own A (.pair kn a c))(h:SubPre w w3 C A xs c T' C3 A3 xs3)(hH:Head w p C A xs root vis)(ha:Sub w xs a):
  SubPre w w3 C A xs (.pair kn a c) (.pair kn a T') C3 A3 xs3∧Sub w3 xs3 a∧xs3[kn]? =xs[kn]? :=by
 obtain⟨n1,n2,n3,n4,n5⟩:=TT.dis hO.nn;have hbn:=hO.bn;simp only[TT.bl,ax6]at hbn;obtain⟨b1,b2,b3⟩:=hbn;have tk:=hO.tk kn TT.mem_k;obtain⟨k1,k2,k3⟩:=h.keep kn tk n2;have kc:∀j∈a.nums,xs3[j]? =xs[j]? ∧A3.T[j]? =some true∧j∉T'.nums:=fun j hj=>h.keep j (hO.tk j (TT.mem_l hj)) (fun e=>n5 j hj e);have bc:∀q∈a.bl,q<w.heap.size:=fun q hq=>(ha.type hq).lt;refine⟨⟨⟨?_,?_,fun j hj=>?_⟩,h.len,h.newC,fun q hq=>?_,fun j h1 h2=>?_,?_,h.max,h.chg.mono (fun j hj=>hj.imp id (fun h=>by simp[TT.bl,h]))⟩,?_,k1⟩
 ·simp only[TT.nums,ax7,av8,aI3,ax6];exact⟨⟨n1,k3⟩,n3,h.own.nn,fun x hx y hy e=>by subst e;exact(kc x hx).2.2 hy⟩
 ·simp only[TT.bl,ax6];refine⟨b1,h.own.bn,fun x hx y hy e=>?_⟩;subst e;rcases h.newB x hy with e | e
  ·exact b3 x hx x e rfl
  ·have :=bc x hx;omega
 ·simp only[TT.nums,av9,av8]at hj;rcases hj with rfl | hj | hj
  ·exact k2
  ·exact(kc j hj).2.1
  ·exact h.own.tk j hj
 ·simp only[TT.bl,av8]at hq⊢;rcases hq with hq | hq
  ·exact Ei (Ei hq)
  ·exact(h.newB q hq).imp Ej id
 ·have h2':j≠kn∧j∉a.nums∧j∉c.nums:=by
   simp only[TT.nums,av9,av8,aI3]at h2;exact h2
  obtain⟨e1,e2,e3⟩:=h.keep j h1 h2'.2.2;refine⟨e1,e2,?_⟩;simp only[TT.nums,av9,av8,aI3];exact⟨h2'.1,h2'.2.1,e3⟩
 ·have :=h.live;simp only[TT.st,ST.size];omega
 ·exact ha.keep (fun j hj=>(kc j hj).1) (fun q hq=>h.chg.block q (bc q hq) (fun hs=>hs.elim (hH.notBlk (ha.type hq)) (fun e=>b3 q hq q e rfl)))
end
theorem Dl(l r:ST):(bal (.pair l r)).high≤max l.high r.high+1:=by
 simp only[bal];by_cases hc:r.high+1<l.high
 ·rw[aH9 hc];cases l with
  | leaf x=>simp[ST.high]at hc
  | pair a b=>
   simp only[ST.high]at hc;by_cases hd:a.high<b.high
   ·rw[aH9 (show (ST.pair a b).hl<(ST.pair a b).hr from hd)];cases b with
    | leaf x=>simp[ST.high]at hd
    | pair b1 b2=>
     simp only[ST.high]at hc hd;simp only[iT,iU,ST.high];omega
   ·rw[aH8 (show ¬(ST.pair a b).hl<(ST.pair a b).hr from hd)];simp only[iU,ST.high];omega
 ·rw[aH8 hc];by_cases hc':l.high+1<r.high
  ·rw[aH9 hc'];cases r with
   | leaf x=>simp[ST.high]at hc'
   | pair a b=>
    simp only[ST.high]at hc hc';by_cases hd:b.high<a.high
    ·rw[aH9 (show (ST.pair a b).hr<(ST.pair a b).hl from hd)];cases a with
     | leaf x=>simp[ST.high]at hd
     | pair b1 b2=>
      simp only[ST.high]at hc hc' hd;simp only[iT,iU,ST.high];omega
    ·rw[aH8 (show ¬(ST.pair a b).hr<(ST.pair a b).hl from hd)];simp only[iT,ST.high];omega
  ·rw[aH8 hc'];exact aA5 _
theorem Bf(t:ST)(k:Nat)(b:Bool):(cT t k b).high≤t.high+1:=by
 induction t generalizing k with
 | leaf l=>
  simp only[cT];split
  ·split<;>simp[ST.high]
  ·simp[ST.high]
 | pair x y ihx ihy=>
  simp only[cT];split
  ·have :=Dl (cT x k b) y;have :=ihx k;simp only[ST.high];omega
  ·have :=Dl x (cT y (k-x.bits.length) b);have :=ihy (k-x.bits.length);simp only[ST.high];omega
theorem ab2(T:TT):∀(w:World) (p:Nat) (C:Nat→Prop) (A:Ar) (xs:List Nd) (root vis:Int) (k:Nat) (b:Bool),Head w p C A xs root vis→xs.length=A.T.length→0≤vis→vis+7*T.st.high+10≤100000000000→Sub w xs T→Own A T→A.live+2≤A.M→k≤T.st.bits.length→
  T.st.bits.length<8589934592→T.st.high<1000000000→
  Calls Tryz.prog 237 #[.pointer (some ⟨p,0,none⟩), .int .i64 T.num, .int .i64 k, .bool b] w fun e w'=>sZ w w' p C A xs root vis T k b e:=by
 induction T with
 | leaf kn q l=>
  intro w p C A xs root vis k b h hlen hv0 hv hS hO hlv hk hb1 hh1;simp only[TT.st,ST.bits]at hk;have hl:=hS.2.1;by_cases h128:l.length=128
  ·exact Ov h hlen hv0 (by simp only[TT.st,ST.high]at hv;omega) hS hO h128 hlv k E b
  ·exact Ur h hlen hv0 (by simp only[TT.st,ST.high]at hv;omega) hS hO E k hk b
 | pair kn a c iha ihc=>
  intro w p C A xs root vis k b h hlen hv0 hv hS hO hlv hk hb1 hh1;change Calls Tryz.prog _ #[.pointer (some ⟨p,0,none⟩), .int .i64 (kn:Int), .int .i64 k, .bool b] w _;have hx:=hS.root;change xs[kn]? =some (TT.pair kn a c).nd at hx;obtain⟨g,rc,cur,c1,hgp,_⟩:=h.row (by have :=(ar5.1 hx).1;omega);obtain⟨_,_,hkx,_⟩:=h.node c1 hx;obtain⟨a0,a1,a2,a3,a4,a5,a6,a7⟩:=h.eight c1 hx;obtain⟨_,_,cv,fz⟩:=h.cells;have f3:=fz 3;have hp:=h.lt p h.self;have hg:=aF8 w _ a0;simp only[TT.st,ST.bits,ST.high,as6]at hv hk hb1 hh1;obtain⟨na,hna⟩:∃na,a.num=na:=⟨_,rfl⟩;obtain⟨nc,hnc⟩:∃nc,c.num=nc:=⟨_,rfl⟩;obtain⟨la,hla⟩:∃la,a.st.bits.length=la:=⟨_,rfl⟩;obtain⟨ha,hha⟩:∃h,a.st.high=h:=⟨_,rfl⟩;obtain⟨hc,hhc⟩:∃h,c.st.high=h:=⟨_,rfl⟩;rw[hla]at hk hb1;rw[hha,hhc]at hv hh1;simp only[TT.nd,eL,aD2]at a0 a1 a2 a3 a4 a5 a6 a7;rw[hla]at a3 a5;have hna':Hid (a.num=na):=hna;change w.cell? ⟨g,kn*8,none⟩=some (.int .i64 (a.num:Int))at a0;change w.cell? ⟨g,kn*8+1,none⟩=some (.int .i64 (c.num:Int))at a1;rw[hna]at a0;rw[hnc]at a1;have HNA:=θ hna;have HNC:=θ hnc;have HLA:=θ hla;have HHA:=θ hha;have HHC:=θ hhc;have HH3:Hid (∀o,Head ((w.setCell ⟨p,3,none⟩ (.int .i64 (vis+1))).alloc o) p C A xs root (vis+1)):=fun o=>(h.set3 (vis+1)).below (aN _ _);have HG:Hid (∀o,Chg C w ((w.setCell ⟨p,3,none⟩ (.int .i64 (vis+1))).alloc o)):=fun o=>(h.chg3 _ 3).alloc o;have HSA:Hid (∀w',Chg C w w'→Sub w' xs a):=fun w' hc=>hS.2.1.chgC h hc (fun _ _=>rfl);have HSC:Hid (∀w',Chg C w w'→Sub w' xs c):=fun w' hc=>hS.2.2.chgC h hc (fun _ _=>rfl);have HX:=θ hx;have HO:=θ hO;have HL:=θ hlen;have HIA:=θ iha;have HIC:=θ ihc;have HLV:=θ hlv;have hkb:k≤8589934592:=E;clear h fz hx hS hO hlen iha ihc hlv hna hnc hla hha hhc hna';by_cases hlt:k≤la
  ·have d1:decide (k≤la)=true:=aH1 hlt;go_enter Tryz.func237,Tryz.ntmps237;go_wp2_with fail;have h2:=HH3.o (.cells #[.int .i64 na, .int .i64 nc, .int .i64 (ST.pair a.st c.st).high, .int .i64 (la+c.st.bits.length), .int .i64 (a.st.bits.count true+c.st.bits.count true), .int .i64 la, .int .i64 (a.st.bits.count true), .pointer none] 221);have hih:=HIA.o _ p C A xs root (vis+1) k b h2 HL.o E (by rw[HHA.o];omega) (HSA.o _ (HG.o _)) HO.o.l HLV.o (by rw[HLA.o];omega) (by rw[HLA.o];omega) (by rw[HHA.o];omega);rw[HNA.o]at hih;refine hih.mono ?_;rintro e w3 ⟨T',C3,A3,xs3,v3,rfl,hP,hst⟩;obtain⟨q1,q2,q3⟩:=SubPre.left HO.o hP.pre h2 (HSC.o _ (HG.o _));have hx3:=q3.trans HX.o;have hg2:=HG.o (.cells #[.int .i64 na, .int .i64 nc, .int .i64 (ST.pair a.st c.st).high, .int .i64 (la+c.st.bits.length), .int .i64 (a.st.bits.count true+c.st.bits.count true), .int .i64 la, .int .i64 (a.st.bits.count true), .pointer none] 221);have hpre:=SubPre.first hg2 q1
   have h3:=hP.head;have s3:=hP.sub;have hv3:=hP.vis;rw[HHA.o]at hv3;obtain⟨g3,rc3,cur3,r3,hgp3,_⟩:=h3.row (by have :=(ar5.1 hx3).1;omega);obtain⟨_,fz3,hkx3,_⟩:=h3.node r3 hx3;obtain⟨e0,e1,_⟩:=h3.eight r3 hx3;have z3:=fz3 (kn*8);have hp3:=h3.lt p h3.self;obtain⟨h4,g4,_⟩:=h3.put r3 hx3 (i:=0) (v:= .int .i64 T'.num) (x':=⟨T'.num,c.num,(TT.pair kn a c).nd.height,(TT.pair kn a c).nd.n,(TT.pair kn a c).nd.ones,(TT.pair kn a c).nd.ln,(TT.pair kn a c).nd.lones,none⟩) E rfl;have g4C:Chg C3 w3 _:=g4.mono (fun j e=>by subst e;exact h3.rowC ⟨_,_,r3⟩);have hdis:=TT.dis hpre.own.nn;have st4:=s3.chgC h3 g4C (bC (y:=⟨T'.num,c.num,(TT.pair kn a c).nd.height,(TT.pair kn a c).nd.n,(TT.pair kn a c).nd.ones,(TT.pair kn a c).nd.ln,(TT.pair kn a c).nd.lones,none⟩) hdis.1);have sc4:=q2.chgC h3 g4C (bC (y:=⟨T'.num,c.num,(TT.pair kn a c).nd.height,(TT.pair kn a c).nd.n,(TT.pair kn a c).nd.ones,(TT.pair kn a c).nd.ln,(TT.pair kn a c).nd.lones,none⟩) hdis.2.1);have hTh:T'.st.high≤ha+1:=by rw[hst,←HHA.o];exact Bf _ _ _
   have hTb:T'.st.bits.length=la+1:=by rw[hst,rX (by rw[HLA.o];omega),fZ (by rw[HLA.o];omega),HLA.o]
   have hsmall:Small (.pair T'.st c.st):=by
    refine⟨?_,?_⟩
    ·simp only[ST.bits,as6,hTb];omega
    ·simp only[ST.high];rw[HHC.o];omega
   have HB:=θ (rG h4 E E (k:=kn) (x:=⟨T'.num,c.num,(TT.pair kn a c).nd.height,(TT.pair kn a c).nd.n,(TT.pair kn a c).nd.ones,(TT.pair kn a c).nd.ln,(TT.pair kn a c).nd.lones,none⟩) (a:=T') (c:=c) (aS hx3) rfl rfl rfl st4 sc4 hpre.own.nn hsmall);have H4:=θ h4;have G4:=θ g4C;have HP:=θ hpre;have HST:=θ hst;have HTH:=θ hTh;have HV3:=θ hv3;clear h2 hih hP hst q1 q2 q3 hx3 hg2 hpre h3 s3 fz3 h4 g4 g4C hdis st4 sc4 hTh hTb hsmall hv3;obtain⟨nt,hnt⟩:∃n,T'.num=n:=⟨_,rfl⟩;rw[hnt];rw[hnt]at HB G4 H4;go_wp2_with fail;refine HB.o.mono ?_;rintro e w5 hB;obtain⟨T2,xs5,v5,rfl,h5,s5,hst5,hn5,hb5,kp5,ln5,hv5⟩:=hB.ex;have H5:=θ h5;have S5:=θ s5;have HST5:=θ hst5;have HN5:=θ hn5;have HB5:=θ hb5;have KP5:=θ kp5;have LN5:=θ ln5;have HV5:=θ hv5;have C5:=θ hB.chg;clear hB h5 s5 hst5 hn5 hb5 kp5 ln5 hv5;go_wp2_with fail;go_ret;have hx5:=HP.o.next (T2:=T2) (xs':=xs5) (G4.out.trans C5.out (fun j hj=>Ei hj)) (fun j hj=>by rw[KP5.out j hj];exact aG (by rintro rfl;exact hj TT.mem_k)) (by rw[LN5.out];simp) HN5.o HB5.o (by rw[HST5.o,qM];rfl);refine⟨T2,C3,A3,xs5,v5,rfl,SubPost.of H5.o S5.out hx5 ?_,?_⟩
   ·have :=HV3.o;have :=HV5.o;simp only[TT.st,ST.high];rw[HHA.o,HHC.o];exact⟨E,E⟩
   ·rw[HST5.o,HST.o];simp only[TT.st,cT];rw[aH9 (by rw[HLA.o];exact hlt)]
  ·have d1:decide (k≤la)=false:=aG9 hlt;go_enter Tryz.func237,Tryz.ntmps237;go_wp2_with fail;rw[show (k:Int)-(la:Int)=((k-la:Nat):Int) by omega];have h2:=HH3.o (.cells #[.int .i64 na, .int .i64 nc, .int .i64 (ST.pair a.st c.st).high, .int .i64 (la+c.st.bits.length), .int .i64 (a.st.bits.count true+c.st.bits.count true), .int .i64 la, .int .i64 (a.st.bits.count true), .pointer none] 221);have hih:=HIC.o _ p C A xs root (vis+1) (k-la) b h2 HL.o E (by rw[HHC.o];omega) (HSC.o _ (HG.o _)) HO.o.r HLV.o E E (by rw[HHC.o];omega);rw[HNC.o]at hih;refine hih.mono ?_;rintro e w3 ⟨T',C3,A3,xs3,v3,rfl,hP,hst⟩;obtain⟨q1,q2,q3⟩:=SubPre.right HO.o hP.pre h2 (HSA.o _ (HG.o _));have hx3:=q3.trans HX.o;have hg2:=HG.o (.cells #[.int .i64 na, .int .i64 nc, .int .i64 (ST.pair a.st c.st).high, .int .i64 (la+c.st.bits.length), .int .i64 (a.st.bits.count true+c.st.bits.count true), .int .i64 la, .int .i64 (a.st.bits.count true), .pointer none] 221);have hpre:=SubPre.first hg2 q1
   have h3:=hP.head;have s3:=hP.sub;have hv3:=hP.vis;rw[HHC.o]at hv3;obtain⟨g3,rc3,cur3,r3,hgp3,_⟩:=h3.row (by have :=(ar5.1 hx3).1;omega);obtain⟨_,fz3,hkx3,_⟩:=h3.node r3 hx3;obtain⟨e0,e1,_⟩:=h3.eight r3 hx3;have z3:=fz3 (kn*8+1);have hp3:=h3.lt p h3.self;obtain⟨h4,g4,_⟩:=h3.put r3 hx3 (i:=1) (v:= .int .i64 T'.num) (x':=⟨a.num,T'.num,(TT.pair kn a c).nd.height,(TT.pair kn a c).nd.n,(TT.pair kn a c).nd.ones,(TT.pair kn a c).nd.ln,(TT.pair kn a c).nd.lones,none⟩) E rfl;have g4C:Chg C3 w3 _:=g4.mono (fun j e=>by subst e;exact h3.rowC ⟨_,_,r3⟩);have hdis:=TT.dis hpre.own.nn;have st4:=s3.chgC h3 g4C (bC (y:=⟨a.num,T'.num,(TT.pair kn a c).nd.height,(TT.pair kn a c).nd.n,(TT.pair kn a c).nd.ones,(TT.pair kn a c).nd.ln,(TT.pair kn a c).nd.lones,none⟩) hdis.2.1);have sc4:=q2.chgC h3 g4C (bC (y:=⟨a.num,T'.num,(TT.pair kn a c).nd.height,(TT.pair kn a c).nd.n,(TT.pair kn a c).nd.ones,(TT.pair kn a c).nd.ln,(TT.pair kn a c).nd.lones,none⟩) hdis.1);have hTh:T'.st.high≤hc+1:=by rw[hst,←HHC.o];exact Bf _ _ _
   have hTb:T'.st.bits.length=c.st.bits.length+1:=by rw[hst,rX E,fZ E]
   have hsmall:Small (.pair a.st T'.st):=by
    refine⟨?_,?_⟩
    ·simp only[ST.bits,as6,hTb];rw[HLA.o];omega
    ·simp only[ST.high];rw[HHA.o];omega
   have HB:=θ (rG h4 E E (k:=kn) (x:=⟨a.num,T'.num,(TT.pair kn a c).nd.height,(TT.pair kn a c).nd.n,(TT.pair kn a c).nd.ones,(TT.pair kn a c).nd.ln,(TT.pair kn a c).nd.lones,none⟩) (a:=a) (c:=T') (aS hx3) rfl rfl rfl sc4 st4 hpre.own.nn hsmall);have H4:=θ h4;have G4:=θ g4C;have HP:=θ hpre;have HST:=θ hst;have HTH:=θ hTh;have HV3:=θ hv3;clear h2 hih hP hst q1 q2 q3 hx3 hg2 hpre h3 s3 fz3 h4 g4 g4C hdis st4 sc4 hTh hTb hsmall hv3;obtain⟨nt,hnt⟩:∃n,T'.num=n:=⟨_,rfl⟩;rw[hnt];rw[hnt]at HB G4 H4;go_wp2_with fail;refine HB.o.mono ?_;rintro e w5 hB;obtain⟨T2,xs5,v5,rfl,h5,s5,hst5,hn5,hb5,kp5,ln5,hv5⟩:=hB.ex;have H5:=θ h5;have S5:=θ s5;have HST5:=θ hst5;have HN5:=θ hn5;have HB5:=θ hb5;have KP5:=θ kp5;have LN5:=θ ln5;have HV5:=θ hv5;have C5:=θ hB.chg;clear hB h5 s5 hst5 hn5 hb5 kp5 ln5 hv5;go_wp2_with fail;go_ret;have hx5:=HP.o.next (T2:=T2) (xs':=xs5) (G4.out.trans C5.out (fun j hj=>Ei hj)) (fun j hj=>by rw[KP5.out j hj];exact aG (by rintro rfl;exact hj TT.mem_k)) (by rw[LN5.out];simp) HN5.o HB5.o (by rw[HST5.o,qM];rfl);refine⟨T2,C3,A3,xs5,v5,rfl,SubPost.of H5.o S5.out hx5 ?_,?_⟩
   ·have :=HV3.o;have :=HV5.o;simp only[TT.st,ST.high];rw[HHA.o,HHC.o];exact⟨E,E⟩
   ·rw[HST5.o,HST.o];simp only[TT.st,cT];rw[aH8 (by rw[HLA.o];exact hlt),HLA.o]
theorem Pa{w:World}{p:Nat}{C:Nat→Prop}{A:Ar}{xs:List Nd}{vis:Int}{o:Option TT}(h:Head w p C A xs (iH o) vis)(hS:OSub w xs o)(k:Int)(x:Bool)(hk:k≤0∨(bI o).length=0):
  Calls Tryz.prog 210 #[.pointer (some ⟨p,0,none⟩), .int .i64 k, .bool x] w fun e w'=>e= .returned (.int .i64 0)∧Look w w' p C A xs (iH o) 0:=by
 have f3:=h.cells.2.2.2 3;have c3:=h.cells.2.2.1;have h0:=h.set3 0;have hc0:=h.chg3 (.int .i64 0) 3;have hl:=rH h0 (hS.chgC h hc0);have HL:=θ hl;have H0:=θ h0;have HC:=θ hc0;clear h hS h0 hc0 hl;have hk':(k<0)∨(k=0)∨(0<k∧(bI o).length=0):=E;generalize (bI o).length=n at *;clear hk;rcases hk' with hk | rfl | ⟨hk,rfl⟩
 all_goals
  go_enter Tryz.func210,Tryz.ntmps210;go_wp2_with fail;refine HL.o.mono ?_;rintro e w' ⟨rfl,m,rfl⟩;go_wp2_with fail;go_ret;exact⟨rfl,⟨0,aA5 _,H0.o.drewN _⟩,HC.o.drewN _⟩
theorem zD{w:World}{p:Nat}{C:Nat→Prop}{A:Ar}{xs:List Nd}{vis:Int}{T0:TT}(h:Head w p C A xs T0.num vis)(hS:Sub w xs T0)(hm:T0.Sm)(k0:Int)(K:Nat)(x:Bool)
  (hk:(0<k0∧k0≤T0.st.bits.length∧k0=K)∨((T0.st.bits.length:Int)<k0∧K=T0.st.bits.length)) (hK:0<K):
  Calls Tryz.prog 210 #[.pointer (some ⟨p,0,none⟩), .int .i64 k0, .bool x] w fun e w'=>e= .returned (.int .i64 (aJ T0.st.bits K x))∧Look w w' p C A xs T0.num (T0.st.high+1):=by
 have f3:=h.cells.2.2.2 3;have c3:=h.cells.2.2.1;have h0:=h.set3 0;have hc0:=h.chg3 (.int .i64 0) 3;have hS0:=hS.chgC h hc0 (fun _ _=>rfl);have hl:=lM h0 hS0;have c2:=h0.cells.2.1;have HL:=θ hl;have H0:=θ h0;have HC:=θ hc0;have HS0:=θ hS0;have hhm:=hm.high;have hlm:=hm.len;have hKn:K≤T0.st.bits.length:=E;have HM:=θ hm;have HKN:=θ hKn;have HR:Hid (aJ T0.st.bits K x≤8589934592):=by have :=qY T0.st.bits K x;show _≤_;omega
 have d0:((K:Int)==0)=false:=by rw[aG5];omega
 clear h hS h0 hc0 hl hS0 hm hKn;obtain⟨W0,hW0⟩:∃W0,W0=w.setCell ⟨p,3,none⟩ (.int .i64 0):=⟨_,rfl⟩;rw[←hW0]at HL H0 HC HS0 c2;have HW0:=θ hW0;clear hW0;obtain⟨n0,hn0⟩:∃n0,n0=T0.st.bits.length:=⟨_,rfl⟩;rw[←hn0]at hk HL hlm HKN;have HN0:=θ hn0;clear hn0;rcases hk with ⟨hk1,hk2,rfl⟩ | ⟨hk,rfl⟩
 all_goals
  go_enter Tryz.func210,Tryz.ntmps210;go_wp2_with fail;rw[←HW0.o];refine HL.o.mono ?_;rintro e w' ⟨rfl,m,rfl⟩;go_wp2_with fail;go_loopg [7,8,1] (T0.st.high+1) (fun n a s b wr=>∃(T:TT) (kn k s0 v:Nat),T.num=kn∧a= .int .i64 kn∧s= .int .i64 s0∧b= .int .i64 k∧0<k∧k≤T.st.bits.length∧Sub wr xs T∧Head wr p C A xs T0.num v∧Chg C w wr∧
   s0+aJ T.st.bits k x=aJ T0.st.bits K x∧v+T.st.high≤T0.st.high∧T.st.high<n∧T.st.bits.length≤8589934592)
  case atStart=>exact⟨T0,_,_,0,0,rfl,rfl,rfl,rfl,by first | exact hK | omega,by rw[←HN0.o];have :=HKN.o;omega,HS0.o.keep (fun _ _=>rfl) (fun _ _=>rfl),H0.o.drewN _,HC.o.drewN _,Es,E,E,HM.o.len⟩
  case round=>
   obtain⟨T,kn,k,s0,v,hkn,rfl,rfl,rfl,hk0,hk,hS,hH,hC,hb,hv,hT,hlen⟩:=hrel;have hvw:=hS.view hkn;have hx:∃x,xs[kn]? =some x:=⟨_,by rw[←hkn];exact hS.root⟩;obtain⟨g,rc,cur,c1,hgp,_⟩:=hH.row (by obtain⟨x,hx⟩:=hx;have :=(ar5.1 hx).1;omega);obtain⟨_,_,cv,fz⟩:=hH.cells;have f3:=fz 3;have hp:=hH.lt p hH.self;have HH3:Hid (∀v:Int,Head (wr.setCell ⟨p,3,none⟩ (.int .i64 v)) p C A xs T0.num v):=fun v=>hH.set3 v;have HCC:=θ hC;have hs0:s0≤8589934592:=by have :=HR.o;omega
   have HB:=θ hb;have HCp:=θ hH.self;have HNC:Hid (∀q l,IsBlock wr q l→¬C q):=fun q l h=>hH.notBlk h.type;clear hC hb hx fz HS0 HC H0 HW0 HL c2 hgp hK;rcases hvw with ⟨q,l,hst,hblk,hx⟩ | ⟨Ta,Tb,hst,hSa,hSb,hx⟩
   ·obtain⟨_,_,hkx,_⟩:=hH.node c1 hx;obtain⟨a0,a1,a2,a3,a4,a5,a6,a7⟩:=hH.eight c1 hx;have hg:=aF8 wr _ a0;simp only[eL,aD3]at a0 a1 a2 a3 a4 a5 a6 a7;rw[hst]at hk hv hT hlen;have hbb:=HB.o;rw[hst]at hbb;simp only[ST.bits]at hbb;have HBB:=θ hbb;have HW:Hid (∀v o,IsBlock ((wr.setCell ⟨p,3,none⟩ v).alloc o) q l):=fun v o=>hblk.chg ((Chg.refl.setCell ⟨p,3,none⟩ (Ei HCp.o) v).alloc o) (HNC.o q l hblk);have HLK:=θ (Mk (x:=x) hk);simp only[ST.high,ST.bits]at hk hv hT hlen;have HRR:=θ (qY l k true);clear hH hS hkn hx hst hblk hbb;go_wp2_with fail;refine(ad3 (HW.o _ _) k).mono ?_;rintro e w2 ⟨rfl,hb2⟩;rw[ao2];have HB2:=θ hb2;clear hb2;generalize hr:aJ l k true=r at *;have HLK2:=θ (show mA k r x=aJ l k x by rw[←hr];exact HLK.o);have HRR2:=HRR.o;have hlk3:=HLK2.o;generalize hR2:aJ l k x=R2 at *;have HLK3:=θ hlk3;have hR3:R2≤k:=by rw[←hR2];exact(qY l k x).1
    clear hr hR2 hlk3 HLK;go_wp2_with fail;refine(gU k r x w2 E E E).mono ?_;rintro e w' ⟨rfl,rfl⟩;rw[HLK3.o];go_wp2_with fail;go_ret;refine⟨aT ?_,⟨v+1,E,?_⟩,?_⟩
    ·have :=HBB.o;omega
    ·exact_mod_cast ((HH3.o (v+1)).below (aN _ _)).below HB2.o
    ·exact((HCC.o.setCell _ (Ei HCp.o) _).alloc _).trans (Chg.of_below (S:=C) HB2.o) (fun _ h=>Ei h)
   ·obtain⟨_,_,hkx,_⟩:=hH.node c1 hx;obtain⟨a0,a1,a2,a3,a4,a5,a6,a7⟩:=hH.eight c1 hx;have hg:=aF8 wr _ a0;simp only[eL,aD2]at a0 a1 a2 a3 a4 a5 a6 a7;rw[hst]at hk hv hT hlen;simp only[ST.bits,ST.high,as6]at hk hv hT hlen;have HSa:Hid (∀W,Chg C wr W→Sub W xs Ta):=fun W hc=>hSa.chgC hH hc (fun _ _=>rfl);have HSb:Hid (∀W,Chg C wr W→Sub W xs Tb):=fun W hc=>hSb.chgC hH hc (fun _ _=>rfl);have hb:=HB.o;rw[hst]at hb;simp only[ST.bits]at hb;have HB2:=θ hb;have HLN:=θ (kX Ta.st.bits x);have hca:=count_le Ta.st.bits true;have hca2:=count_le Ta.st.bits x;obtain⟨na,hna⟩:∃na,Ta.num=na:=⟨_,rfl⟩;obtain⟨nb,hnb⟩:∃nb,Tb.num=nb:=⟨_,rfl⟩;obtain⟨la,hla⟩:∃la,Ta.st.bits.length=la:=⟨_,rfl⟩;obtain⟨ca,hca'⟩:∃ca,Ta.st.bits.count true=ca:=⟨_,rfl⟩;obtain⟨cx,hcx⟩:∃cx,Ta.st.bits.count x=cx:=⟨_,rfl⟩;rw[hla]at hk hlen hca hca2;rw[hca']at hca;rw[hcx]at hca2;simp only[hna,hnb,hla,hca']at a0 a1 a2 a3 a4 a5 a6;have HLN2:=θ (show mA la ca x=cx by rw[←hla,←hca',←hcx];exact HLN.o);have HNA:=θ hna;have HNB:=θ hnb;have HLA:=θ hla;have HCX:=θ hcx;by_cases hlt:k≤la
    ·have d1:decide (k≤la)=true:=aH1 hlt;clear hH hS hkn hx hst hSa hSb hb hna hnb hla hca' hcx HB HLN;go_wp2_with fail;go_roundg (max Ta.st.high Tb.st.high+1);case measure=>omega
     case rel=>
      refine⟨Ta,na,k,s0,v+1,HNA.o,rfl,rfl,rfl,hk0,by rw[HLA.o];exact hlt,HSa.o _ ((Chg.refl.setCell ⟨p,3,none⟩ (Ei HCp.o) _).alloc _),?_,HCC.o.trans ((Chg.refl.setCell ⟨p,3,none⟩ (Ei HCp.o) _).alloc _) (fun _ h=>Ei h),?_,E,E,by have :=HLA.o;omega⟩
      ·exact_mod_cast (HH3.o (v+1)).below (aN _ _)
      ·rw[←HB2.o,vA (by rw[HLA.o];exact hlt)]
    ·have d1:decide (k≤la)=false:=aG9 hlt;clear hH hS hkn hx hst hSa hSb hb hna hnb hla hca' hcx HB HLN;go_wp2_with fail;refine(gU la ca x _ E E E).mono ?_;rintro e w' ⟨rfl,rfl⟩;rw[HLN2.o];go_wp2_with fail;go_quiet (fail);go_wp2_with fail;go_roundg (max Ta.st.high Tb.st.high+1);case measure=>omega
     case rel=>
      refine⟨Tb,nb,k-la,s0+cx,v+1,HNB.o,rfl,?_,?_,E,E,HSb.o _ (((Chg.refl.setCell ⟨p,3,none⟩ (Ei HCp.o) _).alloc _).drewN _),?_,HCC.o.trans (((Chg.refl.setCell ⟨p,3,none⟩ (Ei HCp.o) _).alloc _).drewN _) (fun _ h=>Ei h),?_,E,E,E⟩
      ·congr 1
      ·congr 1;omega
      ·exact_mod_cast ((HH3.o (v+1)).below (aN _ _)).drewN _
      ·rw[←HB2.o,vB (by rw[HLA.o];omega),HLA.o,HCX.o];omega
def yO:Option TT→Nat
 | none=>0
 | some T=>T.st.high+1
def OSm:Option TT→Prop
 | none=>True
 | some T=>T.Sm
theorem Look.mono {w w':World}{p:Nat}{C:Nat→Prop}{A:Ar}{xs:List Nd}{root:Int}{m m':Nat}(h:Look w w' p C A xs root m)(hm:m≤m'):Look w w' p C A xs root m':=by
 obtain⟨v,hv,hH⟩:=h.head;exact⟨⟨v,E,hH⟩,h.chg⟩
theorem Uz{w:World}{p:Nat}{C:Nat→Prop}{A:Ar}{xs:List Nd}{vis:Int}{o:Option TT}(h:Head w p C A xs (iH o) vis)(hS:OSub w xs o)(hm:OSm o)(k:Int)(x:Bool):
  Calls Tryz.prog 210 #[.pointer (some ⟨p,0,none⟩), .int .i64 k, .bool x] w fun e w'=>e= .returned (.int .i64 (aJ (bI o) k.toNat x))∧Look w w' p C A xs (iH o) (yO o):=by
 by_cases hz:k≤0∨(bI o).length=0
 ·have e0:aJ (bI o) k.toNat x=0:=by
   have :=qY (bI o) k.toNat x;rcases hz with hz | hz<;>omega
  rw[e0];refine(Pa h hS k x hz).mono ?_;rintro e w' ⟨rfl,hL⟩;exact⟨rfl,hL.mono (aC8 _)⟩
 ·cases o with
  | none=>exact absurd (Ej rfl) hz
  | some T=>
   have hz':0<k∧T.st.bits.length≠0:=⟨E,fun e=>hz (Ej e)⟩;by_cases hk:k≤T.st.bits.length
   ·exact zD h hS hm k k.toNat x (Ei ⟨hz'.1,hk,E⟩) E
   ·have e1:aJ (bI (some T)) k.toNat x=aJ T.st.bits T.st.bits.length x:=by
     show aJ T.st.bits k.toNat x=_;rw[dO x E,dO x (aA5 _)]
    rw[e1];exact zD h hS hm k T.st.bits.length x (Ej ⟨E,rfl⟩) (E)
theorem BitTab.chg {S:Nat→Prop}{w w':World}(h:BitTab w)(hc:Chg S w w')(hn:¬S 0):BitTab w':=fun j hj=>hc.cell (h j hj) hn
theorem Jm{w:World}{p:Nat}{C:Nat→Prop}{A:Ar}{xs:List Nd}{root vis:Int}(h:Head w p C A xs root vis)(j:Int)(x:Bool)(hj:j<0):
  Calls Tryz.prog 178 #[.pointer (some ⟨p,0,none⟩), .int .i64 j, .bool x] w fun e w'=>e= .returned (.int .i64 (-1))∧Look w w' p C A xs root 0:=by
 have f3:=h.cells.2.2.2 3;have c3:=h.cells.2.2.1;have H0:=θ (h.set3 0);have HC:=θ (h.chg3 (.int .i64 0) 3);clear h;go_enter Tryz.func178,Tryz.ntmps178;go_wp2_with fail;go_ret;exact⟨rfl,⟨0,aA5 _,H0.o⟩,HC.o⟩
theorem Hg{w:World}{p:Nat}{C:Nat→Prop}{A:Ar}{xs:List Nd}{vis:Int}{o:Option TT}(h:Head w p C A xs (iH o) vis)(hS:OSub w xs o)(hm:OSm o)(j:Int)(x:Bool)(hj0:0≤j)(hj:((bI o).count x:Int)≤j):
  Calls Tryz.prog 178 #[.pointer (some ⟨p,0,none⟩), .int .i64 j, .bool x] w fun e w'=>e= .returned (.int .i64 (-1))∧Look w w' p C A xs (iH o) 0:=by
 have f3:=h.cells.2.2.2 3;have c3:=h.cells.2.2.1;have h0:=h.set3 0;have hc0:=h.chg3 (.int .i64 0) 3;have hS0:=hS.chgC h hc0;have HL:=θ (rH h0 hS0);have HO:Hid (∀n,Calls Tryz.prog 218 #[.pointer (some ⟨p,0,none⟩)] ((w.setCell ⟨p,3,none⟩ (.int .i64 0)).drewN n) fun e w'=>e= .returned (.int .i64 ((bI o).count true))∧∃m,w'=((w.setCell ⟨p,3,none⟩ (.int .i64 0)).drewN n).drewN m):=by
  intro n;refine Uy (h0.drewN n) ?_;cases o with
  | none=>trivial
  | some T=>exact Sub.keep hS0 (fun _ _=>rfl) (fun _ _=>rfl)
 have H0:=θ h0;have HC:=θ hc0;have hlen:(bI o).length≤8589934592:=by
  cases o with
  | none=>simp[bI]
  | some T=>exact hm.len
 have HK:=θ (kX (bI o) x);have hct:=count_le (bI o) true;have d0:decide (j<0)=false:=by simp;omega
 have d1:decide (((bI o).count x:Int)≤j)=true:=by simpa using hj
 clear h hS h0 hc0 hS0 hm hj;generalize (bI o).length=n at *;generalize (bI o).count x=cx at *;generalize (bI o).count true=ct at *;go_enter Tryz.func178,Tryz.ntmps178;go_wp2_with fail;refine HL.o.mono ?_;rintro e w' ⟨rfl,m,rfl⟩;go_wp2_with fail;refine(HO.o m).mono ?_;rintro e w' ⟨rfl,m2,rfl⟩;go_wp2_with fail;refine(gU n ct x _ E E E).mono ?_;rintro e w' ⟨rfl,rfl⟩;rw[HK.o];go_wp2_with fail;go_ret;exact⟨rfl,⟨0,aA5 _,H0.o.drewN _⟩,HC.o.drewN _⟩
theorem Hf{w:World}{p:Nat}{C:Nat→Prop}{A:Ar}{xs:List Nd}{vis:Int}{T0:TT}(h:Head w p C A xs T0.num vis)(hS:Sub w xs T0)(hm:T0.Sm)(hTab:BitTab w)(hN:¬C 0)(J:Nat)(x:Bool)
  (hJ:J<T0.st.bits.count x):
  Calls Tryz.prog 178 #[.pointer (some ⟨p,0,none⟩), .int .i64 J, .bool x] w fun e w'=>e= .returned (.int .i64 (cF T0.st.bits J x))∧Look w w' p C A xs T0.num (T0.st.high+1):=by
 have f3:=h.cells.2.2.2 3;have c3:=h.cells.2.2.1;have h0:=h.set3 0;have hc0:=h.chg3 (.int .i64 0) 3;have hS0:=hS.chgC h hc0 (fun _ _=>rfl);have c2:=h0.cells.2.1;have HT0:=θ hTab;have HNT:=θ hN;have HL:=θ (lM h0 hS0);have HO:Hid (∀n,Calls Tryz.prog 218 #[.pointer (some ⟨p,0,none⟩)] ((w.setCell ⟨p,3,none⟩ (.int .i64 0)).drewN n) fun e w'=>e= .returned (.int .i64 (T0.st.bits.count true))∧∃m,w'=((w.setCell ⟨p,3,none⟩ (.int .i64 0)).drewN n).drewN m):=by
  intro n;exact zC (h0.drewN n) (hS0.keep (fun _ _=>rfl) (fun _ _=>rfl))
 have H0:=θ h0;have HC:=θ hc0;have HS0:=θ hS0;have hhm:=hm.high;have hlm:=hm.len;have HM:=θ hm;have HK:=θ (kX T0.st.bits x);have hct:=count_le T0.st.bits true;have hcx:=count_le T0.st.bits x;have HJ:=θ hJ;have hJ2:J≤8589934592:=E;have HR:Hid (cF T0.st.bits J x≤8589934592∧0≤cF T0.st.bits J x):=by
  obtain⟨k,h1,h2,h3⟩:=pZ x T0.st.bits J hJ;rw[fV h1 h2 (by rw[h3])];exact⟨E,E⟩
 have d0:decide ((J:Int)<0)=false:=Es;have d1:decide (T0.st.bits.count x≤J)=false:=aG9 E;clear h hS h0 hc0 hS0 hm hTab hN hJ;obtain⟨W0,hW0⟩:∃W0,W0=w.setCell ⟨p,3,none⟩ (.int .i64 0):=⟨_,rfl⟩;rw[←hW0]at HL H0 HC HS0 c2 HO;have HW0:=θ hW0;clear hW0;obtain⟨n0,hn0⟩:∃n0,n0=T0.st.bits.length:=⟨_,rfl⟩;obtain⟨cx,hcx0⟩:∃cx,cx=T0.st.bits.count x:=⟨_,rfl⟩;obtain⟨ct,hct0⟩:∃ct,ct=T0.st.bits.count true:=⟨_,rfl⟩;rw[←hn0]at HL hlm hct hcx HK;rw[←hcx0]at hcx HK d1 HJ;rw[←hct0]at hct HK HO;have HCX0:=θ hcx0;clear hn0 hcx0 hct0;go_enter Tryz.func178,Tryz.ntmps178;go_wp2_with fail;rw[←HW0.o];refine HL.o.mono ?_;rintro e w' ⟨rfl,m,rfl⟩;go_wp2_with fail;refine(HO.o m).mono ?_;rintro e w' ⟨rfl,m2,rfl⟩;go_wp2_with fail;refine(gU n0 ct x _ E E E).mono ?_;rintro e w' ⟨rfl,rfl⟩;rw[HK.o];go_wp2_with fail;go_loopg [7,8,1] (T0.st.high+1) (fun n a s b wr=>∃(T:TT) (kn j s0 v:Nat),T.num=kn∧a= .int .i64 kn∧s= .int .i64 s0∧b= .int .i64 j∧j<T.st.bits.count x∧Sub wr xs T∧Head wr p C A xs T0.num v∧Chg C w wr∧
  s0+cF T.st.bits j x=cF T0.st.bits J x∧v+T.st.high≤T0.st.high∧T.st.high<n∧T.st.bits.length≤8589934592∧s0+T.st.bits.length≤8589934592)
 case atStart=>exact⟨T0,_,_,0,0,rfl,rfl,rfl,rfl,by rw[←HCX0.o];exact HJ.o,HS0.o.keep (fun _ _=>rfl) (fun _ _=>rfl),H0.o.drewN _,HC.o.drewN _,Es,E,E,HM.o.len,by have :=HM.o.len;omega⟩
 case round=>
  obtain⟨T,kn,k,s0,v,hkn,rfl,rfl,rfl,hk,hS,hH,hC,hb,hv,hT,hlen,hsl⟩:=hrel;have hvw:=hS.view hkn;have hx:∃x,xs[kn]? =some x:=⟨_,by rw[←hkn];exact hS.root⟩;obtain⟨g,rc,cur,c1,hgp,_⟩:=hH.row (by obtain⟨x,hx⟩:=hx;have :=(ar5.1 hx).1;omega);obtain⟨_,_,cv,fz⟩:=hH.cells;have f3:=fz 3;have hp:=hH.lt p hH.self;have HH3:Hid (∀v:Int,Head (wr.setCell ⟨p,3,none⟩ (.int .i64 v)) p C A xs T0.num v):=fun v=>hH.set3 v;have HTB:=θ (HT0.o.chg hC HNT.o);have HCC:=θ hC;have hkl:k≤T.st.bits.length:=by have :=count_le T.st.bits x;omega
  have hkl2:k≤8589934592:=E;have HB:=θ hb;have HCp:=θ hH.self;have HNC:Hid (∀q l,IsBlock wr q l→¬C q):=fun q l h=>hH.notBlk h.type;clear hC hb hx fz HS0 HC H0 HW0 HL HO c2 hgp hkl;rcases hvw with ⟨q,l,hst,hblk,hx⟩ | ⟨Ta,Tb,hst,hSa,hSb,hx⟩
  ·obtain⟨_,_,hkx,_⟩:=hH.node c1 hx;obtain⟨a0,a1,a2,a3,a4,a5,a6,a7⟩:=hH.eight c1 hx;have hg:=aF8 wr _ a0;simp only[eL,aD3]at a0 a1 a2 a3 a4 a5 a6 a7;rw[hst]at hk hv hT hlen hsl;have hbb:=HB.o;rw[hst]at hbb;simp only[ST.bits]at hbb;have HBB:=θ hbb;have HW:Hid (∀v o,IsBlock ((wr.setCell ⟨p,3,none⟩ v).alloc o) q l):=fun v o=>hblk.chg ((Chg.refl.setCell ⟨p,3,none⟩ (Ei HCp.o) v).alloc o) (HNC.o q l hblk);have HWT:Hid (∀v o,BitTab ((wr.setCell ⟨p,3,none⟩ v).alloc o)):=fun v o=>HTB.o.chg ((Chg.refl.setCell ⟨p,3,none⟩ (Ei HCp.o) v).alloc o) HNT.o;simp only[ST.high,ST.bits]at hk hv hT hlen hsl;have hR3:0≤cF l k x∧cF l k x≤l.length:=by
    obtain⟨i,h1,h2,h3⟩:=pZ x l k hk;rw[fV h1 h2 (by rw[h3])];exact⟨E,E⟩
   obtain⟨hR3,hR4⟩:=hR3;have hct1:=count_le l true;clear hH hS hkn hx hst hblk hbb;have hl0:=gU 0 0 x;have hl1:mA 0 0 x=0:=by cases x<;>rfl
   rw[hl1]at hl0;have HL0:=θ (fun w=>hl0 w E E E);clear hl0 hl1;go_wp2_with fail;refine(HL0.o _).mono ?_;rintro e w2 ⟨rfl,rfl⟩;go_wp2_with fail;refine(Pv (HW.o _ _) (HWT.o _ _) k x E).mono ?_;rintro e w2 ⟨rfl,hb2⟩;have HB2:=θ hb2;clear hb2;generalize cF l k x=R2 at *;go_wp2_with fail;go_ret;refine⟨aT HBB.o,⟨v+1,E,?_⟩,?_⟩
   ·exact_mod_cast ((HH3.o (v+1)).below (aN _ _)).below HB2.o
   ·exact((HCC.o.setCell _ (Ei HCp.o) _).alloc _).trans (Chg.of_below (S:=C) HB2.o) (fun _ h=>Ei h)
  ·obtain⟨_,_,hkx,_⟩:=hH.node c1 hx;obtain⟨a0,a1,a2,a3,a4,a5,a6,a7⟩:=hH.eight c1 hx;have hg:=aF8 wr _ a0;simp only[eL,aD2]at a0 a1 a2 a3 a4 a5 a6 a7;rw[hst]at hk hv hT hlen hsl;simp only[ST.bits,ST.high,as6,ap8]at hk hv hT hlen hsl;have HSa:Hid (∀W,Chg C wr W→Sub W xs Ta):=fun W hc=>hSa.chgC hH hc (fun _ _=>rfl);have HSb:Hid (∀W,Chg C wr W→Sub W xs Tb):=fun W hc=>hSb.chgC hH hc (fun _ _=>rfl);have hb:=HB.o;rw[hst]at hb;simp only[ST.bits]at hb;have HB2:=θ hb;have HLN:=θ (kX Ta.st.bits x);have hca:=count_le Ta.st.bits true;have hca2:=count_le Ta.st.bits x;obtain⟨na,hna⟩:∃na,Ta.num=na:=⟨_,rfl⟩;obtain⟨nb,hnb⟩:∃nb,Tb.num=nb:=⟨_,rfl⟩;obtain⟨la,hla⟩:∃la,Ta.st.bits.length=la:=⟨_,rfl⟩;obtain⟨ca,hca'⟩:∃ca,Ta.st.bits.count true=ca:=⟨_,rfl⟩;obtain⟨cx2,hcx2⟩:∃cx,Ta.st.bits.count x=cx:=⟨_,rfl⟩;rw[hla]at hlen hca hca2 hsl;rw[hca']at hca;rw[hcx2]at hca2 hk;simp only[hna,hnb,hla,hca']at a0 a1 a2 a3 a4 a5 a6;have HLN2:=θ (show mA la ca x=cx2 by rw[←hla,←hca',←hcx2];exact HLN.o);have HNA:=θ hna;have HNB:=θ hnb;have HLA:=θ hla;have HCX:=θ hcx2;by_cases hlt:k<cx2
   ·have d1:decide (k<cx2)=true:=aH1 hlt;clear hH hS hkn hx hst hSa hSb hb hna hnb hla hca' hcx2 HB HLN;go_wp2_with fail;refine(gU la ca x _ E E E).mono ?_;rintro e w' ⟨rfl,rfl⟩;rw[HLN2.o];go_wp2_with fail;go_roundg (max Ta.st.high Tb.st.high+1);case measure=>omega
    case rel=>
     refine⟨Ta,na,k,s0,v+1,HNA.o,rfl,rfl,rfl,by rw[HCX.o];exact hlt,HSa.o _ ((Chg.refl.setCell ⟨p,3,none⟩ (Ei HCp.o) _).alloc _),?_,HCC.o.trans ((Chg.refl.setCell ⟨p,3,none⟩ (Ei HCp.o) _).alloc _) (fun _ h=>Ei h),?_,E,E,by have :=HLA.o;omega,by have :=HLA.o;omega⟩
     ·exact_mod_cast (HH3.o (v+1)).below (aN _ _)
     ·rw[←HB2.o,Nt (by rw[HCX.o];exact hlt)]
   ·have d1:decide (k<cx2)=false:=aG9 hlt;clear hH hS hkn hx hst hSa hSb hb hna hnb hla hca' hcx2 HB HLN;go_wp2_with fail;refine(gU la ca x _ E E E).mono ?_;rintro e w' ⟨rfl,rfl⟩;rw[HLN2.o];go_wp2_with fail;go_roundg (max Ta.st.high Tb.st.high+1);case measure=>omega
    case rel=>
     refine⟨Tb,nb,k-cx2,s0+la,v+1,HNB.o,rfl,?_,?_,E,HSb.o _ ((Chg.refl.setCell ⟨p,3,none⟩ (Ei HCp.o) _).alloc _),?_,HCC.o.trans ((Chg.refl.setCell ⟨p,3,none⟩ (Ei HCp.o) _).alloc _) (fun _ h=>Ei h),?_,E,E,E,E⟩
     ·congr 1
     ·congr 1;omega
     ·exact_mod_cast (HH3.o (v+1)).below (aN _ _)
     ·rw[←HB2.o,Nv (by rw[HCX.o];omega) (by rw[ap8,HCX.o];exact hk),HLA.o,HCX.o];omega
theorem Jl{w:World}{p:Nat}{C:Nat→Prop}{A:Ar}{xs:List Nd}{vis:Int}{o:Option TT}(h:Head w p C A xs (iH o) vis)(hS:OSub w xs o)(hm:OSm o)(hTab:BitTab w)(hN:¬C 0)(j:Int)(x:Bool):
  Calls Tryz.prog 178 #[.pointer (some ⟨p,0,none⟩), .int .i64 j, .bool x] w fun e w'=>e= .returned (.int .i64 (cF (bI o) j x))∧Look w w' p C A xs (iH o) (yO o):=by
 by_cases h0:j<0
 ·rw[Gg h0];refine(Jm h j x h0).mono ?_;rintro e w' ⟨rfl,hL⟩;exact⟨rfl,hL.mono (aC8 _)⟩
 ·by_cases h1:((bI o).count x:Int)≤j
  ·rw[Tm h1];refine(Hg h hS hm j x E h1).mono ?_;rintro e w' ⟨rfl,hL⟩;exact⟨rfl,hL.mono (aC8 _)⟩
  ·obtain⟨J,rfl⟩:=am8 (show 0≤j by omega);cases o with
   | none=>exact absurd (show ((bI none).count x:Int)≤J by simp[bI]) h1
   | some T=>exact Hf h hS hm hTab hN J x (by simp only[bI]at h1;omega)
def obl:Option TT→List Nat
 | none=>[]
 | some T=>T.bl
def osz:Option TT→Nat
 | none=>0
 | some T=>T.st.size
def ost:Option TT→Option ST
 | none=>none
 | some T=>some T.st
def OOwn(A:Ar):Option TT→Prop
 | none=>True
 | some T=>Own A T
def aF:Option ST→List Bool
 | none=>[]
 | some t=>t.bits
def aO:Option ST→Nat
 | none=>0
 | some t=>t.high
def oY:Option ST→Prop
 | none=>True
 | some t=>t.Avl∧t.Root
theorem Xz(O:Option TT):bI O=aF (ost O):=by cases O<;>rfl
structure TreeIs (S:Nat→Prop) (w:World) (p:Nat) (o:Option ST) (made:Nat) (vis:Int):Prop where
 ex:∃(C:Nat→Prop) (A:Ar) (xs:List Nd) (O:Option TT),Head w p C A xs (iH O) vis∧OSub w xs O∧OOwn A O∧xs.length=A.T.length∧A.live=osz O∧A.M=268435456∧ost O=o∧made=A.T.length∧(∀k,S k↔C k∨k∈obl O)
 good:oY o
 len:(aF o).length≤2147483648
structure TreeStep (S:Nat→Prop) (w w':World) (p:Nat) (o':Option ST) (made':Nat) (vis':Int):Prop where
 ex:∃S',TreeIs S' w' p o' made' vis'∧∀k,S' k→S k∨w.heap.size≤k
 chg:Chg S w w'
section
variable {S:Nat→Prop}{w w':World}{p made:Nat}{o:Option ST}{vis:Int}
theorem TreeIs.lt (h:TreeIs S w p o made vis):∀k,S k→k<w.heap.size:=by
 obtain⟨C,A,xs,O,h1,h2,_,_,_,_,_,_,h9⟩:=h.ex;intro k hk;rcases(h9 k).1 hk with hk | hk
 ·exact h1.lt k hk
 ·cases O with
  | none=>simp[obl]at hk
  | some T=>exact(Sub.type h2 hk).lt
theorem TreeIs.chg {S':Nat→Prop}(h:TreeIs S w p o made vis)(hc:Chg S' w w')(hd:∀k,S k→¬S' k):TreeIs S w' p o made vis:=by
 obtain⟨C,A,xs,O,h1,h2,h3,h4,h5,h6,h7,h8,h9⟩:=h.ex;refine⟨⟨C,A,xs,O,h1.chg hc (fun k hk=>hd k ((h9 k).2 (Ei hk))),?_,h3,h4,h5,h6,h7,h8,h9⟩,h.good,h.len⟩;cases O with
 | none=>trivial
 | some T=>exact Sub.same h2 hc (fun q hq=>hd q ((h9 q).2 (Ej hq)))
theorem TreeIs.below (h:TreeIs S w p o made vis)(hb:Below w.heap.size w w'):TreeIs S w' p o made vis:=h.chg (S':=fun _=>False) (Chg.of_below hb) (fun _ _ h=>h)
theorem iA{t:ST}(hr:t.Root)(hl:t.bits.length≤2147483648):t.size≤134217729∧t.high<134217730:=by
 have h1:=hr.len;have h2:=t.size_leaves;have h3:=t.high_size;have h4:=t.leaves_pos;omega
end
theorem Gz{w:World}{p:Nat}{C:Nat→Prop}{A:Ar}{xs:List Nd}{vis:Int}(h:Head w p C A xs (-1) vis)(hlen:xs.length=A.T.length)(hlive:A.live<A.M)(b:Bool):
  Calls Tryz.prog 216 #[.pointer (some ⟨p,0,none⟩), .int .i64 0, .bool b] w fun e w'=>e= .returned (.int .i64 0)∧∃(k q:Nat) (C':Nat→Prop) (A':Ar) (xs':List Nd),Head w' p C' A' xs' k 1∧Sub w' xs' (.leaf k q [b])∧xs'.length=A'.T.length∧
   A'.T[k]? =some true∧A'.live=A.live+1∧A'.M=A.M∧w.heap.size≤q∧HStep w w' C C':=by
 have f3:=h.cells.2.2.2 3;have f2:=h.cells.2.2.2 2;have c3:=h.cells.2.2.1;have c2:=h.cells.2.1;have hp:=h.lt p h.self;have HL:=θ (Cg h);have H0:Hid (∀n o,Head (((w.drewN n).setCell ⟨p,3,none⟩ (.int .i64 0)).alloc o) p C A xs (-1) 0):=fun n o=>((h.drewN n).set3 0).below (aN _ _);have HC:Hid (∀n o,Chg C w (((w.drewN n).setCell ⟨p,3,none⟩ (.int .i64 0)).alloc o)):=fun n o=>((Chg.refl.drewN n).setCell _ (Ei h.self) _).alloc o;have HRV:Hid (∀n,ReadsV (((w.drewN n).setCell ⟨p,3,none⟩ (.int .i64 0)).alloc (.cells #[.bool b] 4)) (some ⟨w.heap.size,0,none⟩) ([b].map Value.bool)):=fun n=>by
  have e:((w.drewN n).setCell ⟨p,3,none⟩ (.int .i64 0)).heap.size=w.heap.size:=by simp[World.setCell]
  have h1:=aH5 ((w.drewN n).setCell ⟨p,3,none⟩ (.int .i64 0)) (.cells #[.bool b] 4);rw[e]at h1;exact sF h1
 have HLN:=θ hlen;have HLV:=θ hlive;clear h hlen hlive;go_enter Tryz.func216,Tryz.ntmps216;go_wp2_with fail;refine HL.o.mono ?_;rintro e w' ⟨rfl,m,rfl⟩;go_wp2_with fail;refine(pM _ _ 1 [b] (HRV.o m) Es).mono ?_;rintro e w3 ⟨rfl,hq3,hb3⟩;have h3:=(H0.o m (.cells #[.bool b] 4)).below hb3;have g3:=(HC.o m (.cells #[.bool b] 4)).trans (Chg.of_below (S:=C) hb3) (fun j hj=>Ei hj);generalize hq:(((w.drewN m).setCell ⟨p,3,none⟩ (.int .i64 0)).alloc (.cells #[.bool b] 4)).heap.size=q at *;have hqw:w.heap.size≤q:=by rw[←hq];simp[World.setCell]
 have HLF:=θ (oX h3 HLN.o HLV.o hq3);have H3:=θ h3;have G3:=θ g3;have HQ3:=θ hq3;have HQ:=θ hq;have HQW:=θ hqw;clear h3 g3 hq3 hq hqw hb3 H0 HC HRV;go_wp2_with fail;first
 | (refine HLF.o.mono ?_)
 | (rw[HQ.o];refine HLF.o.mono ?_)
 rintro e w4 hP;obtain⟨k2,C4,A4,xs4,rfl,h4,s4,l4,x4,n4,kp4,t4,lv4,m4,_⟩:=hP.ex;obtain⟨_,d2,d3,fz4⟩:=h4.cells;have z2:=fz4 2;have z3:=fz4 3;have H4:=θ h4;have S4:=θ s4;have HQ4:=θ (HQ3.o.chg s4.chg (H3.o.notBlk HQ3.o.type));have HR:Hid (xs4.length=A4.T.length∧xs4[k2]? =some (TT.leaf 0 q [b]).nd∧A4.T[k2]? =some true∧A4.live=A.live+1∧A4.M=A.M):=⟨l4,x4,t4,lv4,m4⟩;clear hP h4 s4 l4 x4 n4 kp4 t4 lv4 m4 fz4;go_wp2_with fail;go_ret;obtain⟨l4,x4,t4,lv4,m4⟩:=HR.o;have h5:=(H4.o.set2 k2).set3 1;have c5:Chg C4 w4 ((w4.setCell ⟨p,2,none⟩ (.int .i64 k2)).setCell ⟨p,3,none⟩ (.int .i64 1)):=(Chg.refl.setCell _ (Ei H4.o.self) _).setCell _ (Ei H4.o.self) _;refine⟨rfl,k2,q,C4,A4,xs4,h5,⟨x4,HQ4.o.chg c5 (H4.o.notBlk HQ4.o.type)⟩,l4,t4,lv4,m4,HQW.o,HStep.trans ⟨G3.out,fun j hj=>Ei hj⟩ (S4.out.trans ⟨c5,fun j hj=>Ei hj⟩)⟩
theorem Ha{w:World}{p:Nat}{C:Nat→Prop}{A:Ar}{xs:List Nd}{vis:Int}{T:TT}(h:Head w p C A xs T.num vis)(hS:Sub w xs T)(hlen:xs.length=A.T.length)(hO:Own A T)(hlive:A.live+2≤A.M)(hb1:T.st.bits.length≤2147483648)(hh:T.st.high<1000000000)(k:Nat)(hk:k≤T.st.bits.length)(b:Bool):
  Calls Tryz.prog 216 #[.pointer (some ⟨p,0,none⟩), .int .i64 k, .bool b] w fun e w'=>e= .returned (.int .i64 0)∧∃T' C' A' xs' v',SubPost w w' p C A xs T'.num 0 T T' C' A' xs' v'∧T'.st=cT T.st k b:=by
 have f3:=h.cells.2.2.2 3;have f2:=h.cells.2.2.2 2;have c3:=h.cells.2.2.1;have c2:=h.cells.2.1;have hkn:=(ar5.1 hS.root).1;have HL:=θ (lM h hS);have H0:Hid (∀n,Head ((w.drewN n).setCell ⟨p,3,none⟩ (.int .i64 0)) p C A xs T.num 0):=fun n=>((h.drewN n).set3 0);have HC:Hid (∀n,Chg C w ((w.drewN n).setCell ⟨p,3,none⟩ (.int .i64 0))):=fun n=>((Chg.refl.drewN n).setCell _ (Ei h.self) _);have HS:Hid (∀w',Chg C w w'→Sub w' xs T):=fun w' hc=>hS.chgC h hc (fun _ _=>rfl);have HI:Hid (∀n,Calls Tryz.prog 237 #[.pointer (some ⟨p,0,none⟩), .int .i64 T.num, .int .i64 k, .bool b] ((w.drewN n).setCell ⟨p,3,none⟩ (.int .i64 0)) fun e w'=>sZ ((w.drewN n).setCell ⟨p,3,none⟩ (.int .i64 0)) w' p C A xs T.num 0 T k b e):=
  fun n=>ab2 T _ p C A xs T.num 0 k b (H0.o n) hlen E E (HS.o _ (HC.o n)) hO hlive hk E E
 have hp:=h.lt p h.self;have d1:decide (T.st.bits.length<k)=false:=aG9 E;have dr:((T.num:Int)== -1)=false:=by rw[aG5];omega
 clear h hS hO hlive;obtain⟨nt,hnt⟩:∃n,T.num=n:=⟨_,rfl⟩;obtain⟨n,hn⟩:∃n,T.st.bits.length=n:=⟨_,rfl⟩;rw[hnt]at c2 dr H0 HI;rw[hn]at d1 HL hb1 hk;have HNT:=θ hnt;clear hn hnt;go_enter Tryz.func216,Tryz.ntmps216;go_wp2_with fail;refine HL.o.mono ?_;rintro e w' ⟨rfl,m,rfl⟩;go_wp2_with fail;refine(HI.o m).mono ?_;rintro e w3 ⟨T',C3,A3,xs3,v3,rfl,hP,hst⟩;have h3:=hP.head;obtain⟨_,d2,d3,fz3⟩:=h3.cells;have z2:=fz3 2;have H3:=θ h3;have HP:=θ hP;have HST:=θ hst;clear hP h3 hst fz3;go_wp2_with fail;go_ret;have h4:=H3.o.set2 T'.num;have c4:Chg C3 w3 (w3.setCell ⟨p,2,none⟩ (.int .i64 T'.num)):=Chg.refl.setCell _ (Ei H3.o.self) _;refine⟨rfl,T',C3,A3,xs3,v3,SubPost.of h4 (HP.o.sub.chgC H3.o c4 (fun _ _=>rfl)) (SubPre.first (HC.o m) (HP.o.pre.next c4 (fun _ _=>rfl) rfl (ao5 _) rfl rfl)) HP.o.vis,HST.o⟩
def lO(o:Option ST)(k:Nat)(b:Bool):Option ST:=some (match o with | none=> .leaf [b] | some t=>cT t k b)
theorem rW{o:Option ST}{k:Nat}{b:Bool}(hk:k≤(aF o).length):aF (lO o k b)=inL (aF o) k b:=by
 cases o with
 | none=>
  obtain rfl:k=0:=by simpa[aF]using hk
  rfl
 | some t=>exact rX hk
theorem Qv{o:Option ST}{k:Nat}{b:Bool}(hg:oY o)(hk:k≤(aF o).length):oY (lO o k b):=by
 cases o with
 | none=>exact⟨trivial,by simp[ST.Root]⟩
 | some t=>exact⟨(Eo hg.1 k b).1,Qy hg.2 b hk⟩
theorem Qx{o:Option ST}{k:Nat}{b:Bool}(hg:oY o):aO o≤aO (lO o k b)∧aO (lO o k b)≤aO o+1:=by
 cases o with
 | none=>simp[aO,lO,ST.high]
 | some t=>exact(Eo hg.1 k b).2
theorem Ox{S:Nat→Prop}{w:World}{p made:Nat}{o:Option ST}{vis:Int}(h:TreeIs S w p o made vis)(hl:(aF o).length<2147483648)(k:Nat)(hk:k≤(aF o).length)(b:Bool):
  Calls Tryz.prog 216 #[.pointer (some ⟨p,0,none⟩), .int .i64 k, .bool b] w fun e w'=>e= .returned (.int .i64 0)∧∃made' v',TreeStep S w w' p (lO o k b) made' v'∧0≤v'∧v'≤7*aO o+2:=by
 have hgood:=Qv (b:=b) h.good hk;have hbits:=rW (b:=b) hk;have hlen':(aF (lO o k b)).length≤2147483648:=by rw[hbits,fZ hk];omega
 have hlt:=h.lt;obtain⟨C,A,xs,O,h1,h2,h3,h4,h5,h6,h7,h8,h9⟩:=h.ex;have hCS:∀j,C j→S j:=fun j hj=>(h9 j).2 (Ei hj);cases O with
 | none=>
  obtain rfl:o=none:=h7.symm;obtain rfl:k=0:=by simpa[aF]using hk
  refine(Gz h1 h4 (by rw[h5,h6];simp[osz]) b).mono ?_;rintro e w' ⟨rfl,kn,q,C',A',xs',g1,g2,g3,g4,g5,g6,g7,g8⟩;refine⟨rfl,A'.T.length,1,⟨⟨fun j=>C' j∨j∈obl (some (.leaf kn q [b])),⟨⟨C',A',xs',some (.leaf kn q [b]),g1,g2,⟨by simp[TT.nums],by simp[TT.bl],fun j hj=>by simp[TT.nums]at hj;subst hj;exact g4⟩,g3,by rw[g5,h5];rfl,by rw[g6,h6],rfl,rfl,fun j=>Iff.rfl⟩,hgood,hlen'⟩,fun j hj=>?_⟩,g8.chg.mono hCS⟩,E,by simp[aO]⟩;rcases hj with hj | hj
  ·exact(g8.new j hj).imp (hCS j) id
  ·simp[obl,TT.bl]at hj;subst hj;exact Ej g7
 | some T=>
  obtain rfl:o=some T.st:=h7.symm;have hsm:=iA h.good.2 h.len;refine(Ha h1 h2 h4 h3 (by rw[h5,h6];show T.st.size+2≤_;omega) h.len E k hk b).mono ?_;rintro e w' ⟨rfl,T',C',A',xs',v',hP,hst⟩;have hv:=hP.vis;refine⟨rfl,A'.T.length,v',⟨⟨fun j=>C' j∨j∈obl (some T'),⟨⟨C',A',xs',some T',hP.head,hP.sub,hP.own,hP.len,?_,by rw[hP.max,h6],?_,rfl,fun j=>Iff.rfl⟩,hgood,hlen'⟩,fun j hj=>?_⟩,hP.chg.mono (fun j hj=>(h9 j).2 hj)⟩,E,by simp only[aO];omega⟩
  ·have :=hP.live;have h5':A.live=T.st.size:=h5;show A'.live=T'.st.size;omega
  ·show some T'.st=_;rw[hst];rfl
  ·rcases hj with hj | hj
   ·exact(hP.newC j hj).imp (hCS j) id
   ·exact(hP.newB j hj).imp (fun h=>(h9 j).2 (Ej h)) id
end
def lS(L:List Bool)(m f t:Nat):List Bool:=(L.take (L.length*t/m)).drop (L.length*f/m)
theorem Gf{n m f t:Nat}(h:f≤t):n*f/m≤n*t/m:=Nat.div_le_div_right (Nat.mul_le_mul_left n h)
theorem tL{n m t:Nat}(h:t≤m)(hm:0<m):n*t/m≤n:=
 Nat.div_le_of_le_mul (by rw[Nat.mul_comm m n];exact Nat.mul_le_mul_left n h)
theorem xF{L:List Bool}{m f t:Nat}(h1:f≤t)(h2:t≤m)(hm:0<m):(lS L m f t).length=L.length*t/m-L.length*f/m:=by
 have :=tL (n:=L.length) h2 hm;simp only[lS,as8,at5];omega
theorem Zp{L:List Bool}{m f k t:Nat}(h1:f≤k)(h2:k≤t)(h3:t≤m)(hm:0<m):lS L m f k++lS L m k t=lS L m f t:=by
 have a1:=Gf (n:=L.length) (m:=m) h1;have a2:=Gf (n:=L.length) (m:=m) h2;have a3:=tL (n:=L.length) h3 hm;unfold lS;generalize L.length*f/m=x at *;generalize L.length*k/m=y at *;generalize L.length*t/m=z at *;have e1:L.take z=L.take y++(L.take z).drop y:=by
  have :=(az0 y (L.take z)).symm;rwa[az5,aB2 a2]at this
 conv=>rhs;rw[e1]
 rw[aq1 (by rw[at5];omega)]
theorem Zo{L:List Bool}{m:Nat}(hm:0<m):lS L m 0 m=L:=by
 simp only[lS,Nat.mul_zero,Nat.zero_div,List.drop_zero,Nat.mul_div_cancel _ hm,az2]
theorem Iy{n m f:Nat}(hn:n≤128*m)(hm:0<m):n*(f+1)/m≤n*f/m+128:=by
 have h:n*(f+1)≤n*f+128*m:=by rw[Nat.mul_add,aB6];omega
 calc n*(f+1)/m≤(n*f+128*m)/m:=Nat.div_le_div_right h
  _=n*f/m+128:=Nat.add_mul_div_right _ _ hm
theorem Ix{n m f:Nat}(hn:64*m≤n)(hm:0<m):n*f/m+64≤n*(f+1)/m:=by
 have h:n*f+64*m≤n*(f+1):=by rw[Nat.mul_add,aB6];omega
 calc n*f/m+64=(n*f+64*m)/m:=(Nat.add_mul_div_right _ _ hm).symm
  _≤n*(f+1)/m:=Nat.div_le_div_right h
structure Bld (L:List Bool) (m f t:Nat) (T:ST):Prop where
 bits:T.bits=lS L m f t
 avl:T.Avl
 leaves:T.leaves=t-f
 up:t-f≤2^T.high
 low:(T.high=0∧t-f=1)∨(∃h,T.high=h+1∧2^h<t-f)
 le:T.Le
 fill:2≤m→T.Fill
theorem Vs{L:List Bool}{m f t:Nat}(hm:m=(L.length+127)/128)(h:t-f=1)(ht:t≤m):Bld L m f t (.leaf (lS L m f t)):=by
 have e:t=f+1:=E;subst e;have hp:0<m:=E;have hl:=xF (L:=L) (m:=m) (f:=f) (t:=f+1) E ht hp;have h1:=Iy (n:=L.length) (m:=m) (f:=f) E hp;refine⟨rfl,trivial,by simp[ST.leaves],by simp[ST.high],Ei ⟨rfl,h⟩,?_,?_⟩
 ·change _≤128;rw[hl];omega
 ·intro h2;have h3:=Ix (n:=L.length) (m:=m) (f:=f) E hp;change 32≤_∧_≤128;rw[hl];omega
theorem Vt{L:List Bool}{m f t:Nat}{a b:ST}(hp:0<m)(h:2≤t-f)(ht:t≤m)(ha:Bld L m f ((f+t)/2) a)(hb:Bld L m ((f+t)/2) t b):Bld L m f t (.pair a b):=by
 obtain⟨k,hk⟩:∃k,k=(f+t)/2:=⟨_,rfl⟩;rw[←hk]at ha hb;have hka:k-f=(t-f)/2:=E;have hkb:t-k=(t-f+1)/2:=E;have k1:f≤k:=E;have k2:k≤t:=E;have k3:k-f+(t-k)=t-f:=E;obtain⟨d,hd⟩:∃d,d=t-f:=⟨_,rfl⟩;rw[←hd]at hka hkb h;have ua:=ha.up;have ub:=hb.up;have la:=ha.low;have lb:=hb.low;rw[hka]at ua la;rw[hkb]at ub lb;have low_lt:∀{x h:Nat},((h=0∧x=1)∨∃g,h=g+1∧2^g<x)→∀g,x≤2^g→h≤g:=by
  rintro x h (⟨rfl,_⟩ | ⟨q,rfl,hq⟩) g hg
  ·omega
  ·have :2^q<2^g:=aA9 hq hg;have :=(Nat.pow_lt_pow_iff_right (a:=2) E).1 this;omega
 have hab:a.high≤b.high:=low_lt la _ E;have hba:b.high≤a.high+1:=low_lt lb _ (by rw[aB9];omega);have hh:(ST.pair a b).high=b.high+1:=by simp only[ST.high];omega
 refine⟨?_,⟨ha.avl,hb.avl,E,hba⟩,?_,?_,Ej ⟨b.high,hh,?_⟩,⟨ha.le,hb.le⟩,fun h2=>⟨ha.fill h2,hb.fill h2⟩⟩
 ·change a.bits++b.bits=_;rw[ha.bits,hb.bits];exact Zp k1 k2 ht hp
 ·change a.leaves+b.leaves=_;rw[ha.leaves,hb.leaves];exact k3
 ·rw[hh,aB9];omega
 ·rcases lb with ⟨h0,h1⟩ | ⟨g,hg,h1⟩
  ·rw[h0];simp;omega
  ·rw[hg,aB9];omega
theorem Vv{L:List Bool}{m:Nat}{T:ST}(hm:m=(L.length+127)/128)(h0:0<m)(h:Bld L m 0 m T):T.bits=L∧T.Avl∧T.Root:=by
 have hb:T.bits=L:=by rw[h.bits,Zo h0]
 refine⟨hb,h.avl,?_⟩;rcases aB0 m 2 with h1 | h1
 ·cases T with
  | leaf l=>
   have hl:=h.le;refine⟨?_,hl⟩;have :l.length=L.length:=aG8 List.length hb;omega
  | pair a b=>
   exfalso;have h2:=h.leaves;have :=a.leaves_pos;have :=b.leaves_pos;simp only[ST.leaves]at h2;omega
 ·exact(h.fill h1).root
section
open Go.RowKit
theorem Ge{P:Program}{w:World}{t e:TypeId}{a:Option Addr}{len cap j k:Nat}(ht:P.underlying t=some (.slice e))(hinfo:(P.info? e).map (fun i=>i.size)=some 1)(hj:j≤k)(hk:k≤cap):
  (Instr.slice t (.slice a len cap) (some (.int .i64 (j:Int))) (some (.int .i64 (k:Int))) none).run P w= .ok (.slice (fB a j cap) (k-j) (cap-j)) w:=by
 obtain⟨i,hi,hs⟩:=aD1.1 hinfo;have hk':(k:Int)≤(cap:Int):=E;have hj':(j:Int)≤(k:Int):=E;simp[Instr.slice,aI7 ht,Instr.sliceBounds,Instr.sliceBound,asIntOf,hk',hj',sizeOf,typeInfo,hi,hs,go_sem,fB,hj,hk]
structure BldStep (w w':World) (p:Nat) (C:Nat→Prop) (A:Ar) (xs:List Nd) (root vis:Int) (T':TT) (C':Nat→Prop) (A':Ar) (xs':List Nd):Prop where
 head:Head w' p C' A' xs' root vis
 sub:Sub w' xs' T'
 own:Own A' T'
 len:xs'.length=A'.T.length
 newC:∀j,C' j→C j∨w.heap.size≤j
 newB:∀q∈T'.bl,w.heap.size≤q
 keep:∀j:Nat,A.T[j]? =some true→xs'[j]? =xs[j]? ∧A'.T[j]? =some true∧j∉T'.nums
 live:A'.live=A.live+T'.st.size
 max:A'.M=A.M
 fr:A.F=[]→A'.F=[]
 chg:Chg C w w'
def mF(w w':World)(p:Nat)(C:Nat→Prop)(A:Ar)(xs:List Nd)(root vis:Int)(L:List Bool)(m f t:Nat)(e:Ending):Prop:=
 ∃T' C' A' xs',e= .returned (.int .i64 T'.num)∧BldStep w w' p C A xs root vis T' C' A' xs'∧Bld L m f t T'.st
theorem Ji{w:World}{p:Nat}{C:Nat→Prop}{A:Ar}{xs:List Nd}{root vis:Int}(h:Head w p C A xs root vis)(hlen:xs.length=A.T.length){a:Option Addr}{c:Nat}{L:List Bool}(hr:ReadsV w a (L.map Value.bool))
  (hc:L.length≤c) (hL:L.length≤2147483648) {m f t:Nat} (hm:m=(L.length+127)/128) (hft:t-f=1) (ht:t≤m) (hlive:A.live<A.M):
  Calls Tryz.prog 226 #[.pointer (some ⟨p,0,none⟩), .slice a L.length c, .int .i64 f, .int .i64 t, .int .i64 m] w fun e w'=>mF w w' p C A xs root vis L m f t e:=by
 have hp0:0<m:=E;have hB:=Vs (L:=L) hm hft ht;have hsl:=xF (L:=L) (m:=m) (f:=f) (t:=t) E ht hp0;have hx2:=Gf (n:=L.length) (m:=m) (f:=f) (t:=t) E;have hx3:=tL (n:=L.length) ht hp0;obtain⟨x,hx⟩:∃x,x=L.length*f/m:=⟨_,rfl⟩;obtain⟨y,hy⟩:∃y,y=L.length*t/m:=⟨_,rfl⟩;obtain⟨sg,hsg⟩:∃sg,sg=lS L m f t:=⟨_,rfl⟩;have hb1:L.length*f≤2147483648*16777217:=aB5 hL E;have hb2:L.length*t≤2147483648*16777217:=aB5 hL E;have hsr:ReadsV w (fB a x c) (sg.map Value.bool):=by
  rw[hsg];unfold lS;rw[←hx,←hy,at9,av6];exact(hr.take y).drop (by rw[at5,at1];omega)
 rw[←hx,←hy]at hx2 hsl;rw[←hy]at hx3;rw[←hsg]at hsl hB;have hsl128:sg.length≤128:=hB.le;have d0:((t:Int)-(f:Int)==1)=true:=by rw[aG6];omega
 have d1:IntKind.i64.wrap ((t:Int)-(f:Int))=(t:Int)-(f:Int):=ao4 _ E;obtain⟨zf,hzf⟩:∃zf,zf=L.length*f:=⟨_,rfl⟩;obtain⟨zt,hzt⟩:∃zt,zt=L.length*t:=⟨_,rfl⟩;have d2:IntKind.i64.wrap ((L.length:Int)*(f:Int))=(zf:Int):=by rw[←Int.natCast_mul,←hzf];exact ao4 _ E
 have d3:IntKind.i64.wrap ((L.length:Int)*(t:Int))=(zt:Int):=by rw[←Int.natCast_mul,←hzt];exact ao4 _ E
 have d4:IntKind.i64.wrap ((zf:Int)/(m:Int))=(x:Int):=by
  rw[←Int.natCast_ediv,hzf,←hx];exact ao4 _ E
 have d5:IntKind.i64.wrap ((zt:Int)/(m:Int))=(y:Int):=by
  rw[←Int.natCast_ediv,hzt,←hy];exact ao4 _ E
 have d6:¬m=0:=E;have hS2:∀(w:World),(Instr.slice 132 (.slice a L.length c) (some (.int .i64 (x:Int))) (some (.int .i64 (y:Int))) none).run Tryz.prog w= .ok (.slice (fB a x c) (y-x) (c-x)) w:=fun w=>
  Ge (e:=4) Ek Ek hx2 E
 have HN:Hid (∀n,Calls Tryz.prog 235 #[.slice (fB a x c) (y-x) (c-x)] (w.drewN n) fun e w'=>e= .returned (.tuple #[.pointer (some ⟨w.heap.size,0,none⟩), .int .i64 0])∧IsBlock w' w.heap.size sg∧Below w.heap.size w w'):=fun n=>by
  have :=pM (w.drewN n) (fB a x c) (c-x) sg hsr hsl128;rw[hsl]at this;refine this.mono ?_;rintro e w' ⟨rfl,h1,h2⟩;exact⟨rfl,h1,⟨h2.os,h2.tape,h2.output,h2.size,h2.block⟩⟩
 have HH:=θ h;have HL:=θ hlen;have HLV:=θ hlive;have HB:=θ hB;clear h hlen hlive hB hr hsr hsl hsl128 hb1 hb2 hx hy hzf hzt hsg hm;generalize L.length=n0 at *;go_enter Tryz.func226,Tryz.ntmps226;go_wp2_with fail;refine aE (fun _=>True) Ek trivial (fun hh=>?_);refine rt 0 hh ?_;refine rt 1 hh ?_;refine rt 2 hh ?_;refine rt 3 hh ?_;refine rt 4 hh ?_;refine rt 5 hh ?_;refine rt 6 hh ?_;refine rt 7 hh ?_;refine rt 8 hh ?_;refine rt 9 hh ?_;refine rt 10 hh ?_;refine rt 11 hh ?_;refine rt 12 hh ?_;refine rt 13 hh ?_;refine rg 14 fun κ hK=>?_;go_simp
 ((refine(HN.o _).mono ?_))
 rintro e w2 ⟨rfl,hq,hb2⟩;refine hK.out _ _ trivial ?_;intro hh;try simp only[pt]
 refine rt 15 hh ?_;refine rt 16 hh ?_;refine rt 17 hh ?_;refine rt 18 hh ?_;refine rt 19 hh ?_;refine rz ?_;clear hh;have HQ:=θ hq;have h2:=HH.o.below hb2;have HC2:=θ (Chg.of_below (S:=C) hb2);have HLF:=θ (oX h2 HL.o HLV.o hq);have HHK:=θ h2;clear hq hb2 h2;go_wp2_with fail;refine HLF.o.mono ?_;rintro e w3 ⟨k,C',A',xs',rfl,h3,s3,l3,hk3,t3,keep3,t3',live3,max3,fr3⟩;have hq3:IsBlock w3 w.heap.size sg:=HQ.o.chg s3.chg (HHK.o.notBlk HQ.o.type);have HP:Hid (mF w w3 p C A xs root vis L m f t (.returned (.int .i64 (k:Int)))):=by
  refine⟨.leaf k w.heap.size sg,C',A',xs',rfl,⟨h3,⟨hk3,hq3⟩,⟨by simp[TT.nums],by simp[TT.bl],fun j hj=>?_⟩,l3,fun j hj=>?_,fun q hq=>?_,fun j hj=>?_,?_,max3,fr3,?_⟩,HB.o⟩
  ·simp[TT.nums]at hj;subst hj;exact t3'
  ·rcases s3.new j hj with h | h
   ·exact Ei h
   ·right;have :=HC2.o.size;omega
  ·simp[TT.bl]at hq;omega
  ·refine⟨(keep3 j hj).1,(keep3 j hj).2,?_⟩;simp only[TT.nums,av9,ay0,aI5];rintro rfl;exact t3 hj
  ·rw[live3];simp[TT.st,ST.size]
  ·exact HC2.o.trans s3.chg (fun j hj=>Ei hj)
 clear h3 s3 l3 hk3 t3 keep3 t3' live3 max3 fr3 hq3 HB HLF HHK HC2 HQ;go_wp2_with fail;go_ret;exact HP.o
section
variable {w w2 w3 w4:World}{p:Nat}{C C2 C3:Nat→Prop}{A A2 A3:Ar}{xs x2 x3:List Nd}{root vis:Int}{Ta Tb:TT}
theorem BldStep.subA (Sa:BldStep w w2 p C A xs root vis Ta C2 A2 x2)(Sb:BldStep w2 w3 p C2 A2 x2 root vis Tb C3 A3 x3):Sub w3 x3 Ta:=
 Sa.sub.chgC Sa.head Sb.chg (fun j hj=>(Sb.keep j (Sa.own.tk j hj)).1)
theorem BldStep.joined (Sa:BldStep w w2 p C A xs root vis Ta C2 A2 x2)(Sb:BldStep w2 w3 p C2 A2 x2 root vis Tb C3 A3 x3){e:Ending}(hn:NodePost w3 w4 p C3 A3 x3 root vis (TT.pair 0 Ta Tb).nd e)
  {L:List Bool} {m f t:Nat} (hB:Bld L m f t (.pair Ta.st Tb.st)):mF w w4 p C A xs root vis L m f t e:=by
 obtain⟨k,C',A',xs',rfl,h4,s4,l4,hk4,t4,oN,t4',live4,max4,fr4⟩:=hn.ex;have s1:=Sa.chg.size;have s2:=Sb.chg.size;have kA:∀j∈Ta.nums,A3.T[j]? =some true:=fun j hj=>(Sb.keep j (Sa.own.tk j hj)).2.1;have kB:∀j∈Tb.nums,A3.T[j]? =some true:=Sb.own.tk;have dAB:∀j∈Ta.nums,j∉Tb.nums:=fun j hj=>(Sb.keep j (Sa.own.tk j hj)).2.2;have subA:=(Sa.subA Sb).chgC Sb.head s4.chg (fun j hj=>(oN j (kA j hj)).1);have subB:=Sb.sub.chgC Sb.head s4.chg (fun j hj=>(oN j (kB j hj)).1);refine⟨.pair k Ta Tb,C',A',xs',rfl,⟨h4,⟨hk4,subA,subB⟩,⟨?_,?_,?_⟩,l4,?_,?_,?_,?_,?_,fun h=>fr4 (Sb.fr (Sa.fr h)),?_⟩,hB⟩
 ·simp only[TT.nums,ax7,av8,aI3,ax6];exact⟨⟨fun h=>t4 (kA k h),fun h=>t4 (kB k h)⟩,Sa.own.nn,Sb.own.nn,fun j hj i hi e=>dAB j hj (e▸hi)⟩
 ·simp only[TT.bl,ax6];refine⟨Sa.own.bn,Sb.own.bn,fun j hj i hi e=>?_⟩;have h1:=(Sa.sub.type hj).lt;have h2:=Sb.newB i hi;omega
 ·intro j hj;simp only[TT.nums,av9,av8]at hj;rcases hj with rfl | hj | hj
  ·exact t4'
  ·exact(oN j (kA j hj)).2
  ·exact(oN j (kB j hj)).2
 ·intro j hj;rcases s4.new j hj with h | h
  ·rcases Sb.newC j h with h | h
   ·exact Sa.newC j h
   ·right;omega
  ·right;omega
 ·intro q hq;simp only[TT.bl,av8]at hq;rcases hq with hq | hq
  ·exact Sa.newB q hq
  ·have :=Sb.newB q hq;omega
 ·intro j hj;have k1:=Sa.keep j hj;have k2:=Sb.keep j k1.2.1;have k3:=oN j k2.2.1;refine⟨k3.1.trans (k2.1.trans k1.1),k3.2,?_⟩;simp only[TT.nums,av9,av8];rintro(rfl | hj | hj)
  ·exact t4 k2.2.1
  ·exact k1.2.2 hj
  ·exact k2.2.2 hj
 ·have :=Sa.live;have :=Sb.live;simp only[TT.st,ST.size];omega
 ·rw[max4,Sb.max,Sa.max]
 ·refine(Sa.chg.trans Sb.chg (fun j hj=>Sa.newC j hj)).trans s4.chg (fun j hj=>?_);rcases Sb.newC j hj with h | h
  ·exact Sa.newC j h
  ·right;omega
end
theorem Oo{p:Nat}{root vis:Int}{a:Option Addr}{c:Nat}{L:List Bool}{m:Nat}(hc:L.length≤c)(hL:L.length≤2147483648)(hm:m=(L.length+127)/128)(n:Nat):
  ∀(w:World) (C:Nat→Prop) (A:Ar) (xs:List Nd) (f t:Nat),Head w p C A xs root vis→xs.length=A.T.length→ReadsV w a (L.map Value.bool)→(∀ad,a=some ad→¬C ad.block∧ad.block<w.heap.size)→
   t-f=n→1≤n→t≤m→A.live+2*n≤A.M+1→
   Calls Tryz.prog 226 #[.pointer (some ⟨p,0,none⟩), .slice a L.length c, .int .i64 f, .int .i64 t, .int .i64 m] w fun e w'=>mF w w' p C A xs root vis L m f t e:=by
 induction n using Nat.strongRecOn with
 | ind n ih=>
  intro w C A xs f t h hlen hr had hn hn1 ht hlive;by_cases h1:n=1
  ·exact Ji h hlen hr hc hL hm E ht E
  ·obtain⟨k,hk⟩:∃k,k=(f+t)/2:=⟨_,rfl⟩;have hp0:0<m:=E;have IHA:=θ (ih (k-f) E w C A xs f k h hlen hr had rfl E E E);have HIB:Hid (∀w2 Ta C2 A2 x2,BldStep w w2 p C A xs root vis Ta C2 A2 x2→Bld L m f k Ta.st→Calls Tryz.prog 226 #[.pointer (some ⟨p,0,none⟩), .slice a L.length c, .int .i64 k, .int .i64 t, .int .i64 m] w2 fun e w'=>mF w2 w' p C2 A2 x2 root vis L m k t e):=by
    intro w2 Ta C2 A2 x2 Sa Ba;have hs:=Sa.chg.size;refine ih (t-k) E w2 C2 A2 x2 k t Sa.head Sa.len (hr.chg Sa.chg (fun ad h=>(had ad h).1)) (fun ad h=>⟨fun hc2=>?_,?_⟩) rfl E ht ?_
    ·rcases Sa.newC _ hc2 with h2 | h2
     ·exact(had ad h).1 h2
     ·have :=(had ad h).2;omega
    ·have :=(had ad h).2;omega
    ·have e1:=Ba.leaves;have e2:=Ta.st.size_leaves;have e3:=Sa.live;have e4:=Sa.max;omega
   have small:∀{f' t':Nat} {T:ST},Bld L m f' t' T→f'≤t'→t'≤m→Small T:=by
    intro f' t' T hB h1 h2;have e0:=xF (L:=L) h1 h2 hp0;have e1:=tL (n:=L.length) h2 hp0;have e2:=T.high_size;have e3:=T.size_leaves;have e4:=hB.leaves;refine⟨?_,E⟩;rw[hB.bits,e0];exact aA6 (Nat.sub_le _ _) (aA6 e1 E)
   have HP:Hid (∀w2 Ta C2 A2 x2 w3 Tb C3 A3 x3,BldStep w w2 p C A xs root vis Ta C2 A2 x2→Bld L m f k Ta.st→BldStep w2 w3 p C2 A2 x2 root vis Tb C3 A3 x3→Bld L m k t Tb.st→
     Calls Tryz.prog 241 #[.pointer (some ⟨p,0,none⟩), .int .i64 Ta.num, .int .i64 Tb.num] w3 fun e w'=>mF w w' p C A xs root vis L m f t e):=by
    intro w2 Ta C2 A2 x2 w3 Tb C3 A3 x3 Sa Ba Sb Bb;have e1:=Ba.leaves;have e2:=Ta.st.size_leaves;have e3:=Sa.live;have e4:=Sa.max;have g1:=Bb.leaves;have g2:=Tb.st.size_leaves;have g3:=Sb.live;have g4:=Sb.max;refine(sT Sb.head Sb.len E (Sa.subA Sb) Sb.sub (fun j hj=>(Sb.keep j (Sa.own.tk j hj)).2.1) Sb.own.tk (small Ba E E) (small Bb E E)).mono ?_;intro e w' hN;exact Sa.joined Sb hN (Vt hp0 E ht (hk▸Ba) (hk▸Bb))
   have hbt:t≤16777217:=E;have hft:f≤t:=E;have d0:((t:Int)-(f:Int)==1)=false:=by rw[aG5];omega
   have d1:IntKind.i64.wrap ((t:Int)-(f:Int))=(t:Int)-(f:Int):=ao4 _ E;obtain⟨ft,hfteq⟩:∃ft,ft=f+t:=⟨_,rfl⟩;have hw0:(f:Int)+(t:Int)=(ft:Int):=E;have hw1:IntKind.i64.wrap (ft:Int)=(ft:Int):=ao4 _ E;have hw3:(ft:Int)/2=(k:Int):=E;have hw4:IntKind.i64.wrap (k:Int)=(k:Int):=ao4 _ E;have hw5:IntKind.i64.wrap ((ft:Int).tdiv 2)=(k:Int):=by rw[ao0 E,hw3,hw4]
   have hw6:IntKind.i64.wrap ((ft:Int)/2)=(k:Int):=by rw[hw3,hw4]
   clear h hlen hr had hlive ih small hm hL hc hk hfteq;generalize L.length=n0 at *;go_enter Tryz.func226,Tryz.ntmps226;go_wp2_with fail;refine IHA.out.mono ?_;rintro e w2 ⟨Ta,C2,A2,x2,rfl,Sa,Ba⟩;have HSa:=θ Sa;have HBa:=θ Ba;have IHB:=θ (HIB.o w2 Ta C2 A2 x2 Sa Ba);clear Sa Ba HIB IHA;go_wp2_with fail;refine IHB.out.mono ?_;rintro e w3 ⟨Tb,C3,A3,x3,rfl,Sb,Bb⟩;have HPP:=θ (HP.o w2 Ta C2 A2 x2 w3 Tb C3 A3 x3 HSa.o HBa.o Sb Bb);clear Sb Bb HP IHB HSa HBa;go_wp2_with fail;refine HPP.o.mono ?_;rintro e w4 hh;have HF:=θ hh;obtain⟨T',C',A',xs',rfl,_,_⟩:=hh;go_wp2_with fail;go_ret;exact HF.o
def boxT(ap:Nat):Obj:= .cells #[.pointer (some ⟨ap,0,none⟩), .slice none 0 0, .int .i64 (-1), .int .i64 0] 218
theorem Eg{w w1:World}(hA:IsArena w1 w.heap.size (fun k=>k=w.heap.size) (Ar.new 268435456))(hc:Chg (fun _=>False) w w1):
  Head (w1.alloc (boxT w.heap.size)) w1.heap.size (fun k=>k=w1.heap.size∨k=w.heap.size) (Ar.new 268435456) [] (-1) 0:=by
 refine⟨w.heap.size,fun k=>k=w.heap.size,none,0,?_,hA.chg (Chg.refl.alloc (S:=fun _=>False) (boxT w.heap.size)) (fun _ _ h=>h),aG2 _ _ _ _,fun k=>?_⟩
 ·change (w1.heap.push (boxT w.heap.size))[w1.heap.size]? =_;rw[Array.getElem?_push_size];rfl
 ·simp
theorem ab4(w:World)(a:Option Addr)(c:Nat):Calls Tryz.prog 195 #[.slice a 0 c] w fun e w'=>∃p q,e= .returned (.pointer (some ⟨p,0,none⟩))∧w.heap.size≤p∧w.heap.size≤q∧Head w' p (fun k=>k=p∨k=q) (Ar.new 268435456) [] (-1) 0∧Chg (fun _=>False) w w':=by
 have HA:Hid (Calls Tryz.prog 90 #[.int .i64 268435456] w fun e w'=>e= .returned (.pointer (some ⟨w.heap.size,0,none⟩))∧IsArena w' w.heap.size (fun k=>k=w.heap.size) (Ar.new 268435456)∧Chg (fun _=>False) w w'):=qK 268435456 w E;go_enter Tryz.func195,Tryz.ntmps195;go_wp2_with fail;refine HA.o.mono ?_;rintro e w1 ⟨rfl,hA,hc⟩;have HP:=θ (Eg hA hc);have HC:=θ hc;have hs:=θ hc.size;clear hA hc;go_wp2_with fail;go_ret;exact⟨w1.heap.size,w.heap.size,rfl,hs.out,aA5 _,HP.o,HC.o.alloc _⟩
theorem Uv(w:World){a:Option Addr}{c:Nat}{L:List Bool}(hr:ReadsV w a (L.map Value.bool))(hc:L.length≤c)(hL:L.length≤2147483648)(h0:0<L.length)(had:∀ad,a=some ad→ad.block<w.heap.size):
  Calls Tryz.prog 195 #[.slice a L.length c] w fun e w'=>∃p st S,e= .returned (.pointer (some ⟨p,0,none⟩))∧TreeIs S w' p (some st) st.size 0∧(∀k,S k→w.heap.size≤k)∧st.bits=L∧Chg (fun _=>False) w w':=by
 have HA:Hid (Calls Tryz.prog 90 #[.int .i64 268435456] w fun e w'=>e= .returned (.pointer (some ⟨w.heap.size,0,none⟩))∧IsArena w' w.heap.size (fun k=>k=w.heap.size) (Ar.new 268435456)∧Chg (fun _=>False) w w'):=qK 268435456 w E;obtain⟨m,hm⟩:∃m,m=(L.length+127)/128:=⟨_,rfl⟩;have hm1:0<m:=E;obtain⟨z,hz⟩:∃z,z=L.length+127:=⟨_,rfl⟩;have q1:(L.length:Int)+128-1=(z:Int):=E;have q3:(z:Int)/128=(m:Int):=E;have q4:IntKind.i64.wrap (m:Int)=(m:Int):=ao4 _ E;have q5:IntKind.i64.wrap ((z:Int)/128)=(m:Int):=by rw[q3,q4]
 have q6:decide ((0:Int)<(m:Int))=true:=by simp;omega
 have HR:=θ hr;have HAD:=θ had;have HT:Hid (∀w1,IsArena w1 w.heap.size (fun k=>k=w.heap.size) (Ar.new 268435456)→Chg (fun _=>False) w w1→Calls Tryz.prog 226 #[.pointer (some ⟨w1.heap.size,0,none⟩), .slice a L.length c, .int .i64 0, .int .i64 m, .int .i64 m] (w1.alloc (boxT w.heap.size)) fun e w'=>
   ∃(T':TT) (w0:World),e= .returned (.int .i64 T'.num)∧w'=w0∧w0.cell? ⟨w1.heap.size,2,none⟩=some (.int .i64 (-1))∧w0.frozen? ⟨w1.heap.size,2,none⟩=false∧Hid (∃st S,TreeIs S (w0.setCell ⟨w1.heap.size,2,none⟩ (.int .i64 T'.num)) w1.heap.size (some st) st.size 0∧(∀k,S k→w.heap.size≤k)∧st.bits=L∧Chg (fun _=>False) w (w0.setCell ⟨w1.heap.size,2,none⟩ (.int .i64 T'.num)))):=by
  intro w1 hA hc1;have hH:=Eg hA hc1;have hs1:=hc1.size;have g1:Chg (fun _=>False) w (w1.alloc (boxT w.heap.size)):=hc1.alloc _;have hs2:=g1.size;refine(Oo hc hL hm m _ _ _ _ 0 m hH rfl (hr.chg g1 (fun _ _ h=>h)) (fun ad h=>⟨?_,?_⟩) E hm1 (aA5 _) (by simp[Ar.new,Ar.live];omega)).mono ?_
  ·have :=had ad h;rintro(e | e)<;>omega
  ·have :=had ad h;omega
  rintro e w' ⟨T',C',A',xs',rfl,S,B⟩;obtain⟨b1,b2,b3⟩:=Vv hm hm1 B;have hC':∀j,C' j→w.heap.size≤j:=fun j hj=>by
   rcases S.newC j hj with (h | h) | h<;>omega
  obtain⟨_,y2,_,yf⟩:=S.head.cells;refine⟨T',w',rfl,rfl,y2,yf 2,T'.st,fun k=>C' k∨k∈T'.bl,⟨⟨C',A',xs',some T',S.head.set2 _,?_,S.own,S.len,?_,?_,rfl,?_,fun k=>Iff.rfl⟩,⟨b2,b3⟩,?_⟩,?_,b1,?_⟩
  ·exact S.sub.chgC S.head (S.head.chg3 _ 2) (fun _ _=>rfl)
  ·have :=S.live;simp[Ar.new,Ar.live]at this;simpa[osz,Ar.live]using this
  ·exact S.max
  ·have h1:=S.live;have h2:=S.fr rfl;simp[Ar.new,Ar.live,h2]at h1;exact h1.symm
  ·change T'.st.bits.length≤_;rw[b1];exact hL
  ·rintro k (hk | hk)
   ·exact hC' k hk
   ·have :=S.newB k hk;omega
  ·exact((g1.trans S.chg (fun j hj=>Ej (by rcases hj with h | h<;>omega))).trans (S.head.chg3 _ 2) (fun j hj=>Ej (hC' j hj)))
 have q7:IntKind.i64.wrap ((L.length:Int)+128)=(L.length:Int)+128:=ao4 _ E;have q8:IntKind.i64.wrap (z:Int)=(z:Int):=ao4 _ E;have q9:(L.length:Int)+127=(z:Int):=E;clear hr had hz hm hc;generalize L.length=n0 at *;go_enter Tryz.func195,Tryz.ntmps195;go_wp2_with fail;refine HA.o.mono ?_;rintro e w1 ⟨rfl,hA,hc⟩;have HB:=θ (HT.o w1 hA hc);have hs:=θ hc.size;clear hA hc HT HA;go_wp2_with fail;refine HB.o.mono ?_;rintro e w2 ⟨T',w0,rfl,rfl,y2,yf,HP⟩;go_wp2_with fail;go_ret;obtain⟨st,S,h1,h2,h3,h4⟩:=HP.o;exact⟨w1.heap.size,st,S,rfl,h1,h2,h3,h4⟩
theorem cG{w:World}{p:Nat}{C:Nat→Prop}{A:Ar}{xs:List Nd}{root vis:Int}{T:TT}(h:Head w p C A xs root vis)(hS:Sub w xs T):
  Calls Tryz.prog 257 #[.pointer (some ⟨p,0,none⟩), .int .i64 T.num] w fun e w'=>e= .returned (.bool T.st.few)∧w=w':=by
 have hr:=hS.root;obtain⟨g,rc,cur,c1,_⟩:=h.row (by have :=(ar5.1 hr).1;omega);obtain⟨_,_,hk,_⟩:=h.node c1 hr;obtain⟨_,_,_,a3,_,_,_,a7⟩:=h.eight c1 hr;cases T with
 | leaf kn q l=>
  change Calls Tryz.prog _ #[.pointer (some ⟨p,0,none⟩), .int .i64 (kn:Int)] w _;change w.cell? ⟨g,kn*8+7,none⟩=some (.pointer (some ⟨q,0,none⟩))at a7;change w.cell? ⟨g,kn*8+3,none⟩=some (.int .i64 (l.length:Int))at a3;change kn<xs.length at hk;clear h hS hr;have HR:Hid ((TT.leaf kn q l).st.few=decide (l.length<32)):=rfl;by_cases hl:l.length<32
  ·have d1:decide ((l.length:Int)<32)=true:=aH1 E;go_enter Tryz.func257,Tryz.ntmps257;go_wp2_with fail;go_ret;exact⟨dV (by rw[HR.o];exact(aH1 hl).symm),rfl⟩
  ·have d1:decide ((l.length:Int)<32)=false:=aG9 E;go_enter Tryz.func257,Tryz.ntmps257;go_wp2_with fail;go_ret;exact⟨dV (by rw[HR.o];exact(aG9 hl).symm),rfl⟩
 | pair kn a b=>
  change Calls Tryz.prog _ #[.pointer (some ⟨p,0,none⟩), .int .i64 (kn:Int)] w _;change w.cell? ⟨g,kn*8+7,none⟩=some (.pointer none)at a7;change kn<xs.length at hk;clear h hS hr a3;have HR:Hid ((TT.pair kn a b).st.few=false):=rfl;go_enter Tryz.func257,Tryz.ntmps257;go_wp2_with fail;go_ret;exact⟨dV HR.o.symm,rfl⟩
theorem sR{w:World}{p:Nat}{C:Nat→Prop}{A:Ar}{xs:List Nd}{root vis:Int}(h:Head w p C A xs root vis){i j qa qb:Nat}{la lb:List Bool}(hi:Sub w xs (.leaf i qa la))(hj:Sub w xs (.leaf j qb lb))(hq:qa≠qb)(hl:la.length+lb.length≤128):
  Calls Tryz.prog 258 #[.pointer (some ⟨p,0,none⟩), .int .i64 i, .int .i64 j] w fun e w'=>e= .returned (.bool false)∧Head w' p C A (xs.set i (TT.leaf i qa (la++lb)).nd) root vis∧IsBlock w' qa (la++lb)∧Chg (fun b=>C b∨b=qa∨b=qb) w w':=by
 have hx:=hi.root;have hy:=hj.root;obtain⟨g,rc,cur,c1,_⟩:=h.row (by have :=(ar5.1 hx).1;omega);obtain⟨_,_,hix,_⟩:=h.node c1 hx;obtain⟨_,_,hjx,_⟩:=h.node c1 hy;obtain⟨_,_,_,_,_,_,_,a7⟩:=h.eight c1 hx;obtain⟨_,_,_,_,_,_,_,b7⟩:=h.eight c1 hy;change w.cell? ⟨g,i*8+7,none⟩=some (.pointer (some ⟨qa,0,none⟩))at a7;change w.cell? ⟨g,j*8+7,none⟩=some (.pointer (some ⟨qb,0,none⟩))at b7;change i<xs.length at hix;change j<xs.length at hjx;have HJ:Hid (∀n,Calls Tryz.prog 265 #[.pointer (some ⟨qa,0,none⟩), .pointer (some ⟨qb,0,none⟩)] (w.drewN n) (De (w.drewN n) qa qb la lb)):=fun n=>ad1 (w:=w.drewN n) hi.2 hj.2 hq hl;have H:=θ h;have HX:Hid (xs[i]? =some (TT.leaf i qa la).nd):=hx;have HN:Hid (¬C qa∧¬C qb):=⟨h.notBlk hi.2.type,h.notBlk hj.2.type⟩;clear h hi hj hx hy hq;go_enter Tryz.func258,Tryz.ntmps258;go_wp2_with fail;go_quiet (fail);obtain⟨n1,rfl⟩:∃n1,n1=nq:=⟨_,rfl⟩;go_wp2_with fail;refine(HJ.o n1).mono ?_;rintro e w2 ⟨rfl,hb2,hb3,c2⟩;have h2:=(H.o.drewN n1).chg c2 (fun b hb e=>e.elim (fun e=>HN.o.1 (e▸hb)) (fun e=>HN.o.2 (e▸hb)));have HF:=θ (fP h2 HX.o rfl hb2);have H2:=θ h2;have HB2:=θ hb2;have C2:Hid (Chg (fun b=>C b∨b=qa∨b=qb) w w2):=((Chg.refl (S:=fun b=>C b∨b=qa∨b=qb)).drewN n1).trans c2 (fun b e=>Ei (Ej e));clear h2 hb2 hb3 c2;go_wp2_with fail;refine HF.o.mono ?_;rintro e w3 ⟨rfl,h3,c3⟩;have H3:=θ h3;have C3:=θ (H2.o.chgRow c3);clear h3 c3;go_wp2_with fail;go_ret;exact⟨rfl,H3.o,HB2.o.chg C3.out (H2.o.notBlk HB2.o.type),C2.out.trans C3.out (fun b hb=>Ei (Ei hb))⟩
end
end Go.Proofs.YtchinbgemenenaaGreatDoor
