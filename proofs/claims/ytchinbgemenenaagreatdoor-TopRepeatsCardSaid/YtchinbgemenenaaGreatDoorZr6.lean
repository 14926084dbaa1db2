/- Lemmas and contracts under the claims of this seat. No condition. -/
import Derived.Test.YtchinbgemenenaaGreatDoorZr1
import Derived.Test.YtchinbgemenenaaGreatDoorZr5
namespace Go.Proofs.YtchinbgemenenaaGreatDoor
set_option linter.unusedVariables false
set_option linter.unusedSimpArgs false
set_option maxRecDepth 100000
set_option maxHeartbeats 12800000
section
open Go.RowKit
theorem rI{w:World}{p:Nat}{C:Nat→Prop}{A:Ar}{xs:List Nd}{root vis:Int}(h:Head w p C A xs root vis){i j qa qb:Nat}{la lb:List Bool}(hi:Sub w xs (.leaf i qa la))(hj:Sub w xs (.leaf j qb lb))(hij:i≠j)(hq:qa≠qb)(hl:128<la.length+lb.length):
  Calls Tryz.prog 258 #[.pointer (some ⟨p,0,none⟩), .int .i64 i, .int .i64 j] w fun e w'=>e= .returned (.bool true)∧∃q1 q2,w.heap.size≤q1∧w.heap.size≤q2∧q1≠q2∧
   Head w' p C A ((xs.set i (TT.leaf i q1 ((la++lb).take ((la.length+lb.length)/2))).nd).set j (TT.leaf j q2 ((la++lb).drop ((la.length+lb.length)/2))).nd) root vis∧
   IsBlock w' q1 ((la++lb).take ((la.length+lb.length)/2))∧IsBlock w' q2 ((la++lb).drop ((la.length+lb.length)/2))∧Chg C w w':=by
 have hx:=hi.root;have hy:=hj.root;have ka:=hi.2.1;have kb:=hj.2.1;obtain⟨g,rc,cur,c1,hgp,hCg,_⟩:=h.row (by have :=(ar5.1 hx).1;omega);obtain⟨_,_,hix,_⟩:=h.node c1 hx;obtain⟨_,_,hjx,_⟩:=h.node c1 hy;obtain⟨_,_,_,_,_,_,_,a7⟩:=h.eight c1 hx;obtain⟨_,_,_,_,_,_,_,b7⟩:=h.eight c1 hy;change w.cell? ⟨g,i*8+7,none⟩=some (.pointer (some ⟨qa,0,none⟩))at a7;change w.cell? ⟨g,j*8+7,none⟩=some (.pointer (some ⟨qb,0,none⟩))at b7;change i<xs.length at hix;change j<xs.length at hjx;have HJ:Hid (∀n,Calls Tryz.prog 265 #[.pointer (some ⟨qa,0,none⟩), .pointer (some ⟨qb,0,none⟩)] (w.drewN n) fun e w'=>e= .returned (.int .i64 3)∧∃m,w'=(w.drewN n).drewN m):=fun n=>Ds (w:=w.drewN n) hi.2 hj.2 hq hl;have HA:Hid (∀n,IsBlock (w.drewN n) qa la):=fun n=>hi.2;have HB:Hid (∀n,IsBlock (w.drewN n) qb lb):=fun n=>hj.2;have H:=θ h;have HC1:=θ c1;have HX:Hid (xs[i]? =some (TT.leaf i qa la).nd):=hx;have HY:Hid (xs[j]? =some (TT.leaf j qb lb).nd):=hy;have HIJ:=θ hij;have hgw:=h.lt g hCg;have hpw:=h.lt p h.self;clear h hi hj hx hy hq hij hCg;go_enter Tryz.func258,Tryz.ntmps258;go_wp2_with fail;go_quiet (fail);obtain⟨n1,rfl⟩:∃n1,n1=nq:=⟨_,rfl⟩;go_wp2_with fail;refine(HJ.o n1).mono ?_;rintro e w' ⟨rfl,m,rfl⟩;have HW0:Hid (∀n,Below w.heap.size w (w.drewN n)):=fun n=>⟨rfl,rfl,rfl,aA5 _,fun _ _=>rfl⟩;go_wp2_with fail;refine(rR (HA.o _)).mono ?_;rintro e w2 ⟨v,rfl,hown,hb1⟩;have HB2:=θ ((HB.o _).below' hb1);have hbw2:Below w.heap.size w w2:=(HW0.o _).trans hb1;have hown:w2.ownsRow w.heap.size 4 1 v la.length (la.map Value.bool):=hown;have HO2:=θ hown;have hs2:=hbw2.size;have HW2:=θ hbw2;clear hown hb1 hbw2;go_wp2_with fail;refine(rR HB2.o).mono ?_;rintro e w3 ⟨v3,rfl,hown3,hb3⟩;have hown:=sB HO2.o hb3 (fun k hk=>(bX HO2.o hk).2);obtain⟨a3,c3,rfl,hnil3,_⟩:=aM hown3;have hrd3:=eB hown3;have hbw3:Below w.heap.size w w3:=HW2.o.trans (hb3.mono hs2);have hs3:=hbw3.size;have HO3:=θ hown;have HR3:=θ hrd3;have HN3:=θ hnil3;have HW3:=θ hbw3;clear hown3 hown hb3 hrd3 hnil3 hbw3;go_wp2_with (at_builtin;refine fM rfl _ _ 132 rfl w.heap.size 4 Tryz.infoBoolR Tryz.underlying132 rfl _ la.length _ rfl HO3.o a3 lb.length c3 (lb.map Value.bool) rfl Es HN3.o HR3.o.hnews (oneB _) (by unfold maxLen;omega) E E ?_);intro a4 c4 w4 hown4 hgrow _;have hbw4:Below w.heap.size w w4:=HW3.o.trans ((am4 _ _).grown hgrow hs3 (fun k hk=>(bX HO3.o hk).1));obtain⟨_,hcap,_⟩:∃x,la.length+lb.length≤c4∧x=0:=by
  obtain⟨gg,cap,hv,_,_,h5,_⟩:=cL hown4 E;injection hv with _ _ e3
  exact⟨0,by rw[e3];exact h5,rfl⟩
 obtain⟨a4',c4',hv4,_,hab4⟩:=aM hown4;injection hv4 with e1 e2 e3
 subst e1;clear e2 e3;have hrd4:=eB hown4;rw[←at6]at hrd4;have hall:(la++lb).length=la.length+lb.length:=as6;have hN:la.length+lb.length≤256:=E;generalize hae:la++lb=all at *;generalize hne:la.length+lb.length=N at *;have HAE:=θ hae;have HNE:=θ hne;clear hae hne;obtain⟨M,hM⟩:∃M,M=N/2:=⟨_,rfl⟩;have hM2:M≤N∧M≤128∧N-M≤128∧N≤256:=E;obtain⟨hm1,hm2,hm3,hm4⟩:=hM2;have hwr:IntKind.i64.wrap (M:Int)=(M:Int):=ao4 _ E;have hwr2:((N:Int)/2)=(M:Int):=E;have hs1:=fun(w:World)=>gA (P:=Tryz.prog) (w:=w) (t:=132) (a:=a4) (len:=N) (cap:=c4) (k:=M) aE7 Ek E;have hs5:=fun(w:World)=>lR (P:=Tryz.prog) (w:=w) (t:=132) (a:=a4) (len:=N) (cap:=c4) (k:=M) aE7 Ek E;have HT4:Hid (ReadsV w4 a4 ((all.take M).map Value.bool)):=by rw[av6];exact hrd4.take M
 have HD4:Hid (ReadsV w4 (fB a4 M c4) ((all.drop M).map Value.bool)):=by rw[at9];exact hrd4.drop (by simpa[hall]using hcap)
 have hoff:∀ad,fB a4 M c4=some ad→w.heap.size≤ad.block:=by
  intro ad had;unfold fB at had;split at had
  ·obtain⟨gg,rfl,hg,_⟩:=hab4 _ had;exact hg
  ·cases a4 with
   | none=>cases had
   | some x=>
    obtain⟨gg,rfl,hg,_⟩:=hab4 _ rfl;simp[al5]at had;subst had;exact hg
 have hl1:(all.take M).length=M:=by rw[at5];omega
 have hl2:(all.drop M).length=N-M:=by rw[as8];omega
 have r4:=(hbw4.cell (p:=⟨p,1,none⟩) hpw).trans c1;have s7:=(hbw4.cell (p:=⟨g,i*8+7,none⟩) hgw).trans a7;have t7:=(hbw4.cell (p:=⟨g,j*8+7,none⟩) hgw).trans b7;have h4:=H.o.below hbw4;have z4:=(h4.node r4 HX.o).2.1;have z1:=z4 (i*8+7);have z2:=z4 (j*8+7);have hne7:¬(j*8+7=i*8+7):=by have :=HIJ.o;omega
 have hs4:=hbw4.size;have HOFF:=θ hoff;have HW4:=θ hbw4;have H4:=θ h4;have HL1:=θ hl1;have HL2:=θ hl2;have HALL:=θ hall;have HM:=θ hM;have hnew:=pM w4.drew a4 c4 (all.take M) HT4.o (by rw[hl1];omega);rw[hl1]at hnew;have HNEW:=θ hnew;clear hown4 hgrow hrd4 hab4 hoff hbw4 h4 z4 hl1 hl2 hall hM hnew a7 b7 c1 HJ HA HB HB2 HO2 HO3 HR3 HN3 HW2 HW3 hcap HW0;go_wp2_with fail;refine aE (fun w'=>w'.cell? ⟨p,1,none⟩=some (.slice (some ⟨g,0,none⟩) xs.length rc)) Ek (r4) (fun hh=>?_);refine rt 0 hh ?_;refine rt 1 hh ?_;refine rt 2 hh ?_;refine rt 3 hh ?_;refine rt 4 hh ?_;refine rt 5 hh ?_;refine rt 6 hh ?_;refine rt 7 hh ?_;refine rt 8 hh ?_;refine rt 9 hh ?_;refine rg 10 fun κ hK=>?_;go_simp
 ((with_reducible refine HNEW.o.mono ?_))
 rintro e w5 ⟨rfl,hq5,hb5⟩;have r5:w5.cell? ⟨p,1,none⟩=some (.slice (some ⟨g,0,none⟩) xs.length rc):=(hb5.cell (p:=⟨p,1,none⟩) (by show p<w4.heap.size;omega)).trans r4;have s5:w5.cell? ⟨g,i*8+7,none⟩=some (.pointer (some ⟨qa,0,none⟩)):=(hb5.cell (p:=⟨g,i*8+7,none⟩) (by show g<w4.heap.size;omega)).trans s7;have t5:w5.cell? ⟨g,j*8+7,none⟩=some (.pointer (some ⟨qb,0,none⟩)):=(hb5.cell (p:=⟨g,j*8+7,none⟩) (by show g<w4.heap.size;omega)).trans t7;have z5:w5.frozen? ⟨g,i*8+7,none⟩=false:=(hb5.frozen (p:=⟨g,i*8+7,none⟩) (by show g<w4.heap.size;omega)).trans z1;have y5:w5.frozen? ⟨g,j*8+7,none⟩=false:=(hb5.frozen (p:=⟨g,j*8+7,none⟩) (by show g<w4.heap.size;omega)).trans z2;have HQ5:=θ hq5;have HB5:=θ hb5;clear hq5 hb5;refine hK.out _ _ (r5) ?_;intro hh;try simp only[pt]
 refine rt 11 hh ?_;refine rt 12 hh ?_;refine rt 13 hh ?_;refine rt 14 hh ?_;refine rt 15 hh ?_;refine rg 16 fun κ hK=>?_;go_simp;refine hK.out _ _ ?kpsix16 (fun hNew=>?_);case kpsix16=>(go_simp)
 clear hK κ hh;have hh:=hNew;clear hNew;try simp only[pt]
 refine rz ?_;clear hh;have h5:=H4.o.drew.below HB5.o;obtain⟨h6,g6,r6⟩:=h5.put r5 HX.o (i:=7) (v:= .pointer (some ⟨w4.heap.size,0,none⟩)) (x':=⟨-1,-1,0,la.length,la.count true,0,0,some w4.heap.size⟩) E rfl;have hy6:(xs.set i ⟨-1,-1,0,la.length,la.count true,0,0,some w4.heap.size⟩)[j]? =some (TT.leaf j qb lb).nd:=by rw[aG HIJ.o.symm];exact HY.o
 have hx6:(xs.set i ⟨-1,-1,0,la.length,la.count true,0,0,some w4.heap.size⟩)[i]? =some ⟨-1,-1,0,la.length,la.count true,0,0,some w4.heap.size⟩:=aS HX.o;have t6:(w5.setCell ⟨g,i*8+7,none⟩ (.pointer (some ⟨w4.heap.size,0,none⟩))).cell? ⟨g,j*8+7,none⟩=some (.pointer (some ⟨qb,0,none⟩)):=(h6.eight r6 hy6).2.2.2.2.2.2.2;have y6:=(h6.node r6 hy6).2.1 (j*8+7);have d6:=((show ReadsV w4.drew (fB a4 M c4) ((all.drop M).map Value.bool)from HD4.o).below' HB5.o).chg g6 (fun ad had e=>by have :=HOFF.o ad had;rw[e]at this;omega);have q6:=HQ5.o.chg g6 (by show ¬w4.heap.size=g;omega);have hc5:Chg C w w5:=(Chg.of_below HW4.o).trans (Chg.of_below (S:=C) (show Below w4.heap.size w4 w5 from⟨HB5.o.os,HB5.o.tape,HB5.o.output,HB5.o.size,HB5.o.block⟩)) (fun b hb=>Ei hb);have c6:Chg C w _:=hc5.trans g6 (fun b e=>Ei (by subst e;exact H.o.rowC ⟨_,_,HC1.o⟩));have hs6:=c6.size;generalize w5.setCell ⟨g,i*8+7,none⟩ (.pointer (some ⟨w4.heap.size,0,none⟩))=w6 at *;have hq1w:w.heap.size≤w4.heap.size:=hs4;have q6:IsBlock w6 w4.heap.size (all.take M):=q6;obtain⟨q1,hq1⟩:∃q1,q1=w4.heap.size:=⟨_,rfl⟩;rw[←hq1]at h6 hy6 hx6 q6 hq1w;have len6:(xs.set i ⟨-1,-1,0,la.length,la.count true,0,0,some q1⟩).length=xs.length:=Es;have s6:xs.set i ⟨-1,-1,0,la.length,la.count true,0,0,some q1⟩=xs.set i ⟨-1,-1,0,la.length,la.count true,0,0,some q1⟩:=rfl;generalize hx6e:xs.set i ⟨-1,-1,0,la.length,la.count true,0,0,some q1⟩=xs6 at h6 hy6 hx6 len6;have HX6E:=θ hx6e;have hq1s:=q6.lt;have hnew:=pM w6.drew (fB a4 M c4) (c4-M) (all.drop M) d6 (by rw[HL2.o];omega);rw[HL2.o]at hnew;have HNEW2:=θ hnew;have H6:=θ h6;have HY6:=θ hy6;have HX6:=θ hx6;have Q6:=θ q6;have HC6:=θ c6;have L6:=θ len6;have hgw6:g<w6.heap.size:=E;have hpw6:p<w6.heap.size:=E;clear h5 h6 g6 hy6 hx6 d6 q6 hc5 c6 hx6e hnew len6 s6 r5 s5 t5 z5 y5 r4 s7 t7 z1 z2 HQ5 HB5 HNEW HT4 HD4 hq1 hown;go_wp2_with fail;refine aE (fun w'=>w'.cell? ⟨p,1,none⟩=some (.slice (some ⟨g,0,none⟩) xs.length rc)) Ek (r6) (fun hh=>?_);refine rt 0 hh ?_;refine rt 1 hh ?_;refine rt 2 hh ?_;refine rt 3 hh ?_;refine rt 4 hh ?_;refine rt 5 hh ?_;refine rt 6 hh ?_;refine rt 7 hh ?_;refine rt 8 hh ?_;refine rt 9 hh ?_;refine rg 10 fun κ hK=>?_;go_simp
 ((with_reducible refine HNEW2.o.mono ?_))
 rintro e w7 ⟨rfl,hq7,hb7⟩;have r7:w7.cell? ⟨p,1,none⟩=some (.slice (some ⟨g,0,none⟩) xs.length rc):=(hb7.cell (p:=⟨p,1,none⟩) hpw6).trans r6;have t7:w7.cell? ⟨g,j*8+7,none⟩=some (.pointer (some ⟨qb,0,none⟩)):=(hb7.cell (p:=⟨g,j*8+7,none⟩) hgw6).trans t6;have y7:w7.frozen? ⟨g,j*8+7,none⟩=false:=(hb7.frozen (p:=⟨g,j*8+7,none⟩) hgw6).trans y6;have HQ7:=θ hq7;have HB7:=θ hb7;clear hq7 hb7;refine hK.out _ _ (r7) ?_;intro hh;try simp only[pt]
 refine rt 11 hh ?_;refine rt 12 hh ?_;refine rt 13 hh ?_;refine rt 14 hh ?_;refine rt 15 hh ?_;refine rg 16 fun κ hK=>?_;go_simp;refine hK.out _ _ ?kpsev16 (fun hNew=>?_);case kpsev16=>(go_simp)
 clear hK κ hh;have hh:=hNew;clear hNew;try simp only[pt]
 refine rz ?_;clear hh;have h7:=H6.o.drew.below HB7.o;obtain⟨h8,g8,r8⟩:=h7.put r7 HY6.o (i:=7) (v:= .pointer (some ⟨w6.heap.size,0,none⟩)) (x':=⟨-1,-1,0,lb.length,lb.count true,0,0,some w6.heap.size⟩) E rfl;have hx8:(xs6.set j ⟨-1,-1,0,lb.length,lb.count true,0,0,some w6.heap.size⟩)[i]? =some ⟨-1,-1,0,la.length,la.count true,0,0,some q1⟩:=by rw[aG HIJ.o];exact HX6.o
 have hy8:(xs6.set j ⟨-1,-1,0,lb.length,lb.count true,0,0,some w6.heap.size⟩)[j]? =some ⟨-1,-1,0,lb.length,lb.count true,0,0,some w6.heap.size⟩:=aS HY6.o;have hc7:Chg C w w7:=HC6.o.trans (Chg.of_below (S:=C) (show Below w6.heap.size w6 w7 from⟨HB7.o.os,HB7.o.tape,HB7.o.output,HB7.o.size,HB7.o.block⟩)) (fun b hb=>Ei hb);have q17:=(show IsBlock w6.drew q1 (all.take M)from Q6.out).below' HB7.o;have q18:=q17.chg g8 E;have q28:=HQ7.o.chg g8 (by show ¬w6.heap.size=g;omega);have c8:Chg C w _:=hc7.trans g8 (fun b e=>Ei (by subst e;exact H.o.rowC ⟨_,_,HC1.o⟩));generalize w7.setCell ⟨g,j*8+7,none⟩ (.pointer (some ⟨w6.heap.size,0,none⟩))=w8 at *;have q28:IsBlock w8 w6.heap.size (all.drop M):=q28;have hq12:q1≠w6.heap.size:=E;have hq2w:w.heap.size≤w6.heap.size:=hs6;generalize w6.heap.size=q2 at *;generalize hx8e:xs6.set j ⟨-1,-1,0,lb.length,lb.count true,0,0,some q2⟩=xs8 at h8 hx8 hy8;have HX8E:=θ hx8e;have HF:=θ (fP h8 hx8 rfl q18);have H8:=θ h8;have HX8:=θ hx8;have HY8:=θ hy8;have Q18:=θ q18;have Q28:=θ q28;have HC8:=θ c8;have HQ12:=θ hq12;clear h7 h8 g8 r8 hx8 hy8 hc7 q17 q18 q28 c8 hx8e hq12 r7 t7 y7 HQ7 HB7 HNEW2 r6 t6 y6;go_wp2_with fail;refine HF.o.mono ?_;rintro e w9 ⟨rfl,h9,c9⟩;have c9C:=H8.o.chgRow c9;have q29:=Q28.out.chg c9C (H8.o.notBlk Q28.out.type);have q19:=Q18.out.chg c9C (H8.o.notBlk Q18.out.type);have HF2:=θ (fP h9 (k:=j) (x:=⟨-1,-1,0,lb.length,lb.count true,0,0,some q2⟩) (by rw[aG HIJ.o.symm];exact HY8.o) rfl q29);have H9:=θ h9;have Q29:=θ q29;have Q19:=θ q19;have HC9:=θ (HC8.o.trans c9C (fun b hb=>Ei hb));clear h9 c9 c9C q29 q19;go_wp2_with fail;refine HF2.o.mono ?_;rintro e w10 ⟨rfl,h10,c10⟩;have H10:=θ h10;have C10:=θ (H9.o.chgRow c10);clear h10 c10;go_wp2_with fail;go_ret;rw[HAE.o,HNE.o,←HM.o];refine⟨rfl,q1,q2,hq1w,hq2w,HQ12.o,?_,Q19.out.chg C10.out (H9.o.notBlk Q19.out.type),Q29.out.chg C10.out (H9.o.notBlk Q29.out.type),HC9.o.trans C10.out (fun b hb=>Ei hb)⟩;have hfin:=H10.o;rw[←HX8E.o,←HX6E.o,List.set_comm _ _ HIJ.o.symm,ay6,ay6]at hfin;exact hfin
def Ar.fr (a:Ar)(x y:Nat):Ar:=⟨(a.T.set x false).set y false,a.F++[x,y],a.M⟩
def Ar.fr1 (a:Ar)(x:Nat):Ar:=⟨a.T.set x false,a.F++[x],a.M⟩
theorem vJ{T:List Bool}{x:Nat}(h:T[x]? =some true):kE T (x:Int)=true:=by
 rw[mO];exact⟨E,by simpa using h⟩
theorem Ar.free2 {a:Ar}{x y:Nat}(hx:a.T[x]? =some true)(hy:a.T[y]? =some true)(hxy:x≠y):a.free [(x:Int),(y:Int)]=(0,a.fr x y):=by
 have h1:=vJ hx;have h2:kE (a.T.set x false) (y:Int)=true:=vJ (by rw[ar8,aH8 hxy];exact hy);unfold Ar.free;simp only[clr,h1,aI0,ao2,h2];rfl
theorem Ar.free1 {a:Ar}{x:Nat}(hx:a.T[x]? =some true):a.free [(x:Int)]=(0,a.fr1 x):=by
 have h1:=vJ hx;unfold Ar.free;simp only[clr,h1,aI0,ao2];rfl
theorem Ar.fr_live {a:Ar}(h:a.Ok){x y:Nat}(hx:a.T[x]? =some true)(hy:a.T[y]? =some true)(hxy:x≠y):(a.fr x y).live+2=a.live:=by
 have hk:(a.fr x y).Ok:=by
  have :=Ar.free_ok h [(x:Int),(y:Int)];rw[Ar.free2 hx hy hxy]at this;exact this
 have h1:=hk.fle;simp only[Ar.fr,Ar.live,as6,at4,as7,at2]at *;omega
theorem Ar.fr1_live {a:Ar}(h:a.Ok){x:Nat}(hx:a.T[x]? =some true):(a.fr1 x).live+1=a.live:=by
 have hk:(a.fr1 x).Ok:=by
  have :=Ar.free_ok h [(x:Int)];rw[Ar.free1 hx]at this;exact this
 have h1:=hk.fle;simp only[Ar.fr1,Ar.live,as6,at4,as7,at2]at *;omega
theorem Ar.fr_T {a:Ar}{x y j:Nat}(h1:j≠x)(h2:j≠y):(a.fr x y).T[j]? =a.T[j]? :=by
 simp only[Ar.fr];rw[aG h2,aG h1]
section
variable {w:World}{p:Nat}{C:Nat→Prop}{A:Ar}{xs:List Nd}{root vis:Int}
theorem Sy{w:World}{B:Nat}{x y:Int}{T:TypeId}(h:w.heap[B]? =some (.cells #[.int .i64 x, .int .i64 y] T (0,0))):Reads w .i64 (some ⟨B,0,none⟩) [x,y]:=by
 intro i hi;refine⟨B,0,rfl,(am0.1 h).1,fun j hj=>?_⟩;match j,hj with
 | 0,_=>rw[aG7 w B _ _ _ _ h];rfl
 | 1,_=>rw[aG7 w B _ _ _ _ h];rfl
theorem Nl{w:World}{B:Nat}{x:Int}{T:TypeId}(h:w.heap[B]? =some (.cells #[.int .i64 x] T (0,0))):Reads w .i64 (some ⟨B,0,none⟩) [x]:=by
 intro i hi;refine⟨B,0,rfl,(am0.1 h).1,fun j hj=>?_⟩;match j,hj with
 | 0,_=>rw[aG7 w B _ _ _ _ h];rfl
theorem Gx(h:Head w p C A xs root vis){x y:Nat}(hx:A.T[x]? =some true)(hy:A.T[y]? =some true)(hxy:x≠y):
  ∃ap,w.cell? ⟨p,0,none⟩=some (.pointer (some ⟨ap,0,none⟩))∧Calls Tryz.prog 213 #[.pointer (some ⟨ap,0,none⟩), .slice (some ⟨w.heap.size,0,none⟩) 2 2] (w.alloc (.cells #[.int .i64 x, .int .i64 y] 3)) fun e w'=>
   e= .returned (.int .i64 0)∧∃C',Head w' p C' (A.fr x y) xs root vis∧HStep w w' C C':=by
 have hb:=aN w (.cells #[.int .i64 x, .int .i64 y] 3);obtain⟨ap,SA,p0,hA,hsub,hstep⟩:=(h.below hb).arena;refine⟨ap,(hb.cell (p:=⟨p,0,none⟩) (h.lt p h.self)).symm.trans p0,?_⟩;have hf:=qI hA [(x:Int),(y:Int)] (some ⟨w.heap.size,0,none⟩) 2 (Sy (aH5 w _)) (fun h=>by cases h) (fun ad had hs=>by cases had;have :=h.lt _ (hsub _ hs);simp at this) Es Es;refine hf.mono ?_;rintro e w' ⟨rfl,hst⟩;rw[Ar.free2 hx hy hxy]at hst⊢;obtain⟨C',g1,g2⟩:=hstep _ _ hst;exact⟨rfl,C',g1,(HStep.of_below hb).trans g2⟩
theorem tFree1(h:Head w p C A xs root vis){x:Nat}(hx:A.T[x]? =some true):
  ∃ap,w.cell? ⟨p,0,none⟩=some (.pointer (some ⟨ap,0,none⟩))∧Calls Tryz.prog 213 #[.pointer (some ⟨ap,0,none⟩), .slice (some ⟨w.heap.size,0,none⟩) 1 1] (w.alloc (.cells #[.int .i64 x] 3)) fun e w'=>
   e= .returned (.int .i64 0)∧∃C',Head w' p C' (A.fr1 x) xs root vis∧HStep w w' C C':=by
 have hb:=aN w (.cells #[.int .i64 x] 3);obtain⟨ap,SA,p0,hA,hsub,hstep⟩:=(h.below hb).arena;refine⟨ap,(hb.cell (p:=⟨p,0,none⟩) (h.lt p h.self)).symm.trans p0,?_⟩;have hf:=qI hA [(x:Int)] (some ⟨w.heap.size,0,none⟩) 1 (Nl (aH5 w _)) (fun h=>by cases h) (fun ad had hs=>by cases had;have :=h.lt _ (hsub _ hs);simp at this) Es Es;refine hf.mono ?_;rintro e w' ⟨rfl,hst⟩;rw[Ar.free1 hx]at hst⊢;obtain⟨C',g1,g2⟩:=hstep _ _ hst;exact⟨rfl,C',g1,(HStep.of_below hb).trans g2⟩
end
def pB(w:World)(xs:List Nd):TT→Prop
 | .leaf k q l=>Sub w xs (.leaf k q l)
 | .pair k a c=>∃x,xs[k]? =some x∧x.left=a.num∧x.right=c.num∧x.b=none∧Sub w xs a∧Sub w xs c
def gE(w w':World)(p:Nat)(C:Nat→Prop)(A:Ar)(xs:List Nd)(root vis:Int)(T:TT)(e:Ending):Prop:=
 ∃T' C' A' xs' v',e= .returned (.int .i64 T'.num)∧Head w' p C' A' xs' root v'∧SubPre w w' C A xs T T' C' A' xs'∧T'.st=cH T.st∧vis≤v'∧v'≤vis+2∧pB w' xs' T'∧A'.T.length=A.T.length
theorem SubPre.refl {w w':World}{C:Nat→Prop}{A:Ar}{xs:List Nd}{T:TT}(hO:Own A T)(hl:xs.length=A.T.length)(hc:Chg C w w'):SubPre w w' C A xs T T C A xs:=
 ⟨hO,hl,fun j hj=>Ei hj,fun j hj=>Ei hj,fun j h1 h2=>⟨rfl,h1,h2⟩,rfl,rfl,hc.mono (fun j hj=>Ei hj)⟩
theorem ab3{w:World}{p:Nat}{C:Nat→Prop}{A:Ar}{xs:List Nd}{root vis:Int}(h:Head w p C A xs root vis)(hlen:xs.length=A.T.length){k:Nat}{l r:TT}(hS:pB w xs (.pair k l r))(hO:Own A (.pair k l r))(hf:l.st.few=false∧r.st.few=false):
  Calls Tryz.prog 246 #[.pointer (some ⟨p,0,none⟩), .int .i64 k] w fun e w'=>gE w w' p C A xs root vis (.pair k l r) e:=by
 obtain⟨x,hx,hxl,hxr,hxb,hl,hr⟩:=hS;obtain⟨g,rc,cur,c1,_⟩:=h.row (by have :=(ar5.1 hx).1;omega);obtain⟨_,_,hkx,_⟩:=h.node c1 hx;obtain⟨a0,a1,_⟩:=h.eight c1 hx;rw[hxl]at a0;rw[hxr]at a1;have HF1:Hid (∀n,Calls Tryz.prog 257 #[.pointer (some ⟨p,0,none⟩), .int .i64 l.num] (w.drewN n) fun e w'=>e= .returned (.bool false)∧w.drewN n=w'):=fun n=>by
  have :=cG (h.drewN n) (hl.keep (w':=w.drewN n) (fun _ _=>rfl) (fun _ _=>rfl));rw[hf.1]at this;exact this
 have HF2:Hid (∀n,Calls Tryz.prog 257 #[.pointer (some ⟨p,0,none⟩), .int .i64 r.num] (w.drewN n) fun e w'=>e= .returned (.bool false)∧w.drewN n=w'):=fun n=>by
  have :=cG (h.drewN n) (hr.keep (w':=w.drewN n) (fun _ _=>rfl) (fun _ _=>rfl));rw[hf.2]at this;exact this
 have hm:(TT.pair k l r).st=cH (TT.pair k l r).st:=by simp only[TT.st,cH];rw[aH9 hf]
 have HM:=θ hm;have HFIN:Hid (∀n,Head (w.drewN n) p C A xs root vis∧SubPre w (w.drewN n) C A xs (.pair k l r) (.pair k l r) C A xs∧pB (w.drewN n) xs (.pair k l r)):=fun n=>
  ⟨h.drewN n,SubPre.refl hO hlen (Chg.refl.drewN n),x,hx,hxl,hxr,hxb,hl.keep (fun _ _=>rfl) (fun _ _=>rfl),hr.keep (fun _ _=>rfl) (fun _ _=>rfl)⟩
 obtain⟨nl,hnl⟩:∃n,l.num=n:=⟨_,rfl⟩;obtain⟨nr,hnr⟩:∃n,r.num=n:=⟨_,rfl⟩;rw[hnl]at a0 HF1;rw[hnr]at a1 HF2;clear h hlen hO hf hx hxl hxr hxb hl hr hm hnl hnr;go_enter aD8,aE2;go_wp2_with fail;go_quiet (fail);obtain⟨n1,rfl⟩:∃n1,n1=nq:=⟨_,rfl⟩;go_wp2_with fail;refine(HF1.o n1).mono ?_;rintro e w' ⟨rfl,rfl⟩;go_wp2_with fail;refine(HF2.o n1).mono ?_;rintro e w' ⟨rfl,rfl⟩;go_wp2_with fail;go_ret;obtain⟨f1,f2,f3⟩:=HFIN.o n1;exact⟨.pair k l r,C,A,xs,vis,rfl,f1,f2,HM.o,E,E,f3,rfl⟩
theorem zA{w:World}{p:Nat}{C:Nat→Prop}{A:Ar}{xs:List Nd}{root vis:Int}(h:Head w p C A xs root vis)(hlen:xs.length=A.T.length)(hv0:0≤vis)(hv:vis≤100000000000){k i qa j qb:Nat}{la lb:List Bool}(hS:pB w xs (.pair k (.leaf i qa la) (.leaf j qb lb)))(hO:Own A (.pair k (.leaf i qa la) (.leaf j qb lb)))
  (hf:(TT.leaf i qa la).st.few=true∨((TT.leaf i qa la).st.few=false∧(TT.leaf j qb lb).st.few=true)) (hle:la.length+lb.length≤128):
  Calls Tryz.prog 246 #[.pointer (some ⟨p,0,none⟩), .int .i64 k] w fun e w'=>gE w w' p C A xs root vis (.pair k (.leaf i qa la) (.leaf j qb lb)) e:=by
 obtain⟨x,hx,hxl,hxr,hxb,hl,hr⟩:=hS;obtain⟨g,rc,cur,c1,hgp,hCg,_⟩:=h.row (by have :=(ar5.1 hx).1;omega);obtain⟨_,_,hkx,_⟩:=h.node c1 hx;obtain⟨a0,a1,_⟩:=h.eight c1 hx;rw[hxl]at a0;rw[hxr]at a1;change w.cell? ⟨g,k*8,none⟩=some (.int .i64 (i:Int))at a0;change w.cell? ⟨g,k*8+1,none⟩=some (.int .i64 (j:Int))at a1;obtain⟨_,_,cv,fz⟩:=h.cells;have f3:=fz 3;have HF1:Hid (∀n,Calls Tryz.prog 257 #[.pointer (some ⟨p,0,none⟩), .int .i64 i] (w.drewN n) fun e w'=>e= .returned (.bool (TT.leaf i qa la).st.few)∧w.drewN n=w'):=fun n=>
  cG (T:=TT.leaf i qa la) (h.drewN n) (hl.keep (w':=w.drewN n) (fun _ _=>rfl) (fun _ _=>rfl))
 have HF2:Hid (∀n,Calls Tryz.prog 257 #[.pointer (some ⟨p,0,none⟩), .int .i64 j] (w.drewN n) fun e w'=>e= .returned (.bool (TT.leaf j qb lb).st.few)∧w.drewN n=w'):=fun n=>
  cG (T:=TT.leaf j qb lb) (h.drewN n) (hr.keep (w':=w.drewN n) (fun _ _=>rfl) (fun _ _=>rfl))
 have h1:∀n,Head ((w.drewN n).setCell ⟨p,3,none⟩ (.int .i64 (vis+2))) p C A xs root (vis+2):=fun n=>(h.drewN n).set3 _;have g1:∀n,Chg C w ((w.drewN n).setCell ⟨p,3,none⟩ (.int .i64 (vis+2))):=fun n=>(Chg.refl.drewN n).setCell _ (Ei h.self) _;have HL1:Hid (∀n,Sub ((w.drewN n).setCell ⟨p,3,none⟩ (.int .i64 (vis+2))) xs (TT.leaf i qa la)):=fun n=>hl.chgC h (g1 n) (fun _ _=>rfl);have HR1:Hid (∀n,Sub ((w.drewN n).setCell ⟨p,3,none⟩ (.int .i64 (vis+2))) xs (TT.leaf j qb lb)):=fun n=>hr.chgC h (g1 n) (fun _ _=>rfl);have HC1:Hid (∀n,((w.drewN n).setCell ⟨p,3,none⟩ (.int .i64 (vis+2))).cell? ⟨p,1,none⟩=some (.slice (some ⟨g,0,none⟩) xs.length rc)):=fun n=>by
  have :=c1;go_simp
 have H1:=θ h1;have G1:=θ g1;have HO:=θ hO;have HLN:=θ hlen;have HX:Hid (xs[k]? =some x∧x.left=i∧x.right=j∧x.b=none):=⟨hx,hxl,hxr,hxb⟩;obtain⟨_,_,hix,_⟩:=h.node c1 hl.root;obtain⟨_,_,hjx,_⟩:=h.node c1 hr.root;obtain⟨_,_,_,_,_,_,_,b7⟩:=h.eight c1 hl.root;obtain⟨_,_,_,_,_,_,_,d7⟩:=h.eight c1 hr.root;change w.cell? ⟨g,i*8+7,none⟩=some (.pointer (some ⟨qa,0,none⟩))at b7;change w.cell? ⟨g,j*8+7,none⟩=some (.pointer (some ⟨qb,0,none⟩))at d7;change i<xs.length at hix;change j<xs.length at hjx;have hqq:qa≠qb:=by have :=hO.bn;simp[TT.bl]at this;exact this
 have hnn:k≠i∧k≠j∧i≠j:=by have :=hO.nn;simp[TT.nums]at this;exact⟨this.1.1,this.1.2,this.2⟩
 have HNN:=θ hnn;have hmd:cH (TT.pair k (.leaf i qa la) (.leaf j qb lb)).st=lev la lb:=by
  simp only[TT.st,cH];rw[aH8 (by rintro⟨e1,e2⟩;rcases hf with hf | ⟨_,hf⟩<;>simp only[TT.st]at hf<;>simp_all)]
 have HMD:=θ hmd;have hpw:=h.lt p h.self;have hgw:=h.lt g hCg;have HXI:Hid (xs[i]? =some (TT.leaf i qa la).nd):=hl.root;have HXJ:Hid (xs[j]? =some (TT.leaf j qb lb).nd):=hr.root;have HLV:Hid (∀n,Calls Tryz.prog 258 #[.pointer (some ⟨p,0,none⟩), .int .i64 i, .int .i64 j] ((w.drewN n).setCell ⟨p,3,none⟩ (.int .i64 (vis+2))) fun e w'=>e= .returned (.bool false)∧Head w' p C A (xs.set i (TT.leaf i qa (la++lb)).nd) root (vis+2)∧IsBlock w' qa (la++lb)∧Chg (fun b=>C b∨b=qa∨b=qb) ((w.drewN n).setCell ⟨p,3,none⟩ (.int .i64 (vis+2))) w'):=
  fun n=>sR (h1 n) (HL1.o n) (HR1.o n) hqq hle
 clear h hlen hO hx hxl hxr hxb hl hr fz h1 g1 hnn hmd hCg hqq;rcases hf with hlf | ⟨hlf,hrf⟩
 case' inl=>
  have HLF:=θ hlf;clear hlf;go_enter aD8,aE2;go_wp2_with fail;go_quiet (fail);obtain⟨n1,rfl⟩:∃n1,n1=nq:=⟨_,rfl⟩;go_wp2_with fail;refine(HF1.o n1).mono ?_;rintro e w' ⟨rfl,rfl⟩;rw[HLF.o];go_wp2_with fail
 case' inr=>
  have HLF:=θ hlf;have HRF:=θ hrf;clear hlf hrf;go_enter aD8,aE2;go_wp2_with fail;go_quiet (fail);obtain⟨n1,rfl⟩:∃n1,n1=nq:=⟨_,rfl⟩;go_wp2_with fail;refine(HF1.o n1).mono ?_;rintro e w' ⟨rfl,rfl⟩;rw[HLF.o];go_wp2_with fail;refine(HF2.o n1).mono ?_;rintro e w' ⟨rfl,rfl⟩;rw[HRF.o];go_wp2_with fail
 all_goals
  refine(HLV.o n1).mono ?_;rintro e w2 ⟨rfl,h2,q2,g2⟩;have tk:=HO.o.tk;obtain⟨m1,m2,m3⟩:=HNN.o;obtain⟨ap,p0,hfr⟩:=Gx h2 (tk j (by simp[TT.nums])) (tk k TT.mem_k) m2.symm;have HFR:=θ hfr;have H2:=θ h2;have Q2:=θ q2;have G2:=θ g2;clear h2 q2 g2 tk m1 m2 m3 hfr;go_wp2_with fail;refine HFR.o.mono ?_;rintro e w3 ⟨rfl,C3,h3,s3⟩;have H3:=θ h3;have S3:=θ s3;clear h3 s3;go_wp2_with fail;go_ret;obtain⟨m1,m2,m3⟩:=HNN.o;have tk:=HO.o.tk;have g12:Chg (fun b=>C b∨b∈(TT.pair k (.leaf i qa la) (.leaf j qb lb)).bl) w w2:=((G1.out n1).mono (fun b hb=>Ei hb)).trans G2.out (fun b hb=>Ei (by simpa[TT.bl]using hb));have hsz:=g12.size;refine⟨.leaf i qa (la++lb),C3,A.fr j k,_,_,rfl,H3.o,⟨⟨by simp[TT.nums],by simp[TT.bl],fun b hb=>?_⟩,?_,fun b hb=>(S3.out.new b hb).imp id (fun h=>E),fun b hb=>?_,fun b e1 e2=>?_,?_,rfl,g12.trans S3.out.chg (fun b hb=>Ei (Ei hb))⟩,?_,E,E,⟨?_,?_⟩,by simp[Ar.fr]⟩
  ·simp[TT.nums]at hb;subst hb;rw[Ar.fr_T m3 m1.symm];exact tk _ (by simp[TT.nums])
  ·rw[at4,HLN.o];simp[Ar.fr]
  ·simp[TT.bl]at hb;subst hb;exact Ei (by simp[TT.bl])
  ·simp only[TT.nums,av9,av8,ay0,aI5,aI3]at e2;refine⟨aG e2.2.1,by rw[Ar.fr_T e2.2.2 e2.1];exact e1,by simp[TT.nums,e2.2.1]⟩
  ·have hk:=(H2.o.arOk);have :=Ar.fr_live hk (tk j (by simp[TT.nums])) (tk k TT.mem_k) m2.symm;simp only[TT.st,ST.size];omega
  ·rw[HMD.o];simp only[TT.st,lev];rw[aH9 hle]
  ·exact aS HXI.o
  ·exact Q2.out.chg S3.out.chg (H2.o.notBlk Q2.out.type)
theorem vE{w:World}{p:Nat}{C:Nat→Prop}{A:Ar}{xs:List Nd}{root vis:Int}(h:Head w p C A xs root vis)(hlen:xs.length=A.T.length)(hv0:0≤vis)(hv:vis≤100000000000){k i qa j qb:Nat}{la lb:List Bool}(hS:pB w xs (.pair k (.leaf i qa la) (.leaf j qb lb)))(hO:Own A (.pair k (.leaf i qa la) (.leaf j qb lb)))
  (hf:(TT.leaf i qa la).st.few=true∨((TT.leaf i qa la).st.few=false∧(TT.leaf j qb lb).st.few=true)) (hle:¬la.length+lb.length≤128):
  Calls Tryz.prog 246 #[.pointer (some ⟨p,0,none⟩), .int .i64 k] w fun e w'=>gE w w' p C A xs root vis (.pair k (.leaf i qa la) (.leaf j qb lb)) e:=by
 obtain⟨x,hx,hxl,hxr,hxb,hl,hr⟩:=hS;obtain⟨g,rc,cur,c1,hgp,hCg,_⟩:=h.row (by have :=(ar5.1 hx).1;omega);obtain⟨_,_,hkx,_⟩:=h.node c1 hx;obtain⟨a0,a1,_⟩:=h.eight c1 hx;rw[hxl]at a0;rw[hxr]at a1;change w.cell? ⟨g,k*8,none⟩=some (.int .i64 (i:Int))at a0;change w.cell? ⟨g,k*8+1,none⟩=some (.int .i64 (j:Int))at a1;obtain⟨_,_,cv,fz⟩:=h.cells;have f3:=fz 3;have HF1:Hid (∀n,Calls Tryz.prog 257 #[.pointer (some ⟨p,0,none⟩), .int .i64 i] (w.drewN n) fun e w'=>e= .returned (.bool (TT.leaf i qa la).st.few)∧w.drewN n=w'):=fun n=>
  cG (T:=TT.leaf i qa la) (h.drewN n) (hl.keep (w':=w.drewN n) (fun _ _=>rfl) (fun _ _=>rfl))
 have HF2:Hid (∀n,Calls Tryz.prog 257 #[.pointer (some ⟨p,0,none⟩), .int .i64 j] (w.drewN n) fun e w'=>e= .returned (.bool (TT.leaf j qb lb).st.few)∧w.drewN n=w'):=fun n=>
  cG (T:=TT.leaf j qb lb) (h.drewN n) (hr.keep (w':=w.drewN n) (fun _ _=>rfl) (fun _ _=>rfl))
 have h1:∀n,Head ((w.drewN n).setCell ⟨p,3,none⟩ (.int .i64 (vis+2))) p C A xs root (vis+2):=fun n=>(h.drewN n).set3 _;have g1:∀n,Chg C w ((w.drewN n).setCell ⟨p,3,none⟩ (.int .i64 (vis+2))):=fun n=>(Chg.refl.drewN n).setCell _ (Ei h.self) _;have HL1:Hid (∀n,Sub ((w.drewN n).setCell ⟨p,3,none⟩ (.int .i64 (vis+2))) xs (TT.leaf i qa la)):=fun n=>hl.chgC h (g1 n) (fun _ _=>rfl);have HR1:Hid (∀n,Sub ((w.drewN n).setCell ⟨p,3,none⟩ (.int .i64 (vis+2))) xs (TT.leaf j qb lb)):=fun n=>hr.chgC h (g1 n) (fun _ _=>rfl);have HC1:Hid (∀n,((w.drewN n).setCell ⟨p,3,none⟩ (.int .i64 (vis+2))).cell? ⟨p,1,none⟩=some (.slice (some ⟨g,0,none⟩) xs.length rc)):=fun n=>by
  have :=c1;go_simp
 have H1:=θ h1;have G1:=θ g1;have HO:=θ hO;have HLN:=θ hlen;have HX:Hid (xs[k]? =some x∧x.left=i∧x.right=j∧x.b=none):=⟨hx,hxl,hxr,hxb⟩;obtain⟨_,_,hix,_⟩:=h.node c1 hl.root;obtain⟨_,_,hjx,_⟩:=h.node c1 hr.root;obtain⟨_,_,_,_,_,_,_,b7⟩:=h.eight c1 hl.root;obtain⟨_,_,_,_,_,_,_,d7⟩:=h.eight c1 hr.root;change w.cell? ⟨g,i*8+7,none⟩=some (.pointer (some ⟨qa,0,none⟩))at b7;change w.cell? ⟨g,j*8+7,none⟩=some (.pointer (some ⟨qb,0,none⟩))at d7;change i<xs.length at hix;change j<xs.length at hjx;have hqq:qa≠qb:=by have :=hO.bn;simp[TT.bl]at this;exact this
 have hnn:k≠i∧k≠j∧i≠j:=by have :=hO.nn;simp[TT.nums]at this;exact⟨this.1.1,this.1.2,this.2⟩
 have HNN:=θ hnn;have hmd:cH (TT.pair k (.leaf i qa la) (.leaf j qb lb)).st=lev la lb:=by
  simp only[TT.st,cH];rw[aH8 (by rintro⟨e1,e2⟩;rcases hf with hf | ⟨_,hf⟩<;>simp only[TT.st]at hf<;>simp_all)]
 have HMD:=θ hmd;have hpw:=h.lt p h.self;have hgw:=h.lt g hCg;have HXI:Hid (xs[i]? =some (TT.leaf i qa la).nd):=hl.root;have HXJ:Hid (xs[j]? =some (TT.leaf j qb lb).nd):=hr.root;have HLV:Hid (∀n,Calls Tryz.prog 258 #[.pointer (some ⟨p,0,none⟩), .int .i64 i, .int .i64 j] ((w.drewN n).setCell ⟨p,3,none⟩ (.int .i64 (vis+2))) _):=
  fun n=>rI (h1 n) (HL1.o n) (HR1.o n) hnn.2.2 hqq E
 clear h hlen hO hx hxl hxr hxb hl hr fz h1 g1 hnn hmd hCg hqq;rcases hf with hlf | ⟨hlf,hrf⟩
 case' inl=>
  have HLF:=θ hlf;clear hlf;go_enter aD8,aE2;go_wp2_with fail;go_quiet (fail);obtain⟨n1,rfl⟩:∃n1,n1=nq:=⟨_,rfl⟩;go_wp2_with fail;refine(HF1.o n1).mono ?_;rintro e w' ⟨rfl,rfl⟩;rw[HLF.o];go_wp2_with fail
 case' inr=>
  have HLF:=θ hlf;have HRF:=θ hrf;clear hlf hrf;go_enter aD8,aE2;go_wp2_with fail;go_quiet (fail);obtain⟨n1,rfl⟩:∃n1,n1=nq:=⟨_,rfl⟩;go_wp2_with fail;refine(HF1.o n1).mono ?_;rintro e w' ⟨rfl,rfl⟩;rw[HLF.o];go_wp2_with fail;refine(HF2.o n1).mono ?_;rintro e w' ⟨rfl,rfl⟩;rw[HRF.o];go_wp2_with fail
 all_goals
  refine(HLV.o n1).mono ?_;rintro e w2 ⟨rfl,q1,q2,u1,u2,u3,h2,b1,b2,g2⟩;have H2:=θ h2;have B1:=θ b1;have B2:=θ b2;have G2:=θ g2;have U:Hid (w.heap.size≤q1∧w.heap.size≤q2∧q1≠q2):=⟨aA6 (G1.out n1).size u1,aA6 (G1.out n1).size u2,u3⟩;clear h2 b1 b2 g2 u1 u2 u3;go_wp2_with fail;go_ret;obtain⟨m1,m2,m3⟩:=HNN.o;obtain⟨u1,u2,u3⟩:=U.out;have tk:=HO.o.tk;have g12:Chg (fun b=>C b∨b∈(TT.pair k (.leaf i qa la) (.leaf j qb lb)).bl) w w2:=((G1.out n1).trans G2.out (fun b hb=>Ei hb)).mono (fun b hb=>Ei hb);have hg0:=H2.o;refine⟨.pair k (.leaf i q1 ((la++lb).take ((la.length+lb.length)/2))) (.leaf j q2 ((la++lb).drop ((la.length+lb.length)/2))),C,A,_,_,rfl,H2.o,⟨⟨by simp[TT.nums,m1,m2,m3],by simp[TT.bl,u3],fun b hb=>tk b (by simpa[TT.nums]using hb)⟩,?_,fun b hb=>Ei hb,fun b hb=>?_,fun b e1 e2=>?_,?_,rfl,g12⟩,?_,E,E,⟨x,?_,HX.o.2.1,HX.o.2.2.1,HX.o.2.2.2,⟨?_,B1.out⟩,⟨?_,B2.out⟩⟩,rfl⟩
  ·rw[at4,at4];exact HLN.o
  ·simp[TT.bl]at hb;rcases hb with rfl | rfl
   ·exact Ej u1
   ·exact Ej u2
  ·simp only[TT.nums,av9,av8,ay0,aI5,aI3]at e2;refine⟨by rw[aG e2.2.2,aG e2.2.1],e1,by simp[TT.nums,e2.1,e2.2.1,e2.2.2]⟩
  ·simp only[TT.st,ST.size]
  ·rw[HMD.o];simp only[TT.st,lev];rw[aH8 hle]
  ·rw[aG m2,aG m1];exact HX.o.1
  ·rw[aG m3];exact aS HXI.o
  ·exact aS (x:=(TT.leaf j qb lb).nd) (by rw[aG m3.symm];exact HXJ.o)
theorem Jj{w:World}{p:Nat}{C:Nat→Prop}{A:Ar}{xs:List Nd}{root vis:Int}(h:Head w p C A xs root vis)(hlen:xs.length=A.T.length)(hv0:0≤vis)(hv:vis≤100000000000){k i qa r m qm:Nat}{la lm:List Bool}{c:TT}(hS:pB w xs (.pair k (.leaf i qa la) (.pair r (.leaf m qm lm) c)))(hO:Own A (.pair k (.leaf i qa la) (.pair r (.leaf m qm lm) c)))
  (hf:(TT.leaf i qa la).st.few=true) (hsm:Small (TT.pair r (.leaf m qm lm) c).st) (hle:la.length+lm.length≤128):
  Calls Tryz.prog 246 #[.pointer (some ⟨p,0,none⟩), .int .i64 k] w fun e w'=>gE w w' p C A xs root vis (.pair k (.leaf i qa la) (.pair r (.leaf m qm lm) c)) e:=by
 obtain⟨x,hx,hxl,hxr,hxb,hl,hr⟩:=hS;obtain⟨g,rc,cur,c1,hgp,hCg,_⟩:=h.row (by have :=(ar5.1 hx).1;omega);obtain⟨_,_,hkx,_⟩:=h.node c1 hx;obtain⟨a0,a1,_⟩:=h.eight c1 hx;rw[hxl]at a0;rw[hxr]at a1;change w.cell? ⟨g,k*8,none⟩=some (.int .i64 (i:Int))at a0;change w.cell? ⟨g,k*8+1,none⟩=some (.int .i64 (r:Int))at a1;obtain⟨_,_,cv,fz⟩:=h.cells;have f3:=fz 3;have HF1:Hid (∀n,Calls Tryz.prog 257 #[.pointer (some ⟨p,0,none⟩), .int .i64 i] (w.drewN n) fun e w'=>e= .returned (.bool (TT.leaf i qa la).st.few)∧w.drewN n=w'):=fun n=>
  cG (T:=TT.leaf i qa la) (h.drewN n) (hl.keep (w':=w.drewN n) (fun _ _=>rfl) (fun _ _=>rfl))
 have HF2:Hid (∀n,Calls Tryz.prog 257 #[.pointer (some ⟨p,0,none⟩), .int .i64 r] (w.drewN n) fun e w'=>e= .returned (.bool (TT.pair r (TT.leaf m qm lm) c).st.few)∧w.drewN n=w'):=fun n=>
  cG (T:=TT.pair r (TT.leaf m qm lm) c) (h.drewN n) (hr.keep (w':=w.drewN n) (fun _ _=>rfl) (fun _ _=>rfl))
 have h1:∀n,Head ((w.drewN n).setCell ⟨p,3,none⟩ (.int .i64 (vis+2))) p C A xs root (vis+2):=fun n=>(h.drewN n).set3 _;have g1:∀n,Chg C w ((w.drewN n).setCell ⟨p,3,none⟩ (.int .i64 (vis+2))):=fun n=>(Chg.refl.drewN n).setCell _ (Ei h.self) _;have HL1:Hid (∀n,Sub ((w.drewN n).setCell ⟨p,3,none⟩ (.int .i64 (vis+2))) xs (TT.leaf i qa la)):=fun n=>hl.chgC h (g1 n) (fun _ _=>rfl);have HR1:Hid (∀n,Sub ((w.drewN n).setCell ⟨p,3,none⟩ (.int .i64 (vis+2))) xs (TT.pair r (TT.leaf m qm lm) c)):=fun n=>hr.chgC h (g1 n) (fun _ _=>rfl);have HC1:Hid (∀n,((w.drewN n).setCell ⟨p,3,none⟩ (.int .i64 (vis+2))).cell? ⟨p,1,none⟩=some (.slice (some ⟨g,0,none⟩) xs.length rc)):=fun n=>by
  have :=c1;go_simp
 have H1:=θ h1;have G1:=θ g1;have HO:=θ hO;have HLN:=θ hlen;have HX:Hid (xs[k]? =some x∧x.left=i∧x.right=r∧x.b=none):=⟨hx,hxl,hxr,hxb⟩;obtain⟨_,_,hix,_⟩:=h.node c1 hl.root;obtain⟨_,_,hrx,_⟩:=h.node c1 hr.root;obtain⟨_,_,_,_,_,_,_,b7⟩:=h.eight c1 hl.root;obtain⟨d0,d1,_,_,_,_,_,d7⟩:=h.eight c1 hr.root;change w.cell? ⟨g,i*8+7,none⟩=some (.pointer (some ⟨qa,0,none⟩))at b7;change w.cell? ⟨g,r*8,none⟩=some (.int .i64 (m:Int))at d0;change w.cell? ⟨g,r*8+1,none⟩=some (.int .i64 (c.num:Int))at d1;change w.cell? ⟨g,r*8+7,none⟩=some (.pointer none)at d7;change i<xs.length at hix;change r<xs.length at hrx;have hD:k≠i∧k≠r∧k≠m∧k∉c.nums∧i≠r∧i≠m∧i∉c.nums∧r≠m∧r∉c.nums∧m∉c.nums∧c.nums.Nodup:=by
  obtain⟨e1,e2,_,e4,e5⟩:=TT.dis hO.nn;obtain⟨f1,f2,_,f4,f5⟩:=TT.dis e4;have e5':=e5 i (by simp[TT.nums]);have f5':=f5 m (by simp[TT.nums]);simp only[TT.nums,av9,av8,ay0,aI5,aI3]at e1 e2 e5' f1;exact⟨e1,e2.1,e2.2.1,e2.2.2,e5'.1,e5'.2.1,e5'.2.2,f1,f2,f5',f4⟩
 have hB:qa≠qm∧qa∉c.bl∧qm∉c.bl∧c.bl.Nodup:=by
  have :=hO.bn;simp only[TT.bl,ax6,ax7,ay0,aI2,ax8,and_self,true_and,av9,aI5,av8,forall_eq]at this;refine⟨fun e=>this.2 qm (Ei rfl) e,fun e=>this.2 qa (Ej e) rfl,fun e=>this.1.2 qm e rfl,this.1.1⟩
 have HD:=θ hD;have HBB:=θ hB;have hmd:cH (TT.pair k (.leaf i qa la) (.pair r (.leaf m qm lm) c)).st=(if la.length+lm.length≤128 then .pair (.leaf (la++lm)) c.st else .pair (.leaf ((la++lm).take ((la.length+lm.length)/2))) (.pair (.leaf ((la++lm).drop ((la.length+lm.length)/2))) c.st)):=by
  simp only[TT.st,cH];rw[aH8 (by rintro⟨e1,e2⟩;simp only[TT.st]at hf;rw[hf]at e1;cases e1)]
 have HMD:=θ hmd;have hpw:=h.lt p h.self;have hgw:=h.lt g hCg;have HXI:Hid (xs[i]? =some (TT.leaf i qa la).nd):=hl.root;have HXR:Hid (xs[r]? =some (TT.pair r (.leaf m qm lm) c).nd):=hr.1;have HXM:Hid (xs[m]? =some (TT.leaf m qm lm).nd):=hr.2.1.1;have HFA:Hid (∀n,Calls Tryz.prog 257 #[.pointer (some ⟨p,0,none⟩), .int .i64 i] ((w.drewN n).setCell ⟨p,3,none⟩ (.int .i64 (vis+2))) fun e w'=>e= .returned (.bool true)∧(w.drewN n).setCell ⟨p,3,none⟩ (.int .i64 (vis+2))=w'):=fun n=>by
  have :=cG (T:=TT.leaf i qa la) (h1 n) (HL1.o n);rw[hf]at this;exact this
 have HSM:=θ hsm;have HLF:=θ hf;have HLV:Hid (∀n,Calls Tryz.prog 258 #[.pointer (some ⟨p,0,none⟩), .int .i64 i, .int .i64 m] ((w.drewN n).setCell ⟨p,3,none⟩ (.int .i64 (vis+2))) fun e w'=>e= .returned (.bool false)∧Head w' p C A (xs.set i (TT.leaf i qa (la++lm)).nd) root (vis+2)∧IsBlock w' qa (la++lm)∧Chg (fun b=>C b∨b=qa∨b=qm) ((w.drewN n).setCell ⟨p,3,none⟩ (.int .i64 (vis+2))) w'):=
  fun n=>sR (h1 n) (HL1.o n) (HR1.o n).2.1 hB.1 hle
 clear h hlen hO hx hxl hxr hxb hl hr fz h1 g1 hD hmd hCg hB hf hsm;go_enter aD8,aE2;go_wp2_with fail;go_quiet (fail);obtain⟨n1,rfl⟩:∃n1,n1=nq:=⟨_,rfl⟩;go_wp2_with fail;refine(HF1.o n1).mono ?_;rintro e w' ⟨rfl,rfl⟩;rw[HLF.o];go_wp2_with fail;refine(HFA.o n1).mono ?_;rintro e w' ⟨rfl,rfl⟩;go_wp2_with fail;refine(HLV.o n1).mono ?_;rintro e w2 ⟨rfl,h2,q2,g2⟩;obtain⟨t1,t2,t3,t4,t5,t6,t7,t8,t9,t10,t11⟩:=HD.o;have g12:Chg (fun b=>C b∨b∈(TT.pair k (.leaf i qa la) (.pair r (.leaf m qm lm) c)).bl) w w2:=((G1.out n1).mono (fun b hb=>Ei hb)).trans g2 (fun b hb=>Ei (hb.imp id (fun h=>by rcases h with rfl | rfl<;>simp[TT.bl])));have xr2:(xs.set i (TT.leaf i qa (la++lm)).nd)[r]? =some (TT.pair r (.leaf m qm lm) c).nd:=by rw[aG t5.symm];exact HXR.o
 have xk2:(xs.set i (TT.leaf i qa (la++lm)).nd)[k]? =some x:=by rw[aG t1];exact HX.o.1
 have xi2:(xs.set i (TT.leaf i qa (la++lm)).nd)[i]? =some (TT.leaf i qa (la++lm)).nd:=aS HXI.o;have kp2:∀b:Nat,b≠i→(xs.set i (TT.leaf i qa (la++lm)).nd)[b]? =xs[b]? :=fun b hb=>aG hb;have ln2:(xs.set i (TT.leaf i qa (la++lm)).nd).length=A.T.length:=by rw[at4];exact HLN.o
 have sc2:Sub w2 (xs.set i (TT.leaf i qa (la++lm)).nd) c:=(HR1.o n1).2.2.chg g2 (fun b hb e=>by
  rcases e with e | rfl | rfl
  ·exact(H1.o n1).notBlk ((HR1.o n1).2.2.type hb) e
  ·exact HBB.o.2.1 hb
  ·exact HBB.o.2.2.1 hb) (bC t7)
 generalize xs.set i (TT.leaf i qa (la++lm)).nd=xs2 at *;obtain⟨g3,rc3,cur3,r3,hgp3,_⟩:=h2.row (by have :=(ar5.1 xk2).1;omega);obtain⟨_,fz3,hkx3,_⟩:=h2.node r3 xk2;obtain⟨_,_,hrx3,_⟩:=h2.node r3 xr2;obtain⟨_,e1,_⟩:=h2.eight r3 xk2;obtain⟨_,l1,_⟩:=h2.eight r3 xr2;change w2.cell? ⟨g3,r*8+1,none⟩=some (.int .i64 (c.num:Int))at l1;have z1:=fz3 (k*8+1);obtain⟨nc,hnc⟩:∃n,c.num=n:=⟨_,rfl⟩;rw[hnc]at l1;have hne:¬(r*8+1=k*8+1):=E;obtain⟨h3,c3,r4⟩:=h2.put r3 xk2 (i:=1) (v:= .int .i64 nc) (x':=⟨x.left,nc,x.height,x.n,x.ones,x.ln,x.lones,x.b⟩) E rfl;have c3C:Chg C w2 _:=(c3.mono (fun b e=>by subst e;exact h2.rowC ⟨_,_,r3⟩)).drew;have tk:=HO.o.tk;obtain⟨W3,hW3⟩:∃W3,W3=(w2.setCell ⟨g3,k*8+1,none⟩ (.int .i64 nc)).drew:=⟨_,rfl⟩;rw[←hW3]at c3C;have h3':Head W3 p C A (xs2.set k ⟨x.left,nc,x.height,x.n,x.ones,x.ln,x.lones,x.b⟩) root (vis+2):=by rw[hW3];exact h3.drew
 obtain⟨ap,p0,hfr⟩:=Gx h3' (tk m (by simp[TT.nums])) (tk r (by simp[TT.nums])) t8.symm;have HFR:=θ hfr;have H2:=θ h2;have H3:=θ h3';have Q2:=θ q2;have G12:=θ g12;have C3:=θ c3C;have HW3:=θ hW3;have XX:Hid (xs2[k]? =some x∧xs2[i]? =some (TT.leaf i qa (la++lm)).nd∧(∀b:Nat,b≠i→xs2[b]? =xs[b]?)∧xs2.length=A.T.length∧Sub w2 xs2 c):=⟨xk2,xi2,kp2,ln2,sc2⟩;have HNC:=θ hnc;clear h2 h3 h3' q2 g12 g2 c3 c3C tk t1 t2 t3 t4 t5 t6 t7 t8 t9 t10 t11 hfr xr2 xk2 xi2 kp2 ln2 sc2 fz3 r4 hnc hW3 c1 a0 a1 d0 d1 d7 b7 cv;go_wp2_with fail;refine aE (fun w'=>w'.cell? ⟨p,1,none⟩=some (.slice (some ⟨g3,0,none⟩) xs2.length rc3)∧w'.cell? ⟨g3,r*8+1,none⟩=some (.int .i64 nc)) Ek ?hilj (fun hh=>?_);case hilj=>(refine⟨?_,?_⟩<;>go_simp)
 refine rt 0 hh ?_;refine rt 1 hh ?_;refine rt 2 hh ?_;refine rt 3 hh ?_;refine rt 4 hh ?_;refine rt 5 hh ?_;refine rt 6 hh ?_;refine rt 7 hh ?_;refine rt 8 hh ?_;refine rt 9 hh ?_;refine rt 10 hh ?_;refine rt 11 hh ?_;refine rt 12 hh ?_;refine rt 13 hh ?_;refine rt 14 hh ?_;refine rg 15 fun κ hK=>?_;go_simp;refine hK.out _ _ ?kplj15 (fun hNew=>?_);case kplj15=>(refine⟨?_,?_⟩<;>go_simp)
 clear hK κ hh;have hh:=hNew;clear hNew;try simp only[pt]
 refine rz ?_;clear hh;rw[←HW3.o];go_wp2_with fail;refine HFR.o.mono ?_;rintro e w4 ⟨rfl,C4,h4,s4⟩;have H4:=θ h4;have S4:=θ s4;clear h4 s4;go_wp2_with fail;go_ret;obtain⟨t1,t2,t3,t4,t5,t6,t7,t8,t9,t10,t11⟩:=HD.o;obtain⟨y1,y2,y3,y4,y5⟩:=XX.out;have tk:=HO.o.tk;have g13:=G12.out.trans C3.out (fun b hb=>Ei (Ei hb));have hsz:=g13.size;refine⟨.pair k (.leaf i qa (la++lm)) c,C4,A.fr m r,_,_,rfl,H4.o,⟨⟨?_,?_,fun b hb=>?_⟩,?_,fun b hb=>(S4.out.new b hb).imp id (fun h=>E),fun b hb=>?_,fun b e1 e2=>?_,?_,rfl,g13.trans S4.out.chg (fun b hb=>Ei (Ei hb))⟩,?_,E,E,⟨_,aS y1,HX.o.2.1,by rw[HNC.o],HX.o.2.2.2,⟨?_,?_⟩,?_⟩,by simp[Ar.fr]⟩
 ·simp[TT.nums,t1,t4,t7,t11]
 ·simp[TT.bl,HBB.o.2.1,HBB.o.2.2.2]
 ·have hb':b≠m∧b≠r∧b∈(TT.pair k (.leaf i qa la) (.pair r (.leaf m qm lm) c)).nums:=by
   simp only[TT.nums,av9,av8,ay0,aI5]at hb⊢;rcases hb with rfl | rfl | hb
   ·exact⟨t3,t2,Ei rfl⟩
   ·exact⟨t6,t5,Ej (Ei rfl)⟩
   ·exact⟨fun e=>t10 (e▸hb),fun e=>t9 (e▸hb),Ej (Ej (Ej (Ej hb)))⟩
  rw[Ar.fr_T hb'.1 hb'.2.1];exact tk _ hb'.2.2
 ·rw[at4,y4];simp[Ar.fr]
 ·simp only[TT.bl,av8,av9,ay0,aI5]at hb⊢;rcases hb with hb | hb
  ·exact Ei (Ei hb)
  ·exact Ei (Ej (Ej hb))
 ·simp only[TT.nums,av9,av8,ay0,aI5,aI3]at e2;refine⟨by rw[aG e2.1,y3 b e2.2.1],by rw[Ar.fr_T e2.2.2.2.1 e2.2.2.1];exact e1,by simp only[TT.nums,av9,av8,ay0,aI5,aI3];exact⟨e2.1,e2.2.1,e2.2.2.2.2⟩⟩
 ·have :=Ar.fr_live (H3.o.arOk) (tk m (by simp[TT.nums])) (tk r (by simp[TT.nums])) t8.symm;simp only[TT.st,ST.size];omega
 ·rw[HMD.o,aH9 hle];rfl
 ·rw[aG t1.symm];exact y2
 ·exact(Q2.out.chg C3.out (H2.o.notBlk Q2.out.type)).chg S4.out.chg (H3.o.notBlk (Q2.out.chg C3.out (H2.o.notBlk Q2.out.type)).type)
 ·exact(y5.chgC H2.o C3.out (bC t4)).chgC H3.o S4.out.chg (fun _ _=>rfl)
theorem Hb{w:World}{p:Nat}{C:Nat→Prop}{A:Ar}{xs:List Nd}{root vis:Int}(h:Head w p C A xs root vis)(hlen:xs.length=A.T.length)(hv0:0≤vis)(hv:vis≤100000000000){k i qa r m qm:Nat}{la lm:List Bool}{c:TT}(hS:pB w xs (.pair k (.leaf i qa la) (.pair r (.leaf m qm lm) c)))(hO:Own A (.pair k (.leaf i qa la) (.pair r (.leaf m qm lm) c)))
  (hf:(TT.leaf i qa la).st.few=true) (hsm:Small (TT.pair r (.leaf m qm lm) c).st) (hle:¬la.length+lm.length≤128):
  Calls Tryz.prog 246 #[.pointer (some ⟨p,0,none⟩), .int .i64 k] w fun e w'=>gE w w' p C A xs root vis (.pair k (.leaf i qa la) (.pair r (.leaf m qm lm) c)) e:=by
 obtain⟨x,hx,hxl,hxr,hxb,hl,hr⟩:=hS;obtain⟨g,rc,cur,c1,hgp,hCg,_⟩:=h.row (by have :=(ar5.1 hx).1;omega);obtain⟨_,_,hkx,_⟩:=h.node c1 hx;obtain⟨a0,a1,_⟩:=h.eight c1 hx;rw[hxl]at a0;rw[hxr]at a1;change w.cell? ⟨g,k*8,none⟩=some (.int .i64 (i:Int))at a0;change w.cell? ⟨g,k*8+1,none⟩=some (.int .i64 (r:Int))at a1;obtain⟨_,_,cv,fz⟩:=h.cells;have f3:=fz 3;have HF1:Hid (∀n,Calls Tryz.prog 257 #[.pointer (some ⟨p,0,none⟩), .int .i64 i] (w.drewN n) fun e w'=>e= .returned (.bool (TT.leaf i qa la).st.few)∧w.drewN n=w'):=fun n=>
  cG (T:=TT.leaf i qa la) (h.drewN n) (hl.keep (w':=w.drewN n) (fun _ _=>rfl) (fun _ _=>rfl))
 have HF2:Hid (∀n,Calls Tryz.prog 257 #[.pointer (some ⟨p,0,none⟩), .int .i64 r] (w.drewN n) fun e w'=>e= .returned (.bool (TT.pair r (TT.leaf m qm lm) c).st.few)∧w.drewN n=w'):=fun n=>
  cG (T:=TT.pair r (TT.leaf m qm lm) c) (h.drewN n) (hr.keep (w':=w.drewN n) (fun _ _=>rfl) (fun _ _=>rfl))
 have h1:∀n,Head ((w.drewN n).setCell ⟨p,3,none⟩ (.int .i64 (vis+2))) p C A xs root (vis+2):=fun n=>(h.drewN n).set3 _;have g1:∀n,Chg C w ((w.drewN n).setCell ⟨p,3,none⟩ (.int .i64 (vis+2))):=fun n=>(Chg.refl.drewN n).setCell _ (Ei h.self) _;have HL1:Hid (∀n,Sub ((w.drewN n).setCell ⟨p,3,none⟩ (.int .i64 (vis+2))) xs (TT.leaf i qa la)):=fun n=>hl.chgC h (g1 n) (fun _ _=>rfl);have HR1:Hid (∀n,Sub ((w.drewN n).setCell ⟨p,3,none⟩ (.int .i64 (vis+2))) xs (TT.pair r (TT.leaf m qm lm) c)):=fun n=>hr.chgC h (g1 n) (fun _ _=>rfl);have HC1:Hid (∀n,((w.drewN n).setCell ⟨p,3,none⟩ (.int .i64 (vis+2))).cell? ⟨p,1,none⟩=some (.slice (some ⟨g,0,none⟩) xs.length rc)):=fun n=>by
  have :=c1;go_simp
 have H1:=θ h1;have G1:=θ g1;have HO:=θ hO;have HLN:=θ hlen;have HX:Hid (xs[k]? =some x∧x.left=i∧x.right=r∧x.b=none):=⟨hx,hxl,hxr,hxb⟩;obtain⟨_,_,hix,_⟩:=h.node c1 hl.root;obtain⟨_,_,hrx,_⟩:=h.node c1 hr.root;obtain⟨_,_,_,_,_,_,_,b7⟩:=h.eight c1 hl.root;obtain⟨d0,d1,_,_,_,_,_,d7⟩:=h.eight c1 hr.root;change w.cell? ⟨g,i*8+7,none⟩=some (.pointer (some ⟨qa,0,none⟩))at b7;change w.cell? ⟨g,r*8,none⟩=some (.int .i64 (m:Int))at d0;change w.cell? ⟨g,r*8+1,none⟩=some (.int .i64 (c.num:Int))at d1;change w.cell? ⟨g,r*8+7,none⟩=some (.pointer none)at d7;change i<xs.length at hix;change r<xs.length at hrx;have hD:k≠i∧k≠r∧k≠m∧k∉c.nums∧i≠r∧i≠m∧i∉c.nums∧r≠m∧r∉c.nums∧m∉c.nums∧c.nums.Nodup:=by
  obtain⟨e1,e2,_,e4,e5⟩:=TT.dis hO.nn;obtain⟨f1,f2,_,f4,f5⟩:=TT.dis e4;have e5':=e5 i (by simp[TT.nums]);have f5':=f5 m (by simp[TT.nums]);simp only[TT.nums,av9,av8,ay0,aI5,aI3]at e1 e2 e5' f1;exact⟨e1,e2.1,e2.2.1,e2.2.2,e5'.1,e5'.2.1,e5'.2.2,f1,f2,f5',f4⟩
 have hB:qa≠qm∧qa∉c.bl∧qm∉c.bl∧c.bl.Nodup:=by
  have :=hO.bn;simp only[TT.bl,ax6,ax7,ay0,aI2,ax8,and_self,true_and,av9,aI5,av8,forall_eq]at this;refine⟨fun e=>this.2 qm (Ei rfl) e,fun e=>this.2 qa (Ej e) rfl,fun e=>this.1.2 qm e rfl,this.1.1⟩
 have HD:=θ hD;have HBB:=θ hB;have hmd:cH (TT.pair k (.leaf i qa la) (.pair r (.leaf m qm lm) c)).st=(if la.length+lm.length≤128 then .pair (.leaf (la++lm)) c.st else .pair (.leaf ((la++lm).take ((la.length+lm.length)/2))) (.pair (.leaf ((la++lm).drop ((la.length+lm.length)/2))) c.st)):=by
  simp only[TT.st,cH];rw[aH8 (by rintro⟨e1,e2⟩;simp only[TT.st]at hf;rw[hf]at e1;cases e1)]
 have HMD:=θ hmd;have hpw:=h.lt p h.self;have hgw:=h.lt g hCg;have HXI:Hid (xs[i]? =some (TT.leaf i qa la).nd):=hl.root;have HXR:Hid (xs[r]? =some (TT.pair r (.leaf m qm lm) c).nd):=hr.1;have HXM:Hid (xs[m]? =some (TT.leaf m qm lm).nd):=hr.2.1.1;have HFA:Hid (∀n,Calls Tryz.prog 257 #[.pointer (some ⟨p,0,none⟩), .int .i64 i] ((w.drewN n).setCell ⟨p,3,none⟩ (.int .i64 (vis+2))) fun e w'=>e= .returned (.bool true)∧(w.drewN n).setCell ⟨p,3,none⟩ (.int .i64 (vis+2))=w'):=fun n=>by
  have :=cG (T:=TT.leaf i qa la) (h1 n) (HL1.o n);rw[hf]at this;exact this
 have HSM:=θ hsm;have HLF:=θ hf;have HLV:Hid (∀n,Calls Tryz.prog 258 #[.pointer (some ⟨p,0,none⟩), .int .i64 i, .int .i64 m] ((w.drewN n).setCell ⟨p,3,none⟩ (.int .i64 (vis+2))) _):=
  fun n=>rI (h1 n) (HL1.o n) (HR1.o n).2.1 hD.2.2.2.2.2.1 hB.1 E
 clear h hlen hO hx hxl hxr hxb hl hr fz h1 g1 hD hmd hCg hB hf hsm;go_enter aD8,aE2;go_wp2_with fail;go_quiet (fail);obtain⟨n1,rfl⟩:∃n1,n1=nq:=⟨_,rfl⟩;go_wp2_with fail;refine(HF1.o n1).mono ?_;rintro e w' ⟨rfl,rfl⟩;rw[HLF.o];go_wp2_with fail;refine(HFA.o n1).mono ?_;rintro e w' ⟨rfl,rfl⟩;go_wp2_with fail;refine(HLV.o n1).mono ?_;rintro e w2 ⟨rfl,q1,q2,u1,u2,u3,h2,b1,b2,g2⟩;obtain⟨t1,t2,t3,t4,t5,t6,t7,t8,t9,t10,t11⟩:=HD.o;have hll:((la++lm).take ((la.length+lm.length)/2)).length+((la++lm).drop ((la.length+lm.length)/2)).length=la.length+lm.length:=by simp;omega
 have hsl:la.length≤128∧lm.length≤128:=⟨(HL1.o n1).2.1,(HR1.o n1).2.1.2.1⟩;have hmd:=HMD.o;rw[aH8 hle]at hmd;have HMD2:=θ hmd;generalize (la++lm).take ((la.length+lm.length)/2)=lo at *;generalize (la++lm).drop ((la.length+lm.length)/2)=hi at *;have U:Hid (w.heap.size≤q1∧w.heap.size≤q2∧q1≠q2):=⟨aA6 (G1.out n1).size u1,aA6 (G1.out n1).size u2,u3⟩;have g12:Chg C w w2:=(G1.out n1).trans g2 (fun b hb=>Ei hb);have xr2:((xs.set i (TT.leaf i q1 lo).nd).set m (TT.leaf m q2 hi).nd)[r]? =some (TT.pair r (.leaf m qm lm) c).nd:=by rw[aG t8,aG t5.symm];exact HXR.o
 have xk2:((xs.set i (TT.leaf i q1 lo).nd).set m (TT.leaf m q2 hi).nd)[k]? =some x:=by rw[aG t3,aG t1];exact HX.o.1
 have xi2:((xs.set i (TT.leaf i q1 lo).nd).set m (TT.leaf m q2 hi).nd)[i]? =some (TT.leaf i q1 lo).nd:=by rw[aG t6];exact aS HXI.o
 have xm2:((xs.set i (TT.leaf i q1 lo).nd).set m (TT.leaf m q2 hi).nd)[m]? =some (TT.leaf m q2 hi).nd:=aS (x:=(TT.leaf m qm lm).nd) (by rw[aG t6.symm];exact HXM.o);have kp2:∀b:Nat,b≠i→b≠m→((xs.set i (TT.leaf i q1 lo).nd).set m (TT.leaf m q2 hi).nd)[b]? =xs[b]? :=fun b hb hc=>by rw[aG hc,aG hb]
 have ln2:((xs.set i (TT.leaf i q1 lo).nd).set m (TT.leaf m q2 hi).nd).length=A.T.length:=by rw[at4,at4];exact HLN.o
 have sc2:Sub w2 ((xs.set i (TT.leaf i q1 lo).nd).set m (TT.leaf m q2 hi).nd) c:=(HR1.o n1).2.2.chgC (H1.o n1) g2 (fun b hb=>kp2 b (by rintro rfl;exact t7 hb) (by rintro rfl;exact t10 hb));generalize (xs.set i (TT.leaf i q1 lo).nd).set m (TT.leaf m q2 hi).nd=xs2 at *;have hs2:=HSM.o.r;have HF:=θ (jJ (a:= .leaf m q2 hi) (b:=c) h2 xr2 rfl rfl rfl ⟨xm2,b2⟩ sc2 ⟨by simp only[TT.st,ST.bits];omega,by simp[TT.st,ST.high]⟩ hs2);have H2:=θ h2;have B1:=θ b1;have B2:=θ b2;have G12:=θ g12;have XX:Hid (xs2[k]? =some x∧xs2[i]? =some (TT.leaf i q1 lo).nd∧xs2[m]? =some (TT.leaf m q2 hi).nd∧xs2[r]? =some (TT.pair r (.leaf m qm lm) c).nd∧(∀b:Nat,b≠i→b≠m→xs2[b]? =xs[b]?)∧xs2.length=A.T.length∧Sub w2 xs2 c):=⟨xk2,xi2,xm2,xr2,kp2,ln2,sc2⟩;clear h2 b1 b2 g2 g12 u1 u2 u3 t1 t2 t3 t4 t5 t6 t7 t8 t9 t10 t11 xr2 xk2 xi2 xm2 kp2 ln2 sc2 hmd hll hs2 hsl;go_wp2_with fail;refine HF.o.mono ?_;rintro e w3 ⟨rfl,h3,g3⟩;have H3:=θ h3;have G3:=θ (H2.o.chgRow g3);clear h3 g3;go_wp2_with fail;go_ret;obtain⟨t1,t2,t3,t4,t5,t6,t7,t8,t9,t10,t11⟩:=HD.o;obtain⟨u1,u2,u3⟩:=U.out;obtain⟨y1,y2,y2',y2'',y3,y4,y5⟩:=XX.out;have tk:=HO.o.tk;have cb:∀b∈c.bl,b<w.heap.size:=fun b hb=>by
  have :=((HR1.o n1).2.2.type hb).lt;simpa[World.setCell]using this
 refine⟨.pair k (.leaf i q1 lo) (.pair r (.leaf m q2 hi) c),C,A,_,_,rfl,H3.o,⟨⟨?_,?_,fun b hb=>tk b (by simpa[TT.nums]using hb)⟩,?_,fun b hb=>Ei hb,fun b hb=>?_,fun b e1 e2=>?_,?_,rfl,(G12.out.trans G3.out (fun b hb=>Ei hb)).mono (fun b hb=>Ei hb)⟩,?_,E,E,⟨x,?_,HX.o.2.1,HX.o.2.2.1,HX.o.2.2.2,⟨?_,?_⟩,?_,⟨?_,?_⟩,?_⟩,rfl⟩
 ·simp[TT.nums,t1,t2,t3,t4,t5,t6,t7,t8,t9,t10,t11]
 ·simp[TT.bl,HBB.o.2.2.2,u3];exact⟨fun h=>by have :=cb _ h;omega,fun h=>by have :=cb _ h;omega⟩
 ·rw[at4,y4]
 ·simp only[TT.bl,av8,av9,ay0,aI5]at hb⊢;rcases hb with rfl | rfl | hb
  ·exact Ej u1
  ·exact Ej u2
  ·exact Ei (Ej (Ej hb))
 ·have e2':=e2;simp only[TT.nums,av9,av8,ay0,aI5,aI3]at e2;refine⟨by rw[aG e2.2.2.1,y3 b e2.2.1 e2.2.2.2.1],e1,by simpa[TT.nums]using e2'⟩
 ·simp only[TT.st,ST.size]
 ·exact HMD2.o.symm
 ·rw[aG t2];exact y1
 ·rw[aG t5];exact y2
 ·exact B1.out.chg G3.out (H2.o.notBlk B1.out.type)
 ·exact aS y2''
 ·rw[aG t8.symm];exact y2'
 ·exact B2.out.chg G3.out (H2.o.notBlk B2.out.type)
 ·exact y5.chgC H2.o G3.out (bC t9)
theorem Jk{w:World}{p:Nat}{C:Nat→Prop}{A:Ar}{xs:List Nd}{root vis:Int}(h:Head w p C A xs root vis)(hlen:xs.length=A.T.length)(hv0:0≤vis)(hv:vis≤100000000000){k l m qm j qb:Nat}{lm lb:List Bool}{c:TT}(hS:pB w xs (.pair k (.pair l c (.leaf m qm lm)) (.leaf j qb lb)))(hO:Own A (.pair k (.pair l c (.leaf m qm lm)) (.leaf j qb lb)))
  (hf:(TT.leaf j qb lb).st.few=true) (hsm:Small (TT.pair l c (.leaf m qm lm)).st) (hle:lm.length+lb.length≤128):
  Calls Tryz.prog 246 #[.pointer (some ⟨p,0,none⟩), .int .i64 k] w fun e w'=>gE w w' p C A xs root vis (.pair k (.pair l c (.leaf m qm lm)) (.leaf j qb lb)) e:=by
 obtain⟨x,hx,hxl,hxr,hxb,hl,hr⟩:=hS;obtain⟨g,rc,cur,c1,hgp,hCg,_⟩:=h.row (by have :=(ar5.1 hx).1;omega);obtain⟨_,_,hkx,_⟩:=h.node c1 hx;obtain⟨a0,a1,_⟩:=h.eight c1 hx;rw[hxl]at a0;rw[hxr]at a1;change w.cell? ⟨g,k*8,none⟩=some (.int .i64 (l:Int))at a0;change w.cell? ⟨g,k*8+1,none⟩=some (.int .i64 (j:Int))at a1;obtain⟨_,_,cv,fz⟩:=h.cells;have f3:=fz 3;have HF1:Hid (∀n,Calls Tryz.prog 257 #[.pointer (some ⟨p,0,none⟩), .int .i64 l] (w.drewN n) fun e w'=>e= .returned (.bool (TT.pair l c (TT.leaf m qm lm)).st.few)∧w.drewN n=w'):=fun n=>
  cG (T:=TT.pair l c (TT.leaf m qm lm)) (h.drewN n) (hl.keep (w':=w.drewN n) (fun _ _=>rfl) (fun _ _=>rfl))
 have HF2:Hid (∀n,Calls Tryz.prog 257 #[.pointer (some ⟨p,0,none⟩), .int .i64 j] (w.drewN n) fun e w'=>e= .returned (.bool (TT.leaf j qb lb).st.few)∧w.drewN n=w'):=fun n=>
  cG (T:=TT.leaf j qb lb) (h.drewN n) (hr.keep (w':=w.drewN n) (fun _ _=>rfl) (fun _ _=>rfl))
 have h1:∀n,Head ((w.drewN n).setCell ⟨p,3,none⟩ (.int .i64 (vis+2))) p C A xs root (vis+2):=fun n=>(h.drewN n).set3 _;have g1:∀n,Chg C w ((w.drewN n).setCell ⟨p,3,none⟩ (.int .i64 (vis+2))):=fun n=>(Chg.refl.drewN n).setCell _ (Ei h.self) _;have HL1:Hid (∀n,Sub ((w.drewN n).setCell ⟨p,3,none⟩ (.int .i64 (vis+2))) xs (TT.pair l c (TT.leaf m qm lm))):=fun n=>hl.chgC h (g1 n) (fun _ _=>rfl);have HR1:Hid (∀n,Sub ((w.drewN n).setCell ⟨p,3,none⟩ (.int .i64 (vis+2))) xs (TT.leaf j qb lb)):=fun n=>hr.chgC h (g1 n) (fun _ _=>rfl);have HC1:Hid (∀n,((w.drewN n).setCell ⟨p,3,none⟩ (.int .i64 (vis+2))).cell? ⟨p,1,none⟩=some (.slice (some ⟨g,0,none⟩) xs.length rc)):=fun n=>by
  have :=c1;go_simp
 have H1:=θ h1;have G1:=θ g1;have HO:=θ hO;have HLN:=θ hlen;have HX:Hid (xs[k]? =some x∧x.left=l∧x.right=j∧x.b=none):=⟨hx,hxl,hxr,hxb⟩;obtain⟨_,_,hlx,_⟩:=h.node c1 hl.root;obtain⟨_,_,hjx,_⟩:=h.node c1 hr.root;obtain⟨d0,d1,_,_,_,_,_,d7⟩:=h.eight c1 hl.root;obtain⟨_,_,_,_,_,_,_,b7⟩:=h.eight c1 hr.root;change w.cell? ⟨g,j*8+7,none⟩=some (.pointer (some ⟨qb,0,none⟩))at b7;change w.cell? ⟨g,l*8,none⟩=some (.int .i64 (c.num:Int))at d0;change w.cell? ⟨g,l*8+1,none⟩=some (.int .i64 (m:Int))at d1;change w.cell? ⟨g,l*8+7,none⟩=some (.pointer none)at d7;change l<xs.length at hlx;change j<xs.length at hjx;have hD:k≠l∧k≠m∧k≠j∧k∉c.nums∧l≠m∧l≠j∧l∉c.nums∧m≠j∧m∉c.nums∧j∉c.nums∧c.nums.Nodup:=by
  obtain⟨e1,e2,e3,_,e5⟩:=TT.dis hO.nn;obtain⟨f1,f2,f3,_,f5⟩:=TT.dis e3;have g1:m∉c.nums:=fun h=>f5 m h (by simp[TT.nums]);have g2:j∉(TT.pair l c (.leaf m qm lm)).nums:=fun h=>e5 j h (by simp[TT.nums]);simp only[TT.nums,av9,av8,ay0,aI5,aI3]at e1 e2 f2 g2;exact⟨e1.1,e1.2.2,e2,e1.2.1,f2,fun e=>g2.1 e.symm,f1,fun e=>g2.2.2 e.symm,g1,g2.2.1,f3⟩
 have hB:qm≠qb∧qm∉c.bl∧qb∉c.bl∧c.bl.Nodup:=by
  have :=hO.bn;simp only[TT.bl,ax6,av8,av9,ay0,aI5]at this;obtain⟨⟨z1,_,z2⟩,_,z3⟩:=this;exact⟨fun e=>z3 qm (Ej rfl) qb rfl e,fun e=>z2 qm e qm rfl rfl,fun e=>z3 qb (Ei e) qb rfl rfl,z1⟩
 have HD:=θ hD;have HBB:=θ hB;have hmd:cH (TT.pair k (.pair l c (.leaf m qm lm)) (.leaf j qb lb)).st=(if lm.length+lb.length≤128 then .pair c.st (.leaf (lm++lb))else .pair (.pair c.st (.leaf ((lm++lb).take ((lm.length+lb.length)/2)))) (.leaf ((lm++lb).drop ((lm.length+lb.length)/2)))):=by
  simp only[TT.st,cH];rw[aH8 (by rintro⟨e1,e2⟩;simp only[TT.st]at hf;rw[hf]at e2;cases e2)]
 have HMD:=θ hmd;have hpw:=h.lt p h.self;have hgw:=h.lt g hCg;have HXJ:Hid (xs[j]? =some (TT.leaf j qb lb).nd):=hr.root;have HXL:Hid (xs[l]? =some (TT.pair l c (.leaf m qm lm)).nd):=hl.1;have HXM:Hid (xs[m]? =some (TT.leaf m qm lm).nd):=hl.2.2.1;have HFA:Hid (∀n,Calls Tryz.prog 257 #[.pointer (some ⟨p,0,none⟩), .int .i64 l] ((w.drewN n).setCell ⟨p,3,none⟩ (.int .i64 (vis+2))) fun e w'=>e= .returned (.bool false)∧(w.drewN n).setCell ⟨p,3,none⟩ (.int .i64 (vis+2))=w'):=fun n=>
  cG (T:=TT.pair l c (.leaf m qm lm)) (h1 n) (HL1.o n)
 have HSM:=θ hsm;have HLF:Hid ((TT.pair l c (.leaf m qm lm)).st.few=false):=rfl;have HRF:=θ hf;have HLV:Hid (∀n,Calls Tryz.prog 258 #[.pointer (some ⟨p,0,none⟩), .int .i64 m, .int .i64 j] ((w.drewN n).setCell ⟨p,3,none⟩ (.int .i64 (vis+2))) fun e w'=>e= .returned (.bool false)∧Head w' p C A (xs.set m (TT.leaf m qm (lm++lb)).nd) root (vis+2)∧IsBlock w' qm (lm++lb)∧Chg (fun b=>C b∨b=qm∨b=qb) ((w.drewN n).setCell ⟨p,3,none⟩ (.int .i64 (vis+2))) w'):=
  fun n=>sR (h1 n) (HL1.o n).2.2 (HR1.o n) hB.1 hle
 clear h hlen hO hx hxl hxr hxb hl hr fz h1 g1 hD hmd hCg hB hf hsm;go_enter aD8,aE2;go_wp2_with fail;go_quiet (fail);obtain⟨n1,rfl⟩:∃n1,n1=nq:=⟨_,rfl⟩;go_wp2_with fail;refine(HF1.o n1).mono ?_;rintro e w' ⟨rfl,rfl⟩;rw[HLF.o];go_wp2_with fail;refine(HF2.o n1).mono ?_;rintro e w' ⟨rfl,rfl⟩;rw[HRF.o];go_wp2_with fail;refine(HFA.o n1).mono ?_;rintro e w' ⟨rfl,rfl⟩;go_wp2_with fail;refine(HLV.o n1).mono ?_;rintro e w2 ⟨rfl,h2,q2,g2⟩;obtain⟨t1,t2,t3,t4,t5,t6,t7,t8,t9,t10,t11⟩:=HD.o;have g12:Chg (fun b=>C b∨b∈(TT.pair k (.pair l c (.leaf m qm lm)) (.leaf j qb lb)).bl) w w2:=((G1.out n1).mono (fun b hb=>Ei hb)).trans g2 (fun b hb=>Ei (hb.imp id (fun h=>by rcases h with rfl | rfl<;>simp[TT.bl])));have xl2:(xs.set m (TT.leaf m qm (lm++lb)).nd)[l]? =some (TT.pair l c (.leaf m qm lm)).nd:=by rw[aG t5];exact HXL.o
 have xk2:(xs.set m (TT.leaf m qm (lm++lb)).nd)[k]? =some x:=by rw[aG t2];exact HX.o.1
 have xj2:(xs.set m (TT.leaf m qm (lm++lb)).nd)[j]? =some (TT.leaf j qb lb).nd:=by rw[aG t8.symm];exact HXJ.o
 have xm2:(xs.set m (TT.leaf m qm (lm++lb)).nd)[m]? =some (TT.leaf m qm (lm++lb)).nd:=aS HXM.o;have kp2:∀b:Nat,b≠m→(xs.set m (TT.leaf m qm (lm++lb)).nd)[b]? =xs[b]? :=fun b hb=>aG hb;have ln2:(xs.set m (TT.leaf m qm (lm++lb)).nd).length=A.T.length:=by rw[at4];exact HLN.o
 have sc2:Sub w2 (xs.set m (TT.leaf m qm (lm++lb)).nd) c:=(HL1.o n1).2.1.chg g2 (fun b hb e=>by
  rcases e with e | rfl | rfl
  ·exact(H1.o n1).notBlk ((HL1.o n1).2.1.type hb) e
  ·exact HBB.o.2.1 hb
  ·exact HBB.o.2.2.1 hb) (bC t9)
 generalize xs.set m (TT.leaf m qm (lm++lb)).nd=xs2 at *;obtain⟨g3,rc3,cur3,r3,hgp3,_⟩:=h2.row (by have :=(ar5.1 xk2).1;omega);obtain⟨_,fz3,hkx3,_⟩:=h2.node r3 xk2;obtain⟨_,_,hlx3,_⟩:=h2.node r3 xl2;obtain⟨e0,_⟩:=h2.eight r3 xk2;obtain⟨l0,_⟩:=h2.eight r3 xl2;change w2.cell? ⟨g3,l*8,none⟩=some (.int .i64 (c.num:Int))at l0;have z0:=fz3 (k*8);obtain⟨nc,hnc⟩:∃n,c.num=n:=⟨_,rfl⟩;rw[hnc]at l0;have hne:¬(l*8=k*8):=E;have hne':¬l=k:=fun e=>t1 e.symm;obtain⟨h3,c3,r4⟩:=h2.put r3 xk2 (i:=0) (v:= .int .i64 nc) (x':=⟨nc,x.right,x.height,x.n,x.ones,x.ln,x.lones,x.b⟩) E rfl;have c3C:Chg C w2 _:=(c3.mono (fun b e=>by subst e;exact h2.rowC ⟨_,_,r3⟩)).drew;obtain⟨W3,hW3⟩:∃W3,W3=(w2.setCell ⟨g3,k*8,none⟩ (.int .i64 nc)).drew:=⟨_,rfl⟩;have c3C:Chg C w2 W3:=by rw[hW3];exact c3C
 have h3':Head W3 p C A (xs2.set k ⟨nc,x.right,x.height,x.n,x.ones,x.ln,x.lones,x.b⟩) root (vis+2):=by rw[hW3];exact h3.drew
 have xm3:(xs2.set k ⟨nc,x.right,x.height,x.n,x.ones,x.ln,x.lones,x.b⟩)[m]? =some (TT.leaf m qm (lm++lb)).nd:=by rw[aG t2.symm];exact xm2
 have xj3:(xs2.set k ⟨nc,x.right,x.height,x.n,x.ones,x.ln,x.lones,x.b⟩)[j]? =some (TT.leaf j qb lb).nd:=by rw[aG t3.symm];exact xj2
 have xk3:(xs2.set k ⟨nc,x.right,x.height,x.n,x.ones,x.ln,x.lones,x.b⟩)[k]? =some ⟨nc,x.right,x.height,x.n,x.ones,x.ln,x.lones,x.b⟩:=aS xk2;have kp3:∀b:Nat,b≠m→b≠k→(xs2.set k ⟨nc,x.right,x.height,x.n,x.ones,x.ln,x.lones,x.b⟩)[b]? =xs[b]? :=fun b hb hc=>by rw[aG hc];exact kp2 b hb
 have ln3:(xs2.set k ⟨nc,x.right,x.height,x.n,x.ones,x.ln,x.lones,x.b⟩).length=A.T.length:=by rw[at4];exact ln2
 have sc3:Sub W3 (xs2.set k ⟨nc,x.right,x.height,x.n,x.ones,x.ln,x.lones,x.b⟩) c:=sc2.chgC h2 c3C (bC t4);have qm3:=q2.chg c3C (h2.notBlk q2.type);have HR4:Hid (xs2.length=(xs2.set k ⟨nc,x.right,x.height,x.n,x.ones,x.ln,x.lones,x.b⟩).length):=by rw[at4];rfl
 generalize xs2.set k ⟨nc,x.right,x.height,x.n,x.ones,x.ln,x.lones,x.b⟩=xs3 at *;obtain⟨g4,rc4,cur4,r5,hgp4,_⟩:=h3'.row (by have :=(ar5.1 xj3).1;omega);obtain⟨_,fz4,hjx4,_⟩:=h3'.node r5 xj3;obtain⟨_,_,hmx4,_⟩:=h3'.node r5 xm3;obtain⟨o0,o1,o2,o3,o4,o5,o6,o7⟩:=h3'.eight r5 xj3;obtain⟨p0,p1,p2,p3,p4,p5,p6,p7⟩:=h3'.eight r5 xm3;have y0:=fz4 (j*8);have y1:=fz4 (j*8+1);have y2:=fz4 (j*8+2);have y3:=fz4 (j*8+3);have y4:=fz4 (j*8+4);have y5:=fz4 (j*8+5);have y6:=fz4 (j*8+6);have y7:=fz4 (j*8+7);change W3.cell? ⟨g4,m*8+7,none⟩=some (.pointer (some ⟨qm,0,none⟩))at p7;change W3.cell? ⟨g4,m*8,none⟩=some (.int .i64 (-1))at p0;change W3.cell? ⟨g4,m*8+1,none⟩=some (.int .i64 (-1))at p1;change W3.cell? ⟨g4,m*8+2,none⟩=some (.int .i64 0)at p2;change W3.cell? ⟨g4,m*8+3,none⟩=some (.int .i64 ((lm++lb).length:Int))at p3;change W3.cell? ⟨g4,m*8+4,none⟩=some (.int .i64 ((lm++lb).count true:Int))at p4;change W3.cell? ⟨g4,m*8+5,none⟩=some (.int .i64 0)at p5;change W3.cell? ⟨g4,m*8+6,none⟩=some (.int .i64 0)at p6;change W3.cell? ⟨g4,j*8+7,none⟩=some (.pointer (some ⟨qb,0,none⟩))at o7;have hp8:=h3'.puts8 r5 xj3 (TT.leaf j qm (lm++lb)).nd (pb:=some ⟨qm,0,none⟩) rfl;obtain⟨nl,hnl⟩:∃n:Int,((lm++lb).length:Int)=n:=⟨_,rfl⟩;obtain⟨no,hno⟩:∃n:Int,((lm++lb).count true:Int)=n:=⟨_,rfl⟩;rw[hnl]at p3;rw[hno]at p4;obtain⟨W5,hW5⟩:∃W5,W5=((((((((W3.setCell ⟨g4,j*8,none⟩ (.int .i64 (-1))).setCell ⟨g4,j*8+1,none⟩ (.int .i64 (-1))).setCell ⟨g4,j*8+2,none⟩ (.int .i64 0)).setCell ⟨g4,j*8+3,none⟩ (.int .i64 nl)).setCell ⟨g4,j*8+4,none⟩ (.int .i64 no)).setCell ⟨g4,j*8+5,none⟩ (.int .i64 0)).setCell ⟨g4,j*8+6,none⟩ (.int .i64 0)).setCell ⟨g4,j*8+7,none⟩ (.pointer (some ⟨qm,0,none⟩))).drew:=⟨_,rfl⟩;have hW5':Hid (W5=((((((((W3.setCell ⟨g4,j*8,none⟩ (.int .i64 (TT.leaf j qm (lm++lb)).nd.left)).setCell ⟨g4,j*8+1,none⟩ (.int .i64 (TT.leaf j qm (lm++lb)).nd.right)).setCell ⟨g4,j*8+2,none⟩ (.int .i64 (TT.leaf j qm (lm++lb)).nd.height)).setCell ⟨g4,j*8+3,none⟩ (.int .i64 (TT.leaf j qm (lm++lb)).nd.n)).setCell ⟨g4,j*8+4,none⟩ (.int .i64 (TT.leaf j qm (lm++lb)).nd.ones)).setCell ⟨g4,j*8+5,none⟩ (.int .i64 (TT.leaf j qm (lm++lb)).nd.ln)).setCell ⟨g4,j*8+6,none⟩ (.int .i64 (TT.leaf j qm (lm++lb)).nd.lones)).setCell ⟨g4,j*8+7,none⟩ (.pointer (some ⟨qm,0,none⟩))).drew):=by
  show W5=_;rw[hW5,←hnl,←hno];rfl
 have h5:Head W5 p C A (xs3.set j (TT.leaf j qm (lm++lb)).nd) root (vis+2):=by rw[hW5'.out];exact hp8.1.drew
 have c5:Chg C W3 W5:=by rw[hW5'.out];exact(hp8.2.mono (fun b e=>by subst e;exact h3'.rowC ⟨_,_,r5⟩)).drew
 have tk:=HO.o.tk;obtain⟨ap,ap0,hfr⟩:=Gx h5 (tk m (by simp[TT.nums])) (tk l (by simp[TT.nums])) t5.symm;have hm8:¬m=j:=t8;have HFR:=θ hfr;have H2:=θ h2;have H3:=θ h3';have H5:=θ h5;have G12:=θ g12;have C3:=θ c3C;have C5:=θ c5;have HW3:=θ hW3;have HW5:=θ hW5;have QM3:=θ qm3;have XX:Hid (xs3[k]? =some ⟨nc,x.right,x.height,x.n,x.ones,x.ln,x.lones,x.b⟩∧xs3[j]? =some (TT.leaf j qb lb).nd∧(∀b:Nat,b≠m→b≠k→xs3[b]? =xs[b]?)∧xs3.length=A.T.length∧Sub W3 xs3 c):=⟨xk3,xj3,kp3,ln3,sc3⟩;have HNC:=θ hnc;clear h2 h3 h3' q2 g12 g2 c3 c3C tk t1 t2 t3 t4 t5 t6 t7 t9 t10 t11 t8 hfr xl2 xk2 xj2 xm2 kp2 ln2 sc2 fz3 r4 hnc hW3 hW5 h5 c5 qm3 xm3 xj3 xk3 kp3 ln3 sc3 hp8 hnl hno fz4 c1 a0 a1 d0 d1 d7 b7 cv;go_wp2_with fail;refine aE (fun w'=>w'.cell? ⟨p,1,none⟩=some (.slice (some ⟨g3,0,none⟩) xs2.length rc3)∧w'.cell? ⟨g3,l*8,none⟩=some (.int .i64 nc)) Ek ?hirj (fun hh=>?_);case hirj=>(refine⟨?_,?_⟩<;>go_simp)
 refine rt 0 hh ?_;refine rt 1 hh ?_;refine rt 2 hh ?_;refine rt 3 hh ?_;refine rt 4 hh ?_;refine rt 5 hh ?_;refine rt 6 hh ?_;refine rt 7 hh ?_;refine rt 8 hh ?_;refine rt 9 hh ?_;refine rt 10 hh ?_;refine rt 11 hh ?_;refine rt 12 hh ?_;refine rt 13 hh ?_;refine rt 14 hh ?_;refine rg 15 fun κ hK=>?_;go_simp;refine hK.out _ _ ?kprj15 (fun hNew=>?_);case kprj15=>(refine⟨?_,?_⟩<;>go_simp)
 clear hK κ hh;have hh:=hNew;clear hNew;try simp only[pt]
 refine rz ?_;clear hh;rw[←HW3.o];go_wp2_with fail;refine aE (fun w'=>w'.cell? ⟨p,1,none⟩=some (.slice (some ⟨g4,0,none⟩) xs3.length rc4)∧w'.cell? ⟨g4,m*8,none⟩=some (.int .i64 (-1))∧w'.cell? ⟨g4,m*8+1,none⟩=some (.int .i64 (-1))∧w'.cell? ⟨g4,m*8+2,none⟩=some (.int .i64 0)∧w'.cell? ⟨g4,m*8+3,none⟩=some (.int .i64 nl)∧w'.cell? ⟨g4,m*8+4,none⟩=some (.int .i64 no)∧w'.cell? ⟨g4,m*8+5,none⟩=some (.int .i64 0)∧w'.cell? ⟨g4,m*8+6,none⟩=some (.int .i64 0)∧w'.cell? ⟨g4,m*8+7,none⟩=some (.pointer (some ⟨qm,0,none⟩))) Ek ?hirc (fun hh=>?_);case hirc=>(refine⟨?_,?_,?_,?_,?_,?_,?_,?_,?_⟩<;>go_simp)
 refine rt 0 hh ?_;refine rt 1 hh ?_;refine rt 2 hh ?_;refine rt 3 hh ?_;refine rt 4 hh ?_;refine rt 5 hh ?_;refine rt 6 hh ?_;refine rt 7 hh ?_;refine rt 8 hh ?_;refine rt 9 hh ?_;refine rt 10 hh ?_;refine rt 11 hh ?_;refine rt 12 hh ?_;refine rg 13 fun κ hK=>?_;go_simp;refine hK.out _ _ ?kprc13 (fun hNew=>?_);case kprc13=>(refine⟨?_,?_,?_,?_,?_,?_,?_,?_,?_⟩<;>go_simp)
 clear hK κ hh;have hh:=hNew;clear hNew;try simp only[pt]
 refine rz ?_;clear hh;rw[←HW5.o];go_wp2_with fail;refine HFR.o.mono ?_;rintro e w4 ⟨rfl,C4,h4,s4⟩;have H4:=θ h4;have S4:=θ s4;clear h4 s4;go_wp2_with fail;go_ret;obtain⟨t1,t2,t3,t4,t5,t6,t7,t8,t9,t10,t11⟩:=HD.o;obtain⟨y1,y2,y3,y4,y5⟩:=XX.out;have tk:=HO.o.tk;have g13:=(G12.out.trans C3.out (fun b hb=>Ei (Ei hb))).trans C5.out (fun b hb=>Ei (Ei hb));have hsz:=g13.size;have q5:=QM3.out.chg C5.out (H3.o.notBlk QM3.out.type);refine⟨.pair k c (.leaf j qm (lm++lb)),C4,A.fr m l,_,_,rfl,H4.o,⟨⟨?_,?_,fun b hb=>?_⟩,?_,fun b hb=>(S4.out.new b hb).imp id (fun h=>E),fun b hb=>?_,fun b e1 e2=>?_,?_,rfl,g13.trans S4.out.chg (fun b hb=>Ei (Ei hb))⟩,?_,E,E,⟨_,(aG t3).trans y1,by rw[HNC.o],HX.o.2.2.1,HX.o.2.2.2,?_,⟨?_,?_⟩⟩,by simp[Ar.fr]⟩
 ·simp only[TT.nums,ax7,av8,aI3,ax6,av9,ay0,aI5,aI2,ax8,and_self,and_true,true_and];exact⟨⟨t4,t3⟩,t11,fun a ha b hb e=>by subst hb;subst e;exact t10 ha⟩
 ·simp only[TT.bl,ax6,ax7,av9,ay0,aI5,aI2,ax8,and_self,and_true,true_and];exact⟨HBB.o.2.2.2,fun a ha b hb e=>by subst hb;subst e;exact HBB.o.2.1 ha⟩
 ·have hb':b≠m∧b≠l∧b∈(TT.pair k (.pair l c (.leaf m qm lm)) (.leaf j qb lb)).nums:=by
   simp only[TT.nums,av9,av8,ay0,aI5]at hb⊢;rcases hb with rfl | hb | rfl
   ·exact⟨t2,t1,Ei rfl⟩
   ·exact⟨fun e=>t9 (e▸hb),fun e=>t7 (e▸hb),Ej (Ei (Ej (Ei hb)))⟩
   ·exact⟨t8.symm,t6.symm,Ej (Ej rfl)⟩
  rw[Ar.fr_T hb'.1 hb'.2.1];exact tk _ hb'.2.2
 ·rw[at4,y4];simp[Ar.fr]
 ·simp only[TT.bl,av8,av9,ay0,aI5]at hb⊢;rcases hb with hb | hb
  ·exact Ei (Ei (Ei hb))
  ·exact Ei (Ei (Ej hb))
 ·simp only[TT.nums,av9,av8,ay0,aI5,aI3]at e2;refine⟨by rw[aG e2.2.2,y3 b e2.2.1.2.2 e2.1],by rw[Ar.fr_T e2.2.1.2.2 e2.2.1.1];exact e1,by simp only[TT.nums,av9,av8,ay0,aI5,aI3];exact⟨e2.1,e2.2.1.2.1,e2.2.2⟩⟩
 ·have :=Ar.fr_live (H3.o.arOk) (tk m (by simp[TT.nums])) (tk l (by simp[TT.nums])) t5.symm;simp only[TT.st,ST.size];omega
 ·rw[HMD.o,aH9 hle];rfl
 ·exact(y5.chgC H3.o C5.out (bC t10)).chgC H5.o S4.out.chg (fun _ _=>rfl)
 ·exact aS y2
 ·exact q5.chg S4.out.chg (H5.o.notBlk q5.type)
theorem Hd{w:World}{p:Nat}{C:Nat→Prop}{A:Ar}{xs:List Nd}{root vis:Int}(h:Head w p C A xs root vis)(hlen:xs.length=A.T.length)(hv0:0≤vis)(hv:vis≤100000000000){k l m qm j qb:Nat}{lm lb:List Bool}{c:TT}(hS:pB w xs (.pair k (.pair l c (.leaf m qm lm)) (.leaf j qb lb)))(hO:Own A (.pair k (.pair l c (.leaf m qm lm)) (.leaf j qb lb)))
  (hf:(TT.leaf j qb lb).st.few=true) (hsm:Small (TT.pair l c (.leaf m qm lm)).st) (hle:¬lm.length+lb.length≤128):
  Calls Tryz.prog 246 #[.pointer (some ⟨p,0,none⟩), .int .i64 k] w fun e w'=>gE w w' p C A xs root vis (.pair k (.pair l c (.leaf m qm lm)) (.leaf j qb lb)) e:=by
 obtain⟨x,hx,hxl,hxr,hxb,hl,hr⟩:=hS;obtain⟨g,rc,cur,c1,hgp,hCg,_⟩:=h.row (by have :=(ar5.1 hx).1;omega);obtain⟨_,_,hkx,_⟩:=h.node c1 hx;obtain⟨a0,a1,_⟩:=h.eight c1 hx;rw[hxl]at a0;rw[hxr]at a1;change w.cell? ⟨g,k*8,none⟩=some (.int .i64 (l:Int))at a0;change w.cell? ⟨g,k*8+1,none⟩=some (.int .i64 (j:Int))at a1;obtain⟨_,_,cv,fz⟩:=h.cells;have f3:=fz 3;have HF1:Hid (∀n,Calls Tryz.prog 257 #[.pointer (some ⟨p,0,none⟩), .int .i64 l] (w.drewN n) fun e w'=>e= .returned (.bool (TT.pair l c (TT.leaf m qm lm)).st.few)∧w.drewN n=w'):=fun n=>
  cG (T:=TT.pair l c (TT.leaf m qm lm)) (h.drewN n) (hl.keep (w':=w.drewN n) (fun _ _=>rfl) (fun _ _=>rfl))
 have HF2:Hid (∀n,Calls Tryz.prog 257 #[.pointer (some ⟨p,0,none⟩), .int .i64 j] (w.drewN n) fun e w'=>e= .returned (.bool (TT.leaf j qb lb).st.few)∧w.drewN n=w'):=fun n=>
  cG (T:=TT.leaf j qb lb) (h.drewN n) (hr.keep (w':=w.drewN n) (fun _ _=>rfl) (fun _ _=>rfl))
 have h1:∀n,Head ((w.drewN n).setCell ⟨p,3,none⟩ (.int .i64 (vis+2))) p C A xs root (vis+2):=fun n=>(h.drewN n).set3 _;have g1:∀n,Chg C w ((w.drewN n).setCell ⟨p,3,none⟩ (.int .i64 (vis+2))):=fun n=>(Chg.refl.drewN n).setCell _ (Ei h.self) _;have HL1:Hid (∀n,Sub ((w.drewN n).setCell ⟨p,3,none⟩ (.int .i64 (vis+2))) xs (TT.pair l c (TT.leaf m qm lm))):=fun n=>hl.chgC h (g1 n) (fun _ _=>rfl);have HR1:Hid (∀n,Sub ((w.drewN n).setCell ⟨p,3,none⟩ (.int .i64 (vis+2))) xs (TT.leaf j qb lb)):=fun n=>hr.chgC h (g1 n) (fun _ _=>rfl);have HC1:Hid (∀n,((w.drewN n).setCell ⟨p,3,none⟩ (.int .i64 (vis+2))).cell? ⟨p,1,none⟩=some (.slice (some ⟨g,0,none⟩) xs.length rc)):=fun n=>by
  have :=c1;go_simp
 have H1:=θ h1;have G1:=θ g1;have HO:=θ hO;have HLN:=θ hlen;have HX:Hid (xs[k]? =some x∧x.left=l∧x.right=j∧x.b=none):=⟨hx,hxl,hxr,hxb⟩;obtain⟨_,_,hlx,_⟩:=h.node c1 hl.root;obtain⟨_,_,hjx,_⟩:=h.node c1 hr.root;obtain⟨d0,d1,_,_,_,_,_,d7⟩:=h.eight c1 hl.root;obtain⟨_,_,_,_,_,_,_,b7⟩:=h.eight c1 hr.root;change w.cell? ⟨g,j*8+7,none⟩=some (.pointer (some ⟨qb,0,none⟩))at b7;change w.cell? ⟨g,l*8,none⟩=some (.int .i64 (c.num:Int))at d0;change w.cell? ⟨g,l*8+1,none⟩=some (.int .i64 (m:Int))at d1;change w.cell? ⟨g,l*8+7,none⟩=some (.pointer none)at d7;change l<xs.length at hlx;change j<xs.length at hjx;have hD:k≠l∧k≠m∧k≠j∧k∉c.nums∧l≠m∧l≠j∧l∉c.nums∧m≠j∧m∉c.nums∧j∉c.nums∧c.nums.Nodup:=by
  obtain⟨e1,e2,e3,_,e5⟩:=TT.dis hO.nn;obtain⟨f1,f2,f3,_,f5⟩:=TT.dis e3;have g1:m∉c.nums:=fun h=>f5 m h (by simp[TT.nums]);have g2:j∉(TT.pair l c (.leaf m qm lm)).nums:=fun h=>e5 j h (by simp[TT.nums]);simp only[TT.nums,av9,av8,ay0,aI5,aI3]at e1 e2 f2 g2;exact⟨e1.1,e1.2.2,e2,e1.2.1,f2,fun e=>g2.1 e.symm,f1,fun e=>g2.2.2 e.symm,g1,g2.2.1,f3⟩
 have hB:qm≠qb∧qm∉c.bl∧qb∉c.bl∧c.bl.Nodup:=by
  have :=hO.bn;simp only[TT.bl,ax6,av8,av9,ay0,aI5]at this;obtain⟨⟨z1,_,z2⟩,_,z3⟩:=this;exact⟨fun e=>z3 qm (Ej rfl) qb rfl e,fun e=>z2 qm e qm rfl rfl,fun e=>z3 qb (Ei e) qb rfl rfl,z1⟩
 have HD:=θ hD;have HBB:=θ hB;have hmd:cH (TT.pair k (.pair l c (.leaf m qm lm)) (.leaf j qb lb)).st=(if lm.length+lb.length≤128 then .pair c.st (.leaf (lm++lb))else .pair (.pair c.st (.leaf ((lm++lb).take ((lm.length+lb.length)/2)))) (.leaf ((lm++lb).drop ((lm.length+lb.length)/2)))):=by
  simp only[TT.st,cH];rw[aH8 (by rintro⟨e1,e2⟩;simp only[TT.st]at hf;rw[hf]at e2;cases e2)]
 have HMD:=θ hmd;have hpw:=h.lt p h.self;have hgw:=h.lt g hCg;have HXJ:Hid (xs[j]? =some (TT.leaf j qb lb).nd):=hr.root;have HXL:Hid (xs[l]? =some (TT.pair l c (.leaf m qm lm)).nd):=hl.1;have HXM:Hid (xs[m]? =some (TT.leaf m qm lm).nd):=hl.2.2.1;have HFA:Hid (∀n,Calls Tryz.prog 257 #[.pointer (some ⟨p,0,none⟩), .int .i64 l] ((w.drewN n).setCell ⟨p,3,none⟩ (.int .i64 (vis+2))) fun e w'=>e= .returned (.bool false)∧(w.drewN n).setCell ⟨p,3,none⟩ (.int .i64 (vis+2))=w'):=fun n=>
  cG (T:=TT.pair l c (.leaf m qm lm)) (h1 n) (HL1.o n)
 have HSM:=θ hsm;have HLF:Hid ((TT.pair l c (.leaf m qm lm)).st.few=false):=rfl;have HRF:=θ hf;have HLV:Hid (∀n,Calls Tryz.prog 258 #[.pointer (some ⟨p,0,none⟩), .int .i64 m, .int .i64 j] ((w.drewN n).setCell ⟨p,3,none⟩ (.int .i64 (vis+2))) _):=
  fun n=>rI (h1 n) (HL1.o n).2.2 (HR1.o n) hD.2.2.2.2.2.2.2.1 hB.1 E
 clear h hlen hO hx hxl hxr hxb hl hr fz h1 g1 hD hmd hCg hB hf hsm;go_enter aD8,aE2;go_wp2_with fail;go_quiet (fail);obtain⟨n1,rfl⟩:∃n1,n1=nq:=⟨_,rfl⟩;go_wp2_with fail;refine(HF1.o n1).mono ?_;rintro e w' ⟨rfl,rfl⟩;rw[HLF.o];go_wp2_with fail;refine(HF2.o n1).mono ?_;rintro e w' ⟨rfl,rfl⟩;rw[HRF.o];go_wp2_with fail;refine(HFA.o n1).mono ?_;rintro e w' ⟨rfl,rfl⟩;go_wp2_with fail;refine(HLV.o n1).mono ?_;rintro e w2 ⟨rfl,q1,q2,u1,u2,u3,h2,b1,b2,g2⟩;obtain⟨t1,t2,t3,t4,t5,t6,t7,t8,t9,t10,t11⟩:=HD.o;have hll:((lm++lb).take ((lm.length+lb.length)/2)).length+((lm++lb).drop ((lm.length+lb.length)/2)).length=lm.length+lb.length:=by simp;omega
 have hsl:lm.length≤128∧lb.length≤128:=⟨(HL1.o n1).2.2.2.1,(HR1.o n1).2.1⟩;have hmd:=HMD.o;rw[aH8 hle]at hmd;have HMD2:=θ hmd;generalize (lm++lb).take ((lm.length+lb.length)/2)=lo at *;generalize (lm++lb).drop ((lm.length+lb.length)/2)=hi at *;have U:Hid (w.heap.size≤q1∧w.heap.size≤q2∧q1≠q2):=⟨aA6 (G1.out n1).size u1,aA6 (G1.out n1).size u2,u3⟩;have g12:Chg C w w2:=(G1.out n1).trans g2 (fun b hb=>Ei hb);have xl2:((xs.set m (TT.leaf m q1 lo).nd).set j (TT.leaf j q2 hi).nd)[l]? =some (TT.pair l c (.leaf m qm lm)).nd:=by rw[aG t6,aG t5];exact HXL.o
 have xk2:((xs.set m (TT.leaf m q1 lo).nd).set j (TT.leaf j q2 hi).nd)[k]? =some x:=by rw[aG t3,aG t2];exact HX.o.1
 have xm2:((xs.set m (TT.leaf m q1 lo).nd).set j (TT.leaf j q2 hi).nd)[m]? =some (TT.leaf m q1 lo).nd:=by rw[aG t8];exact aS HXM.o
 have xj2:((xs.set m (TT.leaf m q1 lo).nd).set j (TT.leaf j q2 hi).nd)[j]? =some (TT.leaf j q2 hi).nd:=aS (x:=(TT.leaf j qb lb).nd) (by rw[aG t8.symm];exact HXJ.o);have kp2:∀b:Nat,b≠m→b≠j→((xs.set m (TT.leaf m q1 lo).nd).set j (TT.leaf j q2 hi).nd)[b]? =xs[b]? :=fun b hb hc=>by rw[aG hc,aG hb]
 have ln2:((xs.set m (TT.leaf m q1 lo).nd).set j (TT.leaf j q2 hi).nd).length=A.T.length:=by rw[at4,at4];exact HLN.o
 have sc2:Sub w2 ((xs.set m (TT.leaf m q1 lo).nd).set j (TT.leaf j q2 hi).nd) c:=(HL1.o n1).2.1.chgC (H1.o n1) g2 (fun b hb=>kp2 b (by rintro rfl;exact t9 hb) (by rintro rfl;exact t10 hb));generalize (xs.set m (TT.leaf m q1 lo).nd).set j (TT.leaf j q2 hi).nd=xs2 at *;have hs2:=HSM.o.l;have HF:=θ (jJ (a:=c) (b:= .leaf m q1 lo) h2 xl2 rfl rfl rfl sc2 ⟨xm2,b1⟩ hs2 ⟨by simp only[TT.st,ST.bits];omega,by simp[TT.st,ST.high]⟩);have H2:=θ h2;have B1:=θ b1;have B2:=θ b2;have G12:=θ g12;have XX:Hid (xs2[k]? =some x∧xs2[m]? =some (TT.leaf m q1 lo).nd∧xs2[j]? =some (TT.leaf j q2 hi).nd∧xs2[l]? =some (TT.pair l c (.leaf m qm lm)).nd∧(∀b:Nat,b≠m→b≠j→xs2[b]? =xs[b]?)∧xs2.length=A.T.length∧Sub w2 xs2 c):=⟨xk2,xm2,xj2,xl2,kp2,ln2,sc2⟩;clear h2 b1 b2 g2 g12 u1 u2 u3 t1 t2 t3 t4 t5 t6 t7 t8 t9 t10 t11 xl2 xk2 xm2 xj2 kp2 ln2 sc2 hmd hll hs2 hsl;go_wp2_with fail;refine HF.o.mono ?_;rintro e w3 ⟨rfl,h3,g3⟩;have H3:=θ h3;have G3:=θ (H2.o.chgRow g3);clear h3 g3;go_wp2_with fail;go_ret;obtain⟨t1,t2,t3,t4,t5,t6,t7,t8,t9,t10,t11⟩:=HD.o;obtain⟨u1,u2,u3⟩:=U.out;obtain⟨y1,y2,y2',y2'',y3,y4,y5⟩:=XX.out;have tk:=HO.o.tk;have cb:∀b∈c.bl,b<w.heap.size:=fun b hb=>by
  have :=((HL1.o n1).2.1.type hb).lt;simpa[World.setCell]using this
 refine⟨.pair k (.pair l c (.leaf m q1 lo)) (.leaf j q2 hi),C,A,_,_,rfl,H3.o,⟨⟨HO.o.nn,?_,fun b hb=>tk b (by simpa[TT.nums]using hb)⟩,?_,fun b hb=>Ei hb,fun b hb=>?_,fun b e1 e2=>?_,?_,rfl,(G12.out.trans G3.out (fun b hb=>Ei hb)).mono (fun b hb=>Ei hb)⟩,?_,E,E,⟨x,?_,HX.o.2.1,HX.o.2.2.1,HX.o.2.2.2,⟨?_,?_,⟨?_,?_⟩⟩,⟨?_,?_⟩⟩,rfl⟩
 ·simp only[TT.bl,ax6,ax7,av8,av9,ay0,aI5,aI2,ax8,and_self,and_true,true_and];refine⟨⟨HBB.o.2.2.2,fun a ha b hb e=>by subst hb;subst e;have :=cb _ ha;omega⟩,fun a ha b hb e=>?_⟩;subst hb;subst e;rcases ha with ha | ha
  ·have :=cb _ ha;omega
  ·exact u3 ha.symm
 ·rw[at4,y4]
 ·simp only[TT.bl,av8,av9,ay0,aI5]at hb⊢;rcases hb with (hb | rfl) | rfl
  ·exact Ei (Ei (Ei hb))
  ·exact Ej u1
  ·exact Ej u2
 ·have e2':=e2;simp only[TT.nums,av9,av8,ay0,aI5,aI3]at e2;refine⟨by rw[aG e2.2.1.1,y3 b e2.2.1.2.2 e2.2.2],e1,by simpa[TT.nums]using e2'⟩
 ·simp only[TT.st,ST.size]
 ·exact HMD2.o.symm
 ·rw[aG t1];exact y1
 ·exact aS y2''
 ·exact y5.chgC H2.o G3.out (bC t7)
 ·rw[aG t5.symm];exact y2
 ·exact B1.out.chg G3.out (H2.o.notBlk B1.out.type)
 ·rw[aG t6.symm];exact y2'
 ·exact B2.out.chg G3.out (H2.o.notBlk B2.out.type)
theorem TT.leaf_of_few {T:TT}(h:T.st.few=true):∃k q l,T= .leaf k q l:=by
 cases T with
 | leaf k q l=>exact⟨k,q,l,rfl⟩
 | pair k a b=>simp[TT.st,ST.few]at h
theorem TT.leaf_of_high {T:TT}(h:T.st.high=0):∃k q l,T= .leaf k q l:=by
 cases T with
 | leaf k q l=>exact⟨k,q,l,rfl⟩
 | pair k a b=>simp[TT.st,ST.high]at h
theorem Ci{w:World}{p:Nat}{C:Nat→Prop}{A:Ar}{xs:List Nd}{root vis:Int}(h:Head w p C A xs root vis)(hlen:xs.length=A.T.length)(hv0:0≤vis)(hv:vis≤100000000000){k:Nat}{l r:TT}(hS:pB w xs (.pair k l r))(hO:Own A (.pair k l r))
  (hl:l.st.few=true→r.st.high≤1) (hr:r.st.few=true→l.st.high≤1) (s1:Small l.st) (s2:Small r.st):
  Calls Tryz.prog 246 #[.pointer (some ⟨p,0,none⟩), .int .i64 k] w fun e w'=>gE w w' p C A xs root vis (.pair k l r) e:=by
 cases hlf:l.st.few with
 | true=>
  obtain⟨i,qa,la,rfl⟩:=TT.leaf_of_few hlf;cases r with
  | leaf j qb lb=>
   by_cases hle:la.length+lb.length≤128
   ·exact zA h hlen hv0 hv hS hO (Ei hlf) hle
   ·exact vE h hlen hv0 hv hS hO (Ei hlf) hle
  | pair r' r1 c=>
   have hh:=hl hlf;obtain⟨m,qm,lm,rfl⟩:=TT.leaf_of_high (T:=r1) (by simp only[TT.st,ST.high]at hh;omega);by_cases hle:la.length+lm.length≤128
   ·exact Jj h hlen hv0 hv hS hO hlf s2 hle
   ·exact Hb h hlen hv0 hv hS hO hlf s2 hle
 | false=>
  cases hrf:r.st.few with
  | false=>exact ab3 h hlen hS hO ⟨hlf,hrf⟩
  | true=>
   obtain⟨j,qb,lb,rfl⟩:=TT.leaf_of_few hrf;cases l with
   | leaf i qa la=>
    by_cases hle:la.length+lb.length≤128
    ·exact zA h hlen hv0 hv hS hO (Ej ⟨hlf,hrf⟩) hle
    ·exact vE h hlen hv0 hv hS hO (Ej ⟨hlf,hrf⟩) hle
   | pair l' c r1=>
    have hh:=hr hrf;obtain⟨m,qm,lm,rfl⟩:=TT.leaf_of_high (T:=r1) (by simp only[TT.st,ST.high]at hh;omega);by_cases hle:lm.length+lb.length≤128
    ·exact Jk h hlen hv0 hv hS hO hrf s1 hle
    ·exact Hd h hlen hv0 hv hS hO hrf s1 hle
theorem Ki{x:ST}{k:Nat}(hf:x.Fill)(hk:k<x.bits.length)(h:(dS x k).few=true):x.high=0:=by
 cases x with
 | leaf l=>rfl
 | pair c d=>
  exfalso;cases hd:dS (.pair c d) k with
  | leaf z=>
   have hb:=iY hk;rw[hd]at h hb;simp only[ST.bits]at hb;have hl:=hf.len;have hll:z.length=(ST.pair c d).bits.length-1:=by rw[hb];exact eJ hk
   simp only[ST.leaves,ST.bits]at hl hll;have :=c.leaves_pos;have :=d.leaves_pos;simp only[ST.few,aH2]at h;omega
  | pair e f=>rw[hd]at h;simp[ST.few]at h
theorem SubPre.cat {w w1 w2:World}{C C1 C2:Nat→Prop}{A A1 A2:Ar}{xs xs1 xs2:List Nd}{T T1 T2:TT}(h:SubPre w w1 C A xs T T1 C1 A1 xs1)(g:SubPre w1 w2 C1 A1 xs1 T1 T2 C2 A2 xs2):SubPre w w2 C A xs T T2 C2 A2 xs2:=by
 have hs:=h.chg.size;refine⟨g.own,g.len,fun j hj=>?_,fun q hq=>?_,fun j h1 h2=>?_,by have :=h.live;have :=g.live;omega,g.max.trans h.max,h.chg.trans g.chg (fun j hj=>?_)⟩
 ·rcases g.newC j hj with e | e
  ·exact h.newC j e
  ·exact Ej E
 ·rcases g.newB q hq with e | e
  ·exact h.newB q e
  ·exact Ej E
 ·obtain⟨e1,e2,e3⟩:=h.keep j h1 h2;obtain⟨f1,f2,f3⟩:=g.keep j e2 e3;exact⟨f1.trans e1,f2,f3⟩
 ·rcases hj with e | e
  ·exact(h.newC j e).imp Ei id
  ·exact(h.newB j e).imp Ej id
def vH(w w':World)(p:Nat)(C:Nat→Prop)(A:Ar)(xs:List Nd)(root vis:Int)(T:TT)(k:Nat)(e:Ending):Prop:=
 ∃T' C' A' xs' v',e= .returned (.tuple #[.int .i64 T'.num, .bool (aR T.st.bits k)])∧SubPost w w' p C A xs root vis T T' C' A' xs' v'∧T'.st=dS T.st k∧A'.T.length=A.T.length
theorem Ot{w:World}{p:Nat}{C:Nat→Prop}{A:Ar}{xs:List Nd}{root vis:Int}(h:Head w p C A xs root vis)(hlen:xs.length=A.T.length)(hv0:0≤vis)(hv:vis≤100000000000){kn q:Nat}{l:List Bool}(hS:Sub w xs (.leaf kn q l))
  (hO:Own A (.leaf kn q l)) (k:Nat) (hk:k<l.length):
  Calls Tryz.prog 233 #[.pointer (some ⟨p,0,none⟩), .int .i64 kn, .int .i64 k] w fun e w'=>vH w w' p C A xs root vis (.leaf kn q l) k e:=by
 have hx:=hS.root;change xs[kn]? =some (TT.leaf kn q l).nd at hx;obtain⟨g,rc,cur,c1,hgp,_⟩:=h.row (by have :=(ar5.1 hx).1;omega);obtain⟨_,_,hkx,_⟩:=h.node c1 hx;obtain⟨a0,a1,a2,a3,a4,a5,a6,a7⟩:=h.eight c1 hx;obtain⟨_,_,cv,fz⟩:=h.cells;have f3:=fz 3;have hp:=h.lt p h.self;have hg:=aF8 w _ a0;simp only[TT.nd,eL,aD3]at a0 a1 a2 a3 a4 a5 a6 a7;have hq:=hS.2;have hqC:¬C q:=h.notBlk hq.type;have HW:Hid (∀v o,IsBlock ((w.setCell ⟨p,3,none⟩ v).alloc o) q l):=fun v o=>hq.chg ((Chg.refl.setCell ⟨p,3,none⟩ (Ei h.self) v).alloc o) hqC;have HH3:Hid (∀o,Head ((w.setCell ⟨p,3,none⟩ (.int .i64 (vis+1))).alloc o) p C A xs root (vis+1)):=fun o=>(h.set3 (vis+1)).below (aN _ _);have HG:Hid (∀o,Chg C w ((w.setCell ⟨p,3,none⟩ (.int .i64 (vis+1))).alloc o)):=fun o=>(h.chg3 _ 3).alloc o;have HX:=θ hx;have HQC:=θ hqC;have HO:=θ hO;have HL:=θ hlen;clear h fz hx hS hq hqC hO hlen;go_enter Tryz.func233,Tryz.ntmps233;go_wp2_with fail;refine(Ps (HW.o _ _) k hk).mono ?_;rintro e w3 ⟨rfl,hb3,c3⟩;have h3:=(HH3.o _).chg c3 (fun j hj e=>HQC.o (e▸hj));have g3:Chg (fun j=>C j∨j∈(TT.leaf kn q l).bl) w w3:=((HG.o _).mono (fun j hj=>Ei hj)).trans c3 (fun j e=>Ei (Ej (by simp[TT.bl,e])));have HF:=θ (fP h3 HX.o rfl hb3);have H3:=θ h3;have G3:=θ g3;have HB3:=θ hb3;clear h3 g3 hb3 c3;go_wp2_with fail;refine HF.o.mono ?_;rintro e w4 ⟨rfl,h4,g4⟩;have H4:=θ h4;have G4:=θ g4;clear h4 g4;go_wp2_with fail;go_ret2;refine⟨.leaf kn q (aB l k),C,A,_,_,rfl,⟨H4.o,⟨aS HX.o,?_⟩,⟨HO.o.nn,HO.o.bn,HO.o.tk⟩,?_,fun j hj=>Ei hj,fun j hj=>Ei hj,fun j h1 h2=>⟨?_,h1,h2⟩,rfl,rfl,?_,?_⟩,rfl,rfl⟩
 ·exact HB3.o.chg (H3.o.chgRow G4.out) (H3.o.notBlk HB3.o.type)
 ·rw[at4];exact HL.o
 ·exact aG (by rintro rfl;exact h2 (by simp[TT.nums]))
 ·exact⟨E,by simp only[TT.st,ST.high];omega⟩
 ·exact G3.out.trans (H3.o.chgRow G4.out) (fun j hj=>Ei (Ei hj))
end
end Go.Proofs.YtchinbgemenenaaGreatDoor
