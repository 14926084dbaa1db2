/- Lemmas and contracts under the claims of this seat. No condition. -/
import Derived.Test.YtchinbgemenenaaGreatDoorZs5
namespace Go.Proofs.YtchinbgemenenaaGreatDoor
open Go.Proofs.Tryz
set_option linter.unusedVariables false
set_option linter.unusedSimpArgs false
set_option maxRecDepth 100000
set_option maxHeartbeats 12800000
section
open Go.RowKit
theorem Qv{w:World}{p:Nat}{C:Nat->Prop}{A:Ar}{u:List Nd}{B s:Int}(h:Head w p C A u B s)(X:u.length=A.T.length)(k0:0<=s)(hv:s<=100000000000){k l m f j z:Nat}{d q:List Bool}{c:TT}(hS:rQ w u (.pair k (.pair l c (.leaf m f d)) (.leaf j z q)))(hO:Own A (.pair k (.pair l c (.leaf m f d)) (.leaf j z q)))(hf:(TT.leaf j z q).st.few=true)(c4:Small (TT.pair l c (.leaf m f d)).st)(c0:d.length+q.length<=128):Calls prog 246 #[.pointer p,k] w λe y=>iO w y p C A u B s (.pair k (.pair l c (.leaf m f d)) (.leaf j z q)) e:=by
 obtain⟨x,hx,a8,a9,c6,hl,hr⟩:=hS;obtain⟨g,rc,j2,U,j3,b8,_⟩:=h.row (by have :=(aO2.1 hx).1;omega);obtain⟨_,_,j5,_⟩:=h.node U hx;obtain⟨a0,a1,_⟩:=h.eight U hx;rw[a8]at a0;rw[a9]at a1;change w.cell? (g,k*8)=some (.int .i64 (l:Int))at a0;change w.cell? (g,k*8+1)=some (.int .i64 (j:Int))at a1;obtain⟨_,_,cv,fz⟩:=h.cells;have f3:=fz 3;have e6:Hid (∀n,Calls prog 257 #[.pointer p,l] (w.drewN n) λe y=>e= .returned (.bool (TT.pair l c (TT.leaf m f d)).st.few)/\w.drewN n=y):=λn=>
  cV (T:=TT.pair l c (TT.leaf m f d)) (h.drewN n) (hl.keep (w':=w.drewN n) (λ_ _=>rfl) (λ_ _=>rfl))
 have e7:Hid (∀n,Calls prog 257 #[.pointer p,j] (w.drewN n) λe y=>e= .returned (.bool (TT.leaf j z q).st.few)/\w.drewN n=y):=λn=>
  cV (T:=TT.leaf j z q) (h.drewN n) (hr.keep (w':=w.drewN n) (λ_ _=>rfl) (λ_ _=>rfl))
 have h1:∀n,Head ((w.drewN n).setCell (p,3) (s+2:Int)) p C A u B (s+2):=λn=>(h.drewN n).set3 _;have g1:∀n,Chg C w ((w.drewN n).setCell (p,3) (s+2:Int)):=λn=>(Chg.refl.drewN n).setCell _ (Ei h.self) _;have Q:Hid (∀n,Sub ((w.drewN n).setCell (p,3) (s+2:Int)) u (TT.pair l c (TT.leaf m f d))):=λn=>hl.chgC h (g1 n) (λ_ _=>rfl);have f9:Hid (∀n,Sub ((w.drewN n).setCell (p,3) (s+2:Int)) u (TT.leaf j z q)):=λn=>hr.chgC h (g1 n) (λ_ _=>rfl);have i8:Hid (∀n,((w.drewN n).setCell (p,3) (s+2:Int)).cell? (p,1)=some (.slice g u.length rc)):=λn=>by
  have :=U;go_simp
 have H1:=θ h1;have G1:=θ g1;have HO:=θ hO;have f4:=θ X;have HX:Hid (u[k]? =some x/\x.left=l/\x.right=j/\x.b=none):=⟨hx,a8,a9,c6⟩;obtain⟨_,_,h6,_⟩:=h.node U hl.root;obtain⟨_,_,h0,_⟩:=h.node U hr.root;obtain⟨d0,d1,_,_,_,_,_,d7⟩:=h.eight U hl.root;obtain⟨_,_,_,_,_,_,_,b7⟩:=h.eight U hr.root;change w.cell? (g,j*8+7)=some (.pointer z)at b7;change w.cell? (g,l*8)=some (.int .i64 (c.num:Int))at d0;change w.cell? (g,l*8+1)=some (.int .i64 (m:Int))at d1;change w.cell? (g,l*8+7)=some (.pointer none)at d7;change l<u.length at h6;change j<u.length at h0;have hD:k≠l/\k≠m/\k≠j/\k∉c.nums/\l≠m/\l≠j/\l∉c.nums/\m≠j/\m∉c.nums/\j∉c.nums/\c.nums.Nodup:=by
  obtain⟨Z,J,e3,_,e5⟩:=TT.dis hO.nn;obtain⟨f1,f2,f3,_,f5⟩:=TT.dis e3;have g1:m∉c.nums:=λh=>f5 m h (by simp[TT.nums]);have V:j∉(TT.pair l c (.leaf m f d)).nums:=λh=>e5 j h (by simp[TT.nums]);simp only[TT.nums,aR1,aR0,aS5,bd7,bd5]at Z J f2 V;exact⟨Z.1,Z.2.2,J,Z.2.1,f2,λe=>V.1 e.symm,f1,λe=>V.2.2 e.symm,g1,V.2.1,f3⟩
 have hB:f≠z/\f∉c.bl/\z∉c.bl/\c.bl.Nodup:=by
  have :=hO.bn;simp only[TT.bl,aS1,aR0,aR1,aS5,bd7]at this;obtain⟨⟨z1,_,z2⟩,_,z3⟩:=this;exact⟨λe=>z3 f (Ej rfl) z rfl e,λe=>z2 f e f rfl rfl,λe=>z3 z (Ei e) z rfl rfl,z1⟩
 have HD:=θ hD;have P:=θ hB;have c2:cX (TT.pair k (.pair l c (.leaf m f d)) (.leaf j z q)).st=(if d.length+q.length<=128 then .pair c.st (.leaf (d++q))else .pair (.pair c.st (.leaf ((d++q).take ((d.length+q.length)/2)))) (.leaf ((d++q).drop ((d.length+q.length)/2)))):=by
  simp only[TT.st,cX];rw[bc9 (by rintro⟨Z,J⟩;simp only[TT.st]at hf;rw[hf]at J;cases J)]
 have f7:=θ c2;have j8:=h.lt p h.self;have j4:=h.lt g b8;have g7:Hid (u[j]? =some (TT.leaf j z q).nd):=hr.root;have g8:Hid (u[l]? =some (TT.pair l c (.leaf m f d)).nd):=hl.1;have g9:Hid (u[m]? =some (TT.leaf m f d).nd):=hl.2.2.1;have e8:Hid (∀n,Calls prog 257 #[.pointer p,l] ((w.drewN n).setCell (p,3) (s+2:Int)) λe y=>e= .returned (.bool false)/\(w.drewN n).setCell (p,3) (s+2:Int)=y):=λn=>
  cV (T:=TT.pair l c (.leaf m f d)) (h1 n) (Q.o n)
 have j0:=θ c4;have f0:Hid ((TT.pair l c (.leaf m f d)).st.few=false):=rfl;have g0:=θ hf;have f6:Hid (∀n,Calls prog 258 #[.pointer p,m,j] ((w.drewN n).setCell (p,3) (s+2:Int)) λe y=>e= .returned (.bool false)/\Head y p C A (u.set m (TT.leaf m f (d++q)).nd) B (s+2)/\IsBlock y f (d++q)/\Chg (λb=>C b\/b=f\/b=z) ((w.drewN n).setCell (p,3) (s+2:Int)) y):=
  λn=>yC (h1 n) (Q.o n).2.2 (f9.o n) hB.1 c0
 clear h X hO hx a8 a9 c6 hl hr fz h1 g1 hD c2 b8 hB hf c4;go_in;go_wp2;go_quiet (fail);obtain⟨Y,rfl⟩:=Ez nq;go_wp2_with fail;refine Cq (e6.o Y) ?_;rw[f0.o];go_wp2_with fail;refine Cq (e7.o Y) ?_;rw[g0.o];go_wp2_with fail;refine Cq (e8.o Y) ?_;go_wp2_with fail;refine(f6.o Y).mono ?_;rintro e w2 ⟨rfl,O,q2,V⟩;obtain⟨t1,t2,t3,t4,t5,t6,t7,t8,t9,S,b0⟩:=HD.o;have b5:Chg (λb=>C b\/b∈(TT.pair k (.pair l c (.leaf m f d)) (.leaf j z q)).bl) w w2:=((G1.out Y).mono (λb r=>Ei r)).trans V (λb r=>Ei (r.imp id (λh=>by rcases h with rfl | rfl<;>simp[TT.bl])));have b1:(u.set m (TT.leaf m f (d++q)).nd)[l]? =some (TT.pair l c (.leaf m f d)).nd:=by rw[aH t5];exact g8.o
 have N:(u.set m (TT.leaf m f (d++q)).nd)[k]? =some x:=by rw[aH t2];exact HX.o.1
 have d6:(u.set m (TT.leaf m f (d++q)).nd)[j]? =some (TT.leaf j z q).nd:=by rw[aH t8.symm];exact g7.o
 have d9:(u.set m (TT.leaf m f (d++q)).nd)[m]? =some (TT.leaf m f (d++q)).nd:=aY g9.o;have c7:∀b:Nat,b≠m->(u.set m (TT.leaf m f (d++q)).nd)[b]? =u[b]? :=λb r=>aH r;have c9:(u.set m (TT.leaf m f (d++q)).nd).length=A.T.length:=by rw[aQ0];exact f4.o
 have d4:Sub w2 (u.set m (TT.leaf m f (d++q)).nd) c:=(Q.o Y).2.1.chg V (λb r e=>by
  rcases e with e | rfl | rfl
  ·exact(H1.o Y).notBlk ((Q.o Y).2.1.type r) e
  ·exact P.o.2.1 r
  ·exact P.o.2.2.1 r) (bK t9)
 generalize u.set m (TT.leaf m f (d++q)).nd=xs2 at *;obtain⟨g3,h7,h9,r3,i1,_⟩:=O.row (by have :=(aO2.1 N).1;omega);obtain⟨_,b4,i4,_⟩:=O.node r3 N;obtain⟨_,_,i5,_⟩:=O.node r3 b1;obtain⟨e0,_⟩:=O.eight r3 N;obtain⟨l0,_⟩:=O.eight r3 b1;change w2.cell? (g3,l*8)=some (.int .i64 (c.num:Int))at l0;have z0:=b4 (k*8);obtain⟨K,a4⟩:=Ey c.num;rw[a4]at l0;have j7:¬(l*8=k*8):=E;have i7:¬l=k:=λe=>t1 e.symm;obtain⟨h3,c3,r4⟩:=O.put r3 N (i:=0) (v:= .int .i64 K) (x':=⟨K,x.right,x.height,x.n,x.ones,x.ln,x.lones,x.b⟩) E rfl;have L:Chg C w2 _:=(c3.mono (λb e=>by subst e;exact O.rowC ⟨_,_,r3⟩)).drew;obtain⟨G,R⟩:∃G,G=(w2.setCell (g3,k*8) K).drew:=⟨_,rfl⟩;have L:Chg C w2 G:=by rw[R];exact L
 have F:Head G p C A (xs2.set k ⟨K,x.right,x.height,x.n,x.ones,x.ln,x.lones,x.b⟩) B (s+2):=by rw[R];exact h3.drew
 have b2:(xs2.set k ⟨K,x.right,x.height,x.n,x.ones,x.ln,x.lones,x.b⟩)[m]? =some (TT.leaf m f (d++q)).nd:=by rw[aH t2.symm];exact d9
 have M:(xs2.set k ⟨K,x.right,x.height,x.n,x.ones,x.ln,x.lones,x.b⟩)[j]? =some (TT.leaf j z q).nd:=by rw[aH t3.symm];exact d6
 have d8:(xs2.set k ⟨K,x.right,x.height,x.n,x.ones,x.ln,x.lones,x.b⟩)[k]? =some ⟨K,x.right,x.height,x.n,x.ones,x.ln,x.lones,x.b⟩:=aY N;have c8:∀b:Nat,b≠m->b≠k->(xs2.set k ⟨K,x.right,x.height,x.n,x.ones,x.ln,x.lones,x.b⟩)[b]? =u[b]? :=λb r hc=>by rw[aH hc];exact c7 b r
 have d2:(xs2.set k ⟨K,x.right,x.height,x.n,x.ones,x.ln,x.lones,x.b⟩).length=A.T.length:=by rw[aQ0];exact c9
 have d5:Sub G (xs2.set k ⟨K,x.right,x.height,x.n,x.ones,x.ln,x.lones,x.b⟩) c:=d4.chgC O L (bK t4);have d3:=q2.chg L (O.notBlk q2.type);have i9:Hid (xs2.length=(xs2.set k ⟨K,x.right,x.height,x.n,x.ones,x.ln,x.lones,x.b⟩).length):=by rw[aQ0];rfl
 generalize xs2.set k ⟨K,x.right,x.height,x.n,x.ones,x.ln,x.lones,x.b⟩=xs3 at *;obtain⟨t,h8,i0,r5,i2,_⟩:=F.row (by have :=(aO2.1 M).1;omega);obtain⟨_,D,i3,_⟩:=F.node r5 M;obtain⟨_,_,i6,_⟩:=F.node r5 b2;obtain⟨o0,o1,o2,o3,o4,o5,o6,o7⟩:=F.eight r5 M;obtain⟨p0,p1,p2,p3,p4,p5,p6,p7⟩:=F.eight r5 b2;have y0:=D (j*8);have y1:=D (j*8+1);have y2:=D (j*8+2);have y3:=D (j*8+3);have y4:=D (j*8+4);have y5:=D (j*8+5);have y6:=D (j*8+6);have y7:=D (j*8+7);change G.cell? (t,m*8+7)=some (.pointer f)at p7;change G.cell? (t,m*8)=some (.int .i64 (-1))at p0;change G.cell? (t,m*8+1)=some (.int .i64 (-1))at p1;change G.cell? (t,m*8+2)=some (.int .i64 0)at p2;change G.cell? (t,m*8+3)=some (.int .i64 ((d++q).length:Int))at p3;change G.cell? (t,m*8+4)=some (.int .i64 ((d++q).count true:Int))at p4;change G.cell? (t,m*8+5)=some (.int .i64 0)at p5;change G.cell? (t,m*8+6)=some (.int .i64 0)at p6;change G.cell? (t,j*8+7)=some (.pointer z)at o7;have a7:=F.puts8 r5 M (TT.leaf j f (d++q)).nd (pb:=some ⟨f,0,none⟩) rfl;obtain⟨nl,a5⟩:∃n:Int,((d++q).length:Int)=n:=⟨_,rfl⟩;obtain⟨no,a6⟩:∃n:Int,((d++q).count true:Int)=n:=⟨_,rfl⟩;rw[a5]at p3;rw[a6]at p4;obtain⟨W5,a2⟩:∃W5,W5=((((((((G.setCell (t,j*8) (-1:Int)).setCell (t,j*8+1) (-1:Int)).setCell (t,j*8+2) (.int .i64 0)).setCell (t,j*8+3) nl).setCell (t,j*8+4) no).setCell (t,j*8+5) (.int .i64 0)).setCell (t,j*8+6) (.int .i64 0)).setCell (t,j*8+7) (.pointer f)).drew:=⟨_,rfl⟩;have W:Hid (W5=((((((((G.setCell (t,j*8) (.int .i64 (TT.leaf j f (d++q)).nd.left)).setCell (t,j*8+1) (.int .i64 (TT.leaf j f (d++q)).nd.right)).setCell (t,j*8+2) (.int .i64 (TT.leaf j f (d++q)).nd.height)).setCell (t,j*8+3) (.int .i64 (TT.leaf j f (d++q)).nd.n)).setCell (t,j*8+4) (.int .i64 (TT.leaf j f (d++q)).nd.ones)).setCell (t,j*8+5) (.int .i64 (TT.leaf j f (d++q)).nd.ln)).setCell (t,j*8+6) (.int .i64 (TT.leaf j f (d++q)).nd.lones)).setCell (t,j*8+7) (.pointer f)).drew):=by
  show W5=_;rw[a2,<-a5,<-a6];rfl
 have h5:Head W5 p C A (xs3.set j (TT.leaf j f (d++q)).nd) B (s+2):=by rw[W.out];exact a7.1.drew
 have c5:Chg C G W5:=by rw[W.out];exact(a7.2.mono (λb e=>by subst e;exact F.rowC ⟨_,_,r5⟩)).drew
 have tk:=HO.o.tk;obtain⟨ap,j1,b9⟩:=Nt h5 (tk m (by simp[TT.nums])) (tk l (by simp[TT.nums])) t5.symm;have j6:¬m=j:=t8;have e9:=θ b9;have H2:=θ O;have H3:=θ F;have H5:=θ h5;have e4:=θ b5;have C3:=θ L;have C5:=θ c5;have g5:=θ R;have g6:=θ a2;have b3:=θ d3;have XX:Hid (xs3[k]? =some ⟨K,x.right,x.height,x.n,x.ones,x.ln,x.lones,x.b⟩/\xs3[j]? =some (TT.leaf j z q).nd/\(∀b:Nat,b≠m->b≠k->xs3[b]? =u[b]?)/\xs3.length=A.T.length/\Sub G xs3 c):=⟨d8,M,c8,d2,d5⟩;have f8:=θ a4;clear O h3 F q2 b5 V c3 L tk t1 t2 t3 t4 t5 t6 t7 t9 S b0 t8 b9 b1 N d6 d9 c7 c9 d4 b4 r4 a4 R a2 h5 c5 d3 b2 M d8 c8 d2 d5 a7 a5 a6 D U a0 a1 d0 d1 d7 b7 cv;go_wp2_with fail;refine aG (λy=>y.cell? (p,1)=some (.slice g3 xs2.length h7)/\y.cell? (g3,l*8)=K) Ek ?hirj (λI=>?_);case hirj=>(refine⟨?_,?_⟩<;>go_simp)
 refine rV 0 1 2 3 I ?_;refine rV 4 5 6 7 I ?_;refine rV 8 9 10 11 I ?_;refine rU 12 13 I ?_;refine rt 14 I ?_;refine rg 15 λκ hK=>?_;go_simp;refine hK.out _ _ ?kprj15 (λH=>?_);case kprj15=>(refine⟨?_,?_⟩<;>go_simp)
 clear hK κ I;have I:=H;clear H;try simp only[pt]
 refine rz ?_;clear I;rw[<-g5.o];go_wp2_with fail;refine aG (λy=>y.cell? (p,1)=some (.slice t xs3.length h8)/\y.cell? (t,m*8)=some (.int .i64 (-1))/\y.cell? (t,m*8+1)=some (.int .i64 (-1))/\y.cell? (t,m*8+2)=some (.int .i64 0)/\y.cell? (t,m*8+3)=nl/\y.cell? (t,m*8+4)=no/\y.cell? (t,m*8+5)=some (.int .i64 0)/\y.cell? (t,m*8+6)=some (.int .i64 0)/\y.cell? (t,m*8+7)=some (.pointer f)) Ek ?hirc (λI=>?_);case hirc=>(refine⟨?_,?_,?_,?_,?_,?_,?_,?_,?_⟩<;>go_simp)
 refine rV 0 1 2 3 I ?_;refine rV 4 5 6 7 I ?_;refine rV 8 9 10 11 I ?_;refine rt 12 I ?_;refine rg 13 λκ hK=>?_;go_simp;refine hK.out _ _ ?kprc13 (λH=>?_);case kprc13=>(refine⟨?_,?_,?_,?_,?_,?_,?_,?_,?_⟩<;>go_simp)
 clear hK κ I;have I:=H;clear H;try simp only[pt]
 refine rz ?_;clear I;rw[<-g6.o];go_wp2_with fail;refine e9.o.mono ?_;rintro e w4 ⟨rfl,C4,h4,s4⟩;have H4:=θ h4;have S4:=θ s4;clear h4 s4;go_wp2;go_ret;obtain⟨t1,t2,t3,t4,t5,t6,t7,t8,t9,S,b0⟩:=HD.o;obtain⟨y1,y2,y3,y4,y5⟩:=XX.out;have tk:=HO.o.tk;have b6:=(e4.out.trans C3.out (λb r=>Ei (Ei r))).trans C5.out (λb r=>Ei (Ei r));have j9:=b6.size;have q5:=b3.out.chg C5.out (H3.o.notBlk b3.out.type);refine⟨.pair k c (.leaf j f (d++q)),C4,A.fr m l,_,_,rfl,H4.o,⟨⟨?_,?_,λb r=>?_⟩,?_,λb r=>(S4.out.new b r).imp id (λh=>E),λb r=>?_,λb Z J=>?_,?_,rfl,b6.trans S4.out.chg (λb r=>Ei (Ei r))⟩,?_,E,E,⟨_,(aH t3).trans y1,by rw[f8.o],HX.o.2.2.1,HX.o.2.2.2,?_,⟨?_,?_⟩⟩,by simp[Ar.fr]⟩
 ·simp only[TT.nums,aS2,aR0,bd5,aS1,aR1,aS5,bd7,bd4,aS3,and_self,bb4,true_and];exact⟨⟨t4,t3⟩,b0,λa ha b r e=>by subst r;subst e;exact S ha⟩
 ·simp only[TT.bl,aS1,aS2,aR1,aS5,bd7,bd4,aS3,and_self,bb4,true_and];exact⟨P.o.2.2.2,λa ha b r e=>by subst r;subst e;exact P.o.2.1 ha⟩
 ·have a3:b≠m/\b≠l/\b∈(TT.pair k (.pair l c (.leaf m f d)) (.leaf j z q)).nums:=by
   simp only[TT.nums,aR1,aR0,aS5,bd7]at r⊢;rcases r with rfl | r | rfl
   ·exact⟨t2,t1,Ei rfl⟩
   ·exact⟨λe=>t9 (e▸r),λe=>t7 (e▸r),Ej (Ei (Ej (Ei r)))⟩
   ·exact⟨t8.symm,t6.symm,Ej (Ej rfl)⟩
  rw[Ar.fr_T a3.1 a3.2.1];exact tk _ a3.2.2
 ·rw[aQ0,y4];simp[Ar.fr]
 ·simp only[TT.bl,aR0,aR1,aS5,bd7]at r⊢;rcases r with r | r
  ·exact Ei (Ei (Ei r))
  ·exact Ei (Ei (Ej r))
 ·simp only[TT.nums,aR1,aR0,aS5,bd7,bd5]at J;refine⟨by rw[aH J.2.2,y3 b J.2.1.2.2 J.1],by rw[Ar.fr_T J.2.1.2.2 J.2.1.1];exact Z,by simp only[TT.nums,aR1,aR0,aS5,bd7,bd5];exact⟨J.1,J.2.1.2.1,J.2.2⟩⟩
 ·have :=Ar.fr_live (H3.o.arOk) (tk m (by simp[TT.nums])) (tk l (by simp[TT.nums])) t5.symm;simp only[TT.st,ST.size];omega
 ·rw[f7.o,bd0 c0];rfl
 ·exact(y5.chgC H3.o C5.out (bK S)).chgC H5.o S4.out.chg (λ_ _=>rfl)
 ·exact aY y2
 ·exact q5.chg S4.out.chg (H5.o.notBlk q5.type)
theorem Oa{w:World}{p:Nat}{C:Nat->Prop}{A:Ar}{r:List Nd}{F i:Int}(h:Head w p C A r F i)(H:r.length=A.T.length)(f0:0<=i)(hv:i<=100000000000){k l m s j t:Nat}{d f:List Bool}{c:TT}(hS:rQ w r (.pair k (.pair l c (.leaf m s d)) (.leaf j t f)))(hO:Own A (.pair k (.pair l c (.leaf m s d)) (.leaf j t f)))(hf:(TT.leaf j t f).st.few=true)(a5:Small (TT.pair l c (.leaf m s d)).st)(d4:¬d.length+f.length<=128):Calls prog 246 #[.pointer p,k] w λe R=>iO w R p C A r F i (.pair k (.pair l c (.leaf m s d)) (.leaf j t f)) e:=by
 obtain⟨x,hx,M,N,a6,L,X⟩:=hS;obtain⟨g,rc,e4,I,e6,a3,_⟩:=h.row (by have :=(aO2.1 hx).1;omega);obtain⟨_,_,e8,_⟩:=h.node I hx;obtain⟨a0,a1,_⟩:=h.eight I hx;rw[M]at a0;rw[N]at a1;change w.cell? (g,k*8)=some (.int .i64 (l:Int))at a0;change w.cell? (g,k*8+1)=some (.int .i64 (j:Int))at a1;obtain⟨_,_,cv,fz⟩:=h.cells;have f3:=fz 3;have b6:Hid (∀n,Calls prog 257 #[.pointer p,l] (w.drewN n) λe R=>e= .returned (.bool (TT.pair l c (TT.leaf m s d)).st.few)/\w.drewN n=R):=λn=>
  cV (T:=TT.pair l c (TT.leaf m s d)) (h.drewN n) (L.keep (w':=w.drewN n) (λ_ _=>rfl) (λ_ _=>rfl))
 have b8:Hid (∀n,Calls prog 257 #[.pointer p,j] (w.drewN n) λe R=>e= .returned (.bool (TT.leaf j t f).st.few)/\w.drewN n=R):=λn=>
  cV (T:=TT.leaf j t f) (h.drewN n) (X.keep (w':=w.drewN n) (λ_ _=>rfl) (λ_ _=>rfl))
 have h1:∀n,Head ((w.drewN n).setCell (p,3) (i+2:Int)) p C A r F (i+2):=λn=>(h.drewN n).set3 _;have W:∀n,Chg C w ((w.drewN n).setCell (p,3) (i+2:Int)):=λn=>(Chg.refl.drewN n).setCell _ (Ei h.self) _;have B:Hid (∀n,Sub ((w.drewN n).setCell (p,3) (i+2:Int)) r (TT.pair l c (TT.leaf m s d))):=λn=>L.chgC h (W n) (λ_ _=>rfl);have Z:Hid (∀n,Sub ((w.drewN n).setCell (p,3) (i+2:Int)) r (TT.leaf j t f)):=λn=>X.chgC h (W n) (λ_ _=>rfl);have e0:Hid (∀n,((w.drewN n).setCell (p,3) (i+2:Int)).cell? (p,1)=some (.slice g r.length rc)):=λn=>by
  have :=I;go_simp
 have H1:=θ h1;have G1:=θ W;have HO:=θ hO;have c2:=θ H;have HX:Hid (r[k]? =some x/\x.left=l/\x.right=j/\x.b=none):=⟨hx,M,N,a6⟩;obtain⟨_,_,d6,_⟩:=h.node I L.root;obtain⟨_,_,d3,_⟩:=h.node I X.root;obtain⟨d0,d1,_,_,_,_,_,d7⟩:=h.eight I L.root;obtain⟨_,_,_,_,_,_,_,b7⟩:=h.eight I X.root;change w.cell? (g,j*8+7)=some (.pointer t)at b7;change w.cell? (g,l*8)=some (.int .i64 (c.num:Int))at d0;change w.cell? (g,l*8+1)=some (.int .i64 (m:Int))at d1;change w.cell? (g,l*8+7)=some (.pointer none)at d7;change l<r.length at d6;change j<r.length at d3;have hD:k≠l/\k≠m/\k≠j/\k∉c.nums/\l≠m/\l≠j/\l∉c.nums/\m≠j/\m∉c.nums/\j∉c.nums/\c.nums.Nodup:=by
  obtain⟨J,D,e3,_,e5⟩:=TT.dis hO.nn;obtain⟨f1,f2,f3,_,f5⟩:=TT.dis e3;have W:m∉c.nums:=λh=>f5 m h (by simp[TT.nums]);have G:j∉(TT.pair l c (.leaf m s d)).nums:=λh=>e5 j h (by simp[TT.nums]);simp only[TT.nums,aR1,aR0,aS5,bd7,bd5]at J D f2 G;exact⟨J.1,J.2.2,D,J.2.1,f2,λe=>G.1 e.symm,f1,λe=>G.2.2 e.symm,W,G.2.1,f3⟩
 have hB:s≠t/\s∉c.bl/\t∉c.bl/\c.bl.Nodup:=by
  have :=hO.bn;simp only[TT.bl,aS1,aR0,aR1,aS5,bd7]at this;obtain⟨⟨z1,_,z2⟩,_,z3⟩:=this;exact⟨λe=>z3 s (Ej rfl) t rfl e,λe=>z2 s e s rfl rfl,λe=>z3 t (Ei e) t rfl rfl,z1⟩
 have HD:=θ hD;have b5:=θ hB;have v:cX (TT.pair k (.pair l c (.leaf m s d)) (.leaf j t f)).st=(if d.length+f.length<=128 then .pair c.st (.leaf (d++f))else .pair (.pair c.st (.leaf ((d++f).take ((d.length+f.length)/2)))) (.leaf ((d++f).drop ((d.length+f.length)/2)))):=by
  simp only[TT.st,cX];rw[bc9 (by rintro⟨J,D⟩;simp only[TT.st]at hf;rw[hf]at D;cases D)]
 have c4:=θ v;have e9:=h.lt p h.self;have e7:=h.lt g a3;have c7:Hid (r[j]? =some (TT.leaf j t f).nd):=X.root;have c8:Hid (r[l]? =some (TT.pair l c (.leaf m s d)).nd):=L.1;have c9:Hid (r[m]? =some (TT.leaf m s d).nd):=L.2.2.1;have b9:Hid (∀n,Calls prog 257 #[.pointer p,l] ((w.drewN n).setCell (p,3) (i+2:Int)) λe R=>e= .returned (.bool false)/\(w.drewN n).setCell (p,3) (i+2:Int)=R):=λn=>
  cV (T:=TT.pair l c (.leaf m s d)) (h1 n) (B.o n)
 have c6:=θ a5;have c0:Hid ((TT.pair l c (.leaf m s d)).st.few=false):=rfl;have c5:=θ hf;have c3:Hid (∀n,Calls prog 258 #[.pointer p,m,j] ((w.drewN n).setCell (p,3) (i+2:Int)) _):=
  λn=>vJ (h1 n) (B.o n).2.2 (Z.o n) hD.2.2.2.2.2.2.2.1 hB.1 E
 clear h H hO hx M N a6 L X fz h1 W hD v a3 hB hf a5;go_in;go_wp2;go_quiet (fail);obtain⟨z,rfl⟩:=Ez nq;go_wp2_with fail;refine Cq (b6.o z) ?_;rw[c0.o];go_wp2_with fail;refine Cq (b8.o z) ?_;rw[c5.o];go_wp2_with fail;refine Cq (b9.o z) ?_;go_wp2_with fail;refine(c3.o z).mono ?_;rintro e w2 ⟨rfl,u,y,u1,u2,u3,h2,b1,b2,G⟩;obtain⟨t1,t2,t3,t4,t5,t6,t7,t8,t9,Q,a8⟩:=HD.o;have d5:((d++f).take ((d.length+f.length)/2)).length+((d++f).drop ((d.length+f.length)/2)).length=d.length+f.length:=by simp;omega
 have d8:d.length<=128/\f.length<=128:=⟨(B.o z).2.2.2.1,(Z.o z).2.1⟩;have v:=c4.o;rw[bc9 d4]at v;have Y:=θ v;generalize (d++f).take ((d.length+f.length)/2)=lo at *;generalize (d++f).drop ((d.length+f.length)/2)=hi at *;have U:Hid (w<=u/\w<=y/\u≠y):=⟨aV4 (G1.out z).size u1,aV4 (G1.out z).size u2,u3⟩;have a2:Chg C w w2:=(G1.out z).trans G (λb q=>Ei q);have S:((r.set m (TT.leaf m u lo).nd).set j (TT.leaf j y hi).nd)[l]? =some (TT.pair l c (.leaf m s d)).nd:=by rw[aH t6,aH t5];exact c8.o
 have b0:((r.set m (TT.leaf m u lo).nd).set j (TT.leaf j y hi).nd)[k]? =some x:=by rw[aH t3,aH t2];exact HX.o.1
 have V:((r.set m (TT.leaf m u lo).nd).set j (TT.leaf j y hi).nd)[m]? =some (TT.leaf m u lo).nd:=by rw[aH t8];exact aY c9.o
 have a9:((r.set m (TT.leaf m u lo).nd).set j (TT.leaf j y hi).nd)[j]? =some (TT.leaf j y hi).nd:=aY (x:=(TT.leaf j t f).nd) (by rw[aH t8.symm];exact c7.o);have O:∀b:Nat,b≠m->b≠j->((r.set m (TT.leaf m u lo).nd).set j (TT.leaf j y hi).nd)[b]? =r[b]? :=λb q hc=>by rw[aH hc,aH q]
 have a7:((r.set m (TT.leaf m u lo).nd).set j (TT.leaf j y hi).nd).length=A.T.length:=by rw[aQ0,aQ0];exact c2.o
 have P:Sub w2 ((r.set m (TT.leaf m u lo).nd).set j (TT.leaf j y hi).nd) c:=(B.o z).2.1.chgC (H1.o z) G (λb q=>O b (by rintro rfl;exact t9 q) (by rintro rfl;exact Q q));generalize (r.set m (TT.leaf m u lo).nd).set j (TT.leaf j y hi).nd=xs2 at *;have a4:=c6.o.l;have HF:=θ (kY (a:=c) (b:= .leaf m u lo) h2 S rfl rfl rfl P ⟨V,b1⟩ a4 ⟨by simp only[TT.st,ST.bits];omega,by simp[TT.st,ST.high]⟩);have H2:=θ h2;have B1:=θ b1;have B2:=θ b2;have b4:=θ a2;have XX:Hid (xs2[k]? =some x/\xs2[m]? =some (TT.leaf m u lo).nd/\xs2[j]? =some (TT.leaf j y hi).nd/\xs2[l]? =some (TT.pair l c (.leaf m s d)).nd/\(∀b:Nat,b≠m->b≠j->xs2[b]? =r[b]?)/\xs2.length=A.T.length/\Sub w2 xs2 c):=⟨b0,V,a9,S,O,a7,P⟩;clear h2 b1 b2 G a2 u1 u2 u3 t1 t2 t3 t4 t5 t6 t7 t8 t9 Q a8 S b0 V a9 O a7 P v d5 a4 d8;go_wp2_with fail;refine HF.o.mono ?_;rintro e w3 ⟨rfl,h3,g3⟩;have H3:=θ h3;have G3:=θ (H2.o.chgRow g3);clear h3 g3;go_wp2;go_ret;obtain⟨t1,t2,t3,t4,t5,t6,t7,t8,t9,Q,a8⟩:=HD.o;obtain⟨u1,u2,u3⟩:=U.out;obtain⟨y1,y2,d9,b3,y3,y4,y5⟩:=XX.out;have tk:=HO.o.tk;have cb:∀b∈c.bl,b<w:=λb q=>by
  have :=((B.o z).2.1.type q).lt;simpa[World.setCell]using this
 refine⟨.pair k (.pair l c (.leaf m u lo)) (.leaf j y hi),C,A,_,_,rfl,H3.o,⟨⟨HO.o.nn,?_,λb q=>tk b (by simpa[TT.nums]using q)⟩,?_,λb q=>Ei q,λb q=>?_,λb J D=>?_,?_,rfl,(b4.out.trans G3.out (λb q=>Ei q)).mono (λb q=>Ei q)⟩,?_,E,E,⟨x,?_,HX.o.2.1,HX.o.2.2.1,HX.o.2.2.2,⟨?_,?_,⟨?_,?_⟩⟩,⟨?_,?_⟩⟩,rfl⟩
 ·simp only[TT.bl,aS1,aS2,aR0,aR1,aS5,bd7,bd4,aS3,and_self,bb4,true_and];refine⟨⟨b5.o.2.2.2,λa K b q e=>by subst q;subst e;have :=cb _ K;omega⟩,λa K b q e=>?_⟩;subst q;subst e;rcases K with K | K
  ·have :=cb _ K;omega
  ·exact u3 K.symm
 ·rw[aQ0,y4]
 ·simp only[TT.bl,aR0,aR1,aS5,bd7]at q⊢;rcases q with (q | rfl) | rfl
  ·exact Ei (Ei (Ei q))
  ·exact Ej u1
  ·exact Ej u2
 ·have d2:=D;simp only[TT.nums,aR1,aR0,aS5,bd7,bd5]at D;refine⟨by rw[aH D.2.1.1,y3 b D.2.1.2.2 D.2.2],J,by simpa[TT.nums]using d2⟩
 ·simp only[TT.st,ST.size]
 ·exact Y.o.symm
 ·rw[aH t1];exact y1
 ·exact aY b3
 ·exact y5.chgC H2.o G3.out (bK t7)
 ·rw[aH t5.symm];exact y2
 ·exact B1.out.chg G3.out (H2.o.notBlk B1.out.type)
 ·rw[aH t6.symm];exact d9
 ·exact B2.out.chg G3.out (H2.o.notBlk B2.out.type)
theorem TT.leaf_of_few {T:TT}(h:T.st.few=true):∃k q l,T= .leaf k q l:=by
 cases T with
 | leaf k q l=>exact⟨k,q,l,rfl⟩
 | pair k a b=>simp[TT.st,ST.few]at h
theorem TT.leaf_of_high {T:TT}(h:T.st.high=0):∃k q l,T= .leaf k q l:=by
 cases T with
 | leaf k q l=>exact⟨k,q,l,rfl⟩
 | pair k a b=>simp[TT.st,ST.high]at h
theorem Il{w:World}{p:Nat}{C:Nat->Prop}{A:Ar}{u:List Nd}{q n:Int}(h:Head w p C A u q n)(a:u.length=A.T.length)(d:0<=n)(o:n<=100000000000){k:Nat}{l r:TT}(g:rQ w u (.pair k l r))(f:Own A (.pair k l r))(D:l.st.few=true->r.st.high<=1)(F:r.st.few=true->l.st.high<=1)(z:Small l.st)(B:Small r.st):Calls prog 246 #[.pointer p,k] w λe J=>iO w J p C A u q n (.pair k l r) e:=by
 cases hlf:l.st.few with
 | true=>
  obtain⟨i,G,s,rfl⟩:=TT.leaf_of_few hlf;cases r with
  | leaf j H t=>
   by_cases b:s.length+t.length<=128
   ·exact Ea h a d o g f (Ei hlf) b
   ·exact zS h a d o g f (Ei hlf) b
  | pair L y c=>
   have v:=D hlf;obtain⟨m,I,x,rfl⟩:=TT.leaf_of_high (T:=y) (by simp only[TT.st,ST.high]at v;omega);by_cases b:s.length+x.length<=128
   ·exact Qt h a d o g f hlf B b
   ·exact Nz h a d o g f hlf B b
 | false=>
  cases hrf:r.st.few with
  | false=>exact ay3 h a g f ⟨hlf,hrf⟩
  | true=>
   obtain⟨j,H,t,rfl⟩:=TT.leaf_of_few hrf;cases l with
   | leaf i G s=>
    by_cases b:s.length+t.length<=128
    ·exact Ea h a d o g f (Ej ⟨hlf,hrf⟩) b
    ·exact zS h a d o g f (Ej ⟨hlf,hrf⟩) b
   | pair K c y=>
    have v:=F hrf;obtain⟨m,I,x,rfl⟩:=TT.leaf_of_high (T:=y) (by simp only[TT.st,ST.high]at v;omega);by_cases b:x.length+t.length<=128
    ·exact Qv h a d o g f hrf z b
    ·exact Oa h a d o g f hrf z b
theorem Ry{x:ST}{k:Nat}(i:x.Fill)(g:k<x.bits.length)(h:(eW x k).few=true):x.high=0:=by
 cases x with
 | leaf l=>rfl
 | pair c d=>
  exfalso;cases hd:eW (.pair c d) k with
  | leaf z=>
   have a:=kO g;rw[hd]at h a;simp only[ST.bits]at a;have j:=i.len;have b:z.length=(ST.pair c d).bits.length-1:=by rw[a];exact fN g
   simp only[ST.leaves,ST.bits]at j b;have :=c.leaves_pos;have :=d.leaves_pos;simp only[ST.few,bc3]at h;omega
  | pair e f=>rw[hd]at h;simp[ST.few]at h
theorem SubPre.cat {w n o:World}{C i k:Nat->Prop}{A d f:Ar}{p a b:List Nd}{T l m:TT}(h:SubPre w n C A p T l i d a)(g:SubPre n o i d a l m k f b):SubPre w o C A p T m k f b:=by
 have D:=h.chg.size;refine⟨g.own,g.len,λj c=>?_,λq B=>?_,λj y z=>?_,by have :=h.live;have :=g.live;omega,g.max.trans h.max,h.chg.trans g.chg (λj c=>?_)⟩
 ·rcases g.newC j c with e | e
  ·exact h.newC j e
  ·exact Ej E
 ·rcases g.newB q B with e | e
  ·exact h.newB q e
  ·exact Ej E
 ·obtain⟨r,s,t⟩:=h.keep j y z;obtain⟨u,v,x⟩:=g.keep j s t;exact⟨u.trans r,v,x⟩
 ·rcases c with e | e
  ·exact(h.newC j e).imp Ei id
  ·exact(h.newB j e).imp Ej id
def zX(w w':World)(p:Nat)(C:Nat->Prop)(A:Ar)(xs:List Nd)(root vis:Int)(T:TT)(k:Nat)(e:Ending):Prop:=
 ∃T' C' A' xs' v',e= .returned (.tuple #[T'.num, .bool (aX T.st.bits k)])/\SubPost w w' p C A xs root vis T T' C' A' xs' v'/\T'.st=eW T.st k/\A'.T.length=A.T.length
theorem Xd{w:World}{p:Nat}{C:Nat->Prop}{A:Ar}{r:List Nd}{b a:Int}(h:Head w p C A r b a)(d:r.length=A.T.length)(b1:0<=a)(hv:a<=100000000000){f q:Nat}{l:List Bool}(D:Sub w r (.leaf f q l))(P:Own A (.leaf f q l))(k:Nat)(hk:k<l.length):Calls prog 233 #[.pointer p,f,k] w λe w'=>zX w w' p C A r b a (.leaf f q l) k e:=by
 have n:=D.root;change r[f]? =some (TT.leaf f q l).nd at n;obtain⟨g,rc,a8,J,a9,_⟩:=h.row (by have :=(aO2.1 n).1;omega);obtain⟨_,_,b0,_⟩:=h.node J n;obtain⟨I,X,Y,Z,a4,a5,a6,a7⟩:=h.eight J n;obtain⟨_,_,cv,K⟩:=h.cells;have f3:=K 3;have hp:=h.lt p h.self;have hg:=ba8 w _ I;simp only[TT.nd,fO,aY6]at I X Y Z a4 a5 a6 a7;have F:=D.2;have m:¬C q:=h.notBlk F.type;have W:Hid (∀v o,IsBlock ((w.setCell (p,3) v).alloc o) q l):=λv o=>F.chg ((Chg.refl.setCell (p,3) (Ei h.self) v).alloc o) m;have u:Hid (∀o,Head ((w.setCell (p,3) (a+1:Int)).alloc o) p C A r b (a+1)):=λo=>(h.set3 (a+1)).below (aR _ _);have U:Hid (∀o,Chg C w ((w.setCell (p,3) (a+1:Int)).alloc o)):=λo=>(h.chg3 _ 3).alloc o;have H:=θ n;have y:=θ m;have x:=θ P;have V:=θ d;clear h K n D F m P d;go_in;go_wp2_with fail;refine(Xz (W.o _ _) k hk).mono ?_;rintro e w3 ⟨rfl,i,z⟩;have B:=(u.o _).chg z (λj c e=>y.o (e▸c));have L:Chg (λj=>C j\/j∈(TT.leaf f q l).bl) w w3:=((U.o _).mono (λj c=>Ei c)).trans z (λj e=>Ei (Ej (by simp[TT.bl,e])));have S:=θ (gY B H.o rfl i);have t:=θ B;have Q:=θ L;have s:=θ i;clear B L i z;go_wp2_with fail;refine S.o.mono ?_;rintro e w4 ⟨rfl,O,M⟩;have R:=θ O;have G:=θ M;clear O M;go_wp2;go_ret2;refine⟨.leaf f q (bj0 l k),C,A,_,_,rfl,⟨R.o,⟨aY H.o,?_⟩,⟨x.o.nn,x.o.bn,x.o.tk⟩,?_,λj c=>Ei c,λj c=>Ei c,λj h1 N=>⟨?_,h1,N⟩,rfl,rfl,?_,?_⟩,rfl,rfl⟩
 ·exact s.o.chg (t.o.chgRow G.out) (t.o.notBlk s.o.type)
 ·rw[aQ0];exact V.o
 ·exact aH (by rintro rfl;exact N (by simp[TT.nums]))
 ·exact⟨E,by simp only[TT.st,ST.high];omega⟩
 ·exact Q.out.trans (t.o.chgRow G.out) (λj c=>Ei (Ei c))
theorem ag3(T:TT):∀(w:World) (p:Nat) (C:Nat->Prop) (A:Ar) (xs:List Nd) (Q H:Int) (k:Nat),Head w p C A xs Q H->xs.length=A.T.length->0<=H->H+7*T.st.high+20<=100000000000->Sub w xs T->Own A T->k<T.st.bits.length->T.st.bits.length<=8589934592->T.st.high<=1000000000->T.st.Avl->(∀t,T.st=t->(t.isLeaf=true\/t.Fill))->Calls prog 233 #[.pointer p,T.num,k] w λe w'=>zX w w' p C A xs Q H T k e:=by
 induction T with
 | leaf b q l=>
  intro w p C A xs Q H k h b9 i7 hv hS hO hk f7 g0 i4 f9;simp only[TT.st,ST.bits]at hk;exact Xd h b9 i7 (by simp only[TT.st,ST.high]at hv;omega) hS hO k hk
 | pair b a c i8 i9=>
  intro w p C A xs Q H k h b9 i7 hv hS hO hk f7 g0 i4 f9;have f8:(TT.pair b a c).st.Fill:=by
   rcases f9 _ rfl with e | e
   ·cases e
   ·exact e
  obtain⟨i1,i2,j4,j5⟩:=i4;obtain⟨fa,fc⟩:=f8;change Calls prog _ #[.pointer p,(b:Int),k] w _;have hx:=hS.root;change xs[b]? =some (TT.pair b a c).nd at hx;obtain⟨g,rc,k2,c1,k3,_⟩:=h.row (by have :=(aO2.1 hx).1;omega);obtain⟨_,_,k5,_⟩:=h.node c1 hx;obtain⟨a0,a1,a2,a3,a4,a5,a6,a7⟩:=h.eight c1 hx;obtain⟨_,_,cv,fz⟩:=h.cells;have f3:=fz 3;have hp:=h.lt p h.self;have hg:=ba8 w _ a0;simp only[TT.st,ST.bits,ST.high,aP3]at hv hk f7 g0;obtain⟨na,g7⟩:=Ey a.num;obtain⟨nc,g8⟩:=Ey c.num;obtain⟨Z,e8⟩:=Ey a.st.bits.length;obtain⟨ha,g1⟩:=Ey a.st.high;obtain⟨hc,g2⟩:=Ey c.st.high;rw[e8]at hk f7;rw[g1,g2]at hv g0 j4 j5;simp only[TT.nd,fO,aY5]at a0 a1 a2 a3 a4 a5 a6 a7;rw[e8]at a3 a5;change w.cell? (g,b*8)=some (.int .i64 (a.num:Int))at a0;change w.cell? (g,b*8+1)=some (.int .i64 (c.num:Int))at a1;rw[g7]at a0;rw[g8]at a1;have j2:=θ g7;have j3:=θ g8;have d:=θ e8;have z:=θ g1;have B:=θ g2;have h8:Hid (∀o,Head ((w.setCell (p,3) (H+1:Int)).alloc o) p C A xs Q (H+1)):=λo=>(h.set3 (H+1)).below (aR _ _);have HG:Hid (∀o,Chg C w ((w.setCell (p,3) (H+1:Int)).alloc o)):=λo=>(h.chg3 _ 3).alloc o;have h9:Hid (∀w',Chg C w w'->Sub w' xs a):=λw' hc=>hS.2.1.chgC h hc (λ_ _=>rfl);have i0:Hid (∀w',Chg C w w'->Sub w' xs c):=λw' hc=>hS.2.2.chgC h hc (λ_ _=>rfl);have HX:=θ hx;have HO:=θ hO;have HL:=θ b9;have j0:=θ i8;have j1:=θ i9;have m:Hid (a.st.Avl/\c.st.Avl/\a.st.Fill/\c.st.Fill):=⟨i1,i2,fa,fc⟩;have k4:k<=8589934592:=E;clear h fz hx hS hO b9 i8 i9 g7 g8 e8 g1 g2 i1 i2 fa fc f9;by_cases G:k<Z
  ·have d1:decide (k<Z)=true:=bc2 G;go_in;go_wp2_with fail;have S:=h8.o (.cells #[na,nc, .int .i64 (ST.pair a.st c.st).high, .int .i64 (Z+c.st.bits.length), .int .i64 (a.st.bits.count true+c.st.bits.count true),Z, .int .i64 (a.st.bits.count true), .pointer none] 221);have b4:=j0.o _ p C A xs Q (H+1) k S HL.o E (by rw[z.o];omega) (h9.o _ (HG.o _)) HO.o.l (by rw[d.o];exact G) (by rw[d.o];omega) (by rw[z.o];omega) m.o.1 (λt ht=>Ej (by rw[<-ht];exact m.o.2.2.1));rw[j2.o]at b4;refine b4.mono ?_;rintro e w3 ⟨s,C3,A3,h7,v3,rfl,hP,P,M⟩;obtain⟨q1,q2,q3⟩:=SubPre.left HO.o hP.pre S (i0.o _ (HG.o _));have D:=q3.trans HX.o;have O:=SubPre.first (HG.o (.cells #[na,nc, .int .i64 (ST.pair a.st c.st).high, .int .i64 (Z+c.st.bits.length), .int .i64 (a.st.bits.count true+c.st.bits.count true),Z, .int .i64 (a.st.bits.count true), .pointer none] 221)) q1
   have h3:=hP.head;have s3:=hP.sub;have b6:=hP.vis;rw[z.o]at b6;have c8:=yM m.o.1 m.o.2.2.1 (k:=k) (by rw[d.o];exact G);have W:=Ry (k:=k) m.o.2.2.1 (by rw[d.o];exact G);rw[<-P,z.o]at c8;rw[<-P,z.o]at W;obtain⟨w1,w2,w4,w5⟩:=c8;have c5:s.st.bits.length+1=Z:=by rw[P,kO (by rw[d.o];exact G),fN (by rw[d.o];exact G)];rw[d.o];omega
   have b0:aX (TT.pair b a c).st.bits k=aX a.st.bits k:=by simp only[TT.st,ST.bits];exact zG (by rw[d.o];exact G)
   obtain⟨g3,j8,i3,r3,i5,_⟩:=h3.row (by have :=(aO2.1 D).1;omega);obtain⟨_,c4,i6,_⟩:=h3.node r3 D;obtain⟨e0,e1,_⟩:=h3.eight r3 D;have z3:=c4 (b*8);obtain⟨h4,g4,_⟩:=h3.put r3 D (i:=0) (v:= .int .i64 s.num) (x':=⟨s.num,c.num,(TT.pair b a c).nd.height,(TT.pair b a c).nd.n,(TT.pair b a c).nd.ones,(TT.pair b a c).nd.ln,(TT.pair b a c).nd.lones,none⟩) E rfl;have V:Chg C3 w3 _:=g4.mono (λj e=>by subst e;exact h3.rowC ⟨_,_,r3⟩);have L:=TT.dis O.own.nn;have e4:=s3.chgC h3 V (bK (y:=⟨s.num,c.num,(TT.pair b a c).nd.height,(TT.pair b a c).nd.n,(TT.pair b a c).nd.ones,(TT.pair b a c).nd.ln,(TT.pair b a c).nd.lones,none⟩) L.1);have d9:=q2.chgC h3 V (bK (y:=⟨s.num,c.num,(TT.pair b a c).nd.height,(TT.pair b a c).nd.n,(TT.pair b a c).nd.ones,(TT.pair b a c).nd.ln,(TT.pair b a c).nd.lones,none⟩) L.2.1);have Y:=O.next (T2:= .pair b s c) (xs':=h7.set b ⟨s.num,c.num,(TT.pair b a c).nd.height,(TT.pair b a c).nd.n,(TT.pair b a c).nd.ones,(TT.pair b a c).nd.ln,(TT.pair b a c).nd.lones,none⟩) V (λj hj=>aH (by rintro rfl;exact hj TT.mem_k)) Es (aK9 _) rfl rfl;have e2:Small s.st:=⟨E,E⟩;have e3:Small c.st:=⟨E,by rw[B.o];omega⟩;have HB:=θ (Il h4 Y.len E E (k:=b) (l:=s) (r:=c) ⟨_,aY D,rfl,rfl,rfl,e4,d9⟩ Y.own (λF=>by rw[B.o];have :=W F;omega) (λF=>by rw[m.o.2.2.2.not_few]at F;cases F) e2 e3);have H4:=θ h4;have c0:=θ Y;have c2:=θ P;have U:=θ b6;have HW:Hid (s.st.Avl/\s.st.Less/\s.st.high<=ha/\ha<=s.st.high+1/\(s.st.few=true->ha=0)):=⟨w1,w2,w4,w5,W⟩;have f2:=θ c5;have a8:=θ b0;have I:=θ M;clear S b4 hP P q1 q2 q3 D O h3 s3 c4 h4 g4 V L e4 d9 c5 b6 w1 w2 w4 w5 W e2 e3 Y b0 M;obtain⟨nt,d2⟩:=Ey s.num;rw[d2];rw[d2]at HB H4 c0;go_wp2_with fail;refine HB.o.mono ?_;rintro e w5 ⟨T1,C5,A5,b8,v5,rfl,K,p5,u,j9,k0,s5,f⟩;have X:=Fo (l:=s.st) (r:=c.st) HW.o.1 m.o.2.1 HW.o.2.1 m.o.2.2.2.less (by have :=HW.o;have :=B.o;omega) (by have :=HW.o;have :=B.o;omega) (λF=>by
    rcases F with F | F
    ·have h1:=ST.few_high F;have S:=HW.o.2.2.2.2 F;have :=B.o;omega
    ·rw[m.o.2.2.2.not_few]at F;cases F)
   have N:SubPre w w5 C A xs (.pair b a c) T1 C5 A5 b8:=c0.o.cat p5;obtain⟨n1,b5⟩:=Ey T1.num;rw[b5];cases T1 with
   | leaf k1 q1 l1=>
    obtain rfl:k1=n1:=b5;obtain⟨g5,h0,c3,r5,_⟩:=K.row (by have :=(aO2.1 s5.1).1;omega);obtain⟨_,_,_,_,_,_,_,y7⟩:=K.eight r5 s5.1;obtain⟨_,_,c9,_⟩:=K.node r5 s5.1;change w5.cell? (g5,k1*8+7)=some (.pointer q1)at y7;change k1<b8.length at c9;have H5:=θ K;have P5:=θ N;have J:=θ u;have S5:=θ s5;have b3:=θ f;clear K N p5 u s5 X f;go_wp2;go_ret2;refine⟨.leaf k1 q1 l1,C5,A5,b8,v5,by rw[a8.o];rfl,SubPost.of H5.o S5.out P5.out ?_,?_,b3.o.trans I.o⟩
    ·have :=U.o;simp only[TT.st,ST.high];rw[z.o,B.o];exact⟨E,E⟩
    ·have h1:=J.o;have S:=c2.o;simp only[TT.st,eW]at h1 S⊢;rw[bd0 (by rw[d.o];exact G),<-S,<-h1];rfl
   | pair k1 a1 b1=>
    obtain rfl:k1=n1:=b5;obtain⟨x5,R,e5,e6,b7,d7,d8⟩:=s5;obtain⟨g5,h0,c3,r5,_⟩:=K.row (by have :=(aO2.1 R).1;omega);obtain⟨_,_,_,_,_,_,_,y7⟩:=K.eight r5 R;obtain⟨_,_,c9,_⟩:=K.node r5 R;rw[b7]at y7;change w5.cell? (g5,k1*8+7)=some (.pointer none)at y7;have d3:Small (.pair a1.st b1.st):=by
     have e:ST.pair a1.st b1.st=cX (.pair s.st c.st):=u;have c6:=xF (.pair s.st c.st);rw[<-e]at c6 X;have g6:=bb9 List.length c6;have j6:=f2.o;have j7:=HW.o.2.2.1;obtain⟨_,_,_,_,_,m5,_⟩:=X;have hA:=z.o;have hC:=B.o;have hL:=d.o;simp only[ST.bits,aP3]at g6;refine⟨by simp only[ST.bits,aP3];omega,by simp only[ST.high];omega⟩
    have e9:=θ (vH K (by have :=U.o;omega) (by have :=U.o;omega) (k:=k1) (x:=x5) (a:=a1) (c:=b1) R b7 e5 e6 d7 d8 N.own.nn d3);have H5:=θ K;have P5:=θ N;have J:=θ u;have b3:=θ f;clear K N p5 u d7 d8 X f d3 R e5 e6 b7;go_wp2_with fail;refine e9.o.mono ?_;rintro e w6 hB;obtain⟨T2,e7,v6,rfl,h6,s6,b2,d0,c7,d5,d6,d4⟩:=hB.ex;have H6:=θ h6;have S6:=θ s6;have a9:=θ b2;have f1:=θ d0;have f0:=θ c7;have f5:=θ d5;have f6:=θ d6;have f4:=θ d4;have C6:=θ hB.chg;clear hB h6 s6 b2 d0 c7 d5 d6 d4;go_wp2;go_ret2;have g9:=P5.out.next (T2:=T2) (xs':=e7) C6.out f5.out f6.out f1.o f0.o (by rw[a9.o,tH];rfl);refine⟨T2,C5,A5,e7,v6,by rw[a8.o];rfl,SubPost.of H6.o S6.out g9 ?_,?_,b3.o.trans I.o⟩
    ·have :=U.o;have :=f4.o;simp only[TT.st,ST.high];rw[z.o,B.o];exact⟨E,E⟩
    ·have h1:=J.o;have S:=c2.o;simp only[TT.st,eW]at h1 S⊢;rw[bd0 (by rw[d.o];exact G),<-S,a9.o,<-h1]
  ·have d1:decide (k<Z)=false:=bc0 G;go_in;go_wp2_with fail;rw[show (k:Int)-(Z:Int)=((k-Z:Nat):Int) by omega];have S:=h8.o (.cells #[na,nc, .int .i64 (ST.pair a.st c.st).high, .int .i64 (Z+c.st.bits.length), .int .i64 (a.st.bits.count true+c.st.bits.count true),Z, .int .i64 (a.st.bits.count true), .pointer none] 221);have b4:=j1.o _ p C A xs Q (H+1) (k-Z) S HL.o E (by rw[B.o];omega) (i0.o _ (HG.o _)) HO.o.r E E (by rw[B.o];omega) m.o.2.1 (λt ht=>Ej (by rw[<-ht];exact m.o.2.2.2));rw[j3.o]at b4;refine b4.mono ?_;rintro e w3 ⟨s,C3,A3,h7,v3,rfl,hP,P,M⟩;obtain⟨q1,q2,q3⟩:=SubPre.right HO.o hP.pre S (h9.o _ (HG.o _));have D:=q3.trans HX.o;have O:=SubPre.first (HG.o (.cells #[na,nc, .int .i64 (ST.pair a.st c.st).high, .int .i64 (Z+c.st.bits.length), .int .i64 (a.st.bits.count true+c.st.bits.count true),Z, .int .i64 (a.st.bits.count true), .pointer none] 221)) q1
   have h3:=hP.head;have s3:=hP.sub;have b6:=hP.vis;rw[B.o]at b6;have c8:=yM m.o.2.1 m.o.2.2.2 (k:=(k-Z)) E;have W:=Ry (k:=(k-Z)) m.o.2.2.2 E;rw[<-P,B.o]at c8;rw[<-P,B.o]at W;obtain⟨w1,w2,w4,w5⟩:=c8;have c5:s.st.bits.length+1=c.st.bits.length:=by rw[P,kO E,fN E];omega
   have b0:aX (TT.pair b a c).st.bits k=aX c.st.bits (k-Z):=by simp only[TT.st,ST.bits];exact by rw[zH (by rw[d.o];omega),d.o]
   obtain⟨g3,j8,i3,r3,i5,_⟩:=h3.row (by have :=(aO2.1 D).1;omega);obtain⟨_,c4,i6,_⟩:=h3.node r3 D;obtain⟨e0,e1,_⟩:=h3.eight r3 D;have z3:=c4 (b*8+1);obtain⟨h4,g4,_⟩:=h3.put r3 D (i:=1) (v:= .int .i64 s.num) (x':=⟨a.num,s.num,(TT.pair b a c).nd.height,(TT.pair b a c).nd.n,(TT.pair b a c).nd.ones,(TT.pair b a c).nd.ln,(TT.pair b a c).nd.lones,none⟩) E rfl;have V:Chg C3 w3 _:=g4.mono (λj e=>by subst e;exact h3.rowC ⟨_,_,r3⟩);have L:=TT.dis O.own.nn;have e4:=s3.chgC h3 V (bK (y:=⟨a.num,s.num,(TT.pair b a c).nd.height,(TT.pair b a c).nd.n,(TT.pair b a c).nd.ones,(TT.pair b a c).nd.ln,(TT.pair b a c).nd.lones,none⟩) L.2.1);have d9:=q2.chgC h3 V (bK (y:=⟨a.num,s.num,(TT.pair b a c).nd.height,(TT.pair b a c).nd.n,(TT.pair b a c).nd.ones,(TT.pair b a c).nd.ln,(TT.pair b a c).nd.lones,none⟩) L.1);have Y:=O.next (T2:= .pair b a s) (xs':=h7.set b ⟨a.num,s.num,(TT.pair b a c).nd.height,(TT.pair b a c).nd.n,(TT.pair b a c).nd.ones,(TT.pair b a c).nd.ln,(TT.pair b a c).nd.lones,none⟩) V (λj hj=>aH (by rintro rfl;exact hj TT.mem_k)) Es (aK9 _) rfl rfl;have e2:Small s.st:=⟨E,E⟩;have e3:Small a.st:=⟨by rw[d.o];omega,by rw[z.o];omega⟩;have HB:=θ (Il h4 Y.len E E (k:=b) (l:=a) (r:=s) ⟨_,aY D,rfl,rfl,rfl,d9,e4⟩ Y.own (λF=>by rw[m.o.2.2.1.not_few]at F;cases F) (λF=>by rw[z.o];have :=W F;omega) e3 e2);have H4:=θ h4;have c0:=θ Y;have c2:=θ P;have U:=θ b6;have HW:Hid (s.st.Avl/\s.st.Less/\s.st.high<=hc/\hc<=s.st.high+1/\(s.st.few=true->hc=0)):=⟨w1,w2,w4,w5,W⟩;have f2:=θ c5;have a8:=θ b0;have I:=θ M;clear S b4 hP P q1 q2 q3 D O h3 s3 c4 h4 g4 V L e4 d9 c5 b6 w1 w2 w4 w5 W e2 e3 Y b0 M;obtain⟨nt,d2⟩:=Ey s.num;rw[d2];rw[d2]at HB H4 c0;go_wp2_with fail;refine HB.o.mono ?_;rintro e w5 ⟨T1,C5,A5,b8,v5,rfl,K,p5,u,j9,k0,s5,f⟩;have X:=Fo (l:=a.st) (r:=s.st) m.o.1 HW.o.1 m.o.2.2.1.less HW.o.2.1 (by have :=HW.o;have :=z.o;omega) (by have :=HW.o;have :=z.o;omega) (λF=>by
    rcases F with F | F
    ·rw[m.o.2.2.1.not_few]at F;cases F
    ·have h1:=ST.few_high F;have S:=HW.o.2.2.2.2 F;have :=z.o;omega)
   have N:SubPre w w5 C A xs (.pair b a c) T1 C5 A5 b8:=c0.o.cat p5;obtain⟨n1,b5⟩:=Ey T1.num;rw[b5];cases T1 with
   | leaf k1 q1 l1=>
    obtain rfl:k1=n1:=b5;obtain⟨g5,h0,c3,r5,_⟩:=K.row (by have :=(aO2.1 s5.1).1;omega);obtain⟨_,_,_,_,_,_,_,y7⟩:=K.eight r5 s5.1;obtain⟨_,_,c9,_⟩:=K.node r5 s5.1;change w5.cell? (g5,k1*8+7)=some (.pointer q1)at y7;change k1<b8.length at c9;have H5:=θ K;have P5:=θ N;have J:=θ u;have S5:=θ s5;have b3:=θ f;clear K N p5 u s5 X f;go_wp2;go_ret2;refine⟨.leaf k1 q1 l1,C5,A5,b8,v5,by rw[a8.o];rfl,SubPost.of H5.o S5.out P5.out ?_,?_,b3.o.trans I.o⟩
    ·have :=U.o;simp only[TT.st,ST.high];rw[z.o,B.o];exact⟨E,E⟩
    ·have h1:=J.o;have S:=c2.o;simp only[TT.st,eW]at h1 S⊢;rw[bc9 (by rw[d.o];exact G),d.o,<-S,<-h1];rfl
   | pair k1 a1 b1=>
    obtain rfl:k1=n1:=b5;obtain⟨x5,R,e5,e6,b7,d7,d8⟩:=s5;obtain⟨g5,h0,c3,r5,_⟩:=K.row (by have :=(aO2.1 R).1;omega);obtain⟨_,_,_,_,_,_,_,y7⟩:=K.eight r5 R;obtain⟨_,_,c9,_⟩:=K.node r5 R;rw[b7]at y7;change w5.cell? (g5,k1*8+7)=some (.pointer none)at y7;have d3:Small (.pair a1.st b1.st):=by
     have e:ST.pair a1.st b1.st=cX (.pair a.st s.st):=u;have c6:=xF (.pair a.st s.st);rw[<-e]at c6 X;have g6:=bb9 List.length c6;have j6:=f2.o;have j7:=HW.o.2.2.1;obtain⟨_,_,_,_,_,m5,_⟩:=X;have hA:=z.o;have hC:=B.o;have hL:=d.o;simp only[ST.bits,aP3]at g6;refine⟨by simp only[ST.bits,aP3];omega,by simp only[ST.high];omega⟩
    have e9:=θ (vH K (by have :=U.o;omega) (by have :=U.o;omega) (k:=k1) (x:=x5) (a:=a1) (c:=b1) R b7 e5 e6 d7 d8 N.own.nn d3);have H5:=θ K;have P5:=θ N;have J:=θ u;have b3:=θ f;clear K N p5 u d7 d8 X f d3 R e5 e6 b7;go_wp2_with fail;refine e9.o.mono ?_;rintro e w6 hB;obtain⟨T2,e7,v6,rfl,h6,s6,b2,d0,c7,d5,d6,d4⟩:=hB.ex;have H6:=θ h6;have S6:=θ s6;have a9:=θ b2;have f1:=θ d0;have f0:=θ c7;have f5:=θ d5;have f6:=θ d6;have f4:=θ d4;have C6:=θ hB.chg;clear hB h6 s6 b2 d0 c7 d5 d6 d4;go_wp2;go_ret2;have g9:=P5.out.next (T2:=T2) (xs':=e7) C6.out f5.out f6.out f1.o f0.o (by rw[a9.o,tH];rfl);refine⟨T2,C5,A5,e7,v6,by rw[a8.o];rfl,SubPost.of H6.o S6.out g9 ?_,?_,b3.o.trans I.o⟩
    ·have :=U.o;have :=f4.o;simp only[TT.st,ST.high];rw[z.o,B.o];exact⟨E,E⟩
    ·have h1:=J.o;have S:=c2.o;simp only[TT.st,eW]at h1 S⊢;rw[bc9 (by rw[d.o];exact G),d.o,<-S,a9.o,<-h1]
def az6(w w':World)(p:Nat)(C:Nat->Prop)(A:Ar)(xs:List Nd)(T:TT)(k:Nat)(e:Ending):Prop:=
 e= .returned (.tuple #[.bool (aX T.st.bits k), .int .i64 0])/\∃(T':TT) (C':Nat->Prop) (A':Ar) (xs':List Nd) (v':Int),T'.st=eW T.st k/\0<=v'/\v'<=7*T.st.high+2/\(∀j,C' j->C j\/w.heap.size<=j)/\(∀q∈T'.bl,q∈T.bl\/w<=q)/\
  xs'.length=A'.T.length/\A'.M=A.M/\A'.T.length=A.T.length/\Chg (λj=>C j\/j∈T.bl) w w'/\
  ((T'.st.bits.length≠0/\Head w' p C' A' xs' T'.num v'/\Sub w' xs' T'/\Own A' T'/\A'.live+T.st.size=A.live+T'.st.size)\/
   (T'.st.bits.length=0/\Head w' p C' A' xs' (-1) v'/\A'.live+1+T.st.size=A.live+T'.st.size))
theorem Ns{w:World}{p:Nat}{C:Nat->Prop}{A:Ar}{u:List Nd}{a5:Int}{T:TT}(h:Head w p C A u T.num a5)(hS:Sub w u T)(s:u.length=A.T.length)(hO:Own A T)(a2:T.st.bits.length<=8589934592)(hh:T.st.high<=1000000000)(P:T.st.Avl)(Q:T.st.isLeaf=true\/T.st.Fill)(k:Nat)(hk:k<T.st.bits.length):Calls prog 212 #[.pointer p,k] w λe H=>az6 w H p C A u T k e:=by
 have h0:=Nv (o:=some T) h hS k;have e0:fD (bS (some T)) k=0:=by
  have :((k:Int)<((bS (some T)).length:Int)):=by show (k:Int)<(T.st.bits.length:Int);omega
  unfold fD;rw[bd0 E]
 rw[e0]at h0;have HH:=θ h0;have HD:Hid (∀r,Head r p C A u T.num 0->Chg C w r->Calls prog 233 #[.pointer p,T.num,k] r λe H=>zX r H p C A u T.num 0 T k e):=
  λr h1 c1=>ag3 T r p C A u T.num 0 k h1 s E E (hS.chgC h c1 (λ_ _=>rfl)) hO hk a2 hh P (λt ht=>by rw[<-ht];exact Q)
 clear h0 h hS e0 s hO P Q;go_in;go_wp2_with fail;refine HH.o.mono ?_;rintro e r ⟨rfl,d,B⟩;have d:Head r p C A u T.num 0:=d;have c2:=d.cells.2.1;have I:=θ (HD.o r d B);have V:=θ B;clear d B;obtain⟨nt,R⟩:=Ey T.num;rw[R]at c2 I;clear R;go_wp2_with fail;refine I.o.mono ?_;rintro e i ⟨y,C2,A2,G,v2,rfl,O,U,f⟩;have l:=O.head;have Y:=O.sub.root;obtain⟨g,rc,a6,r2,a7,_⟩:=l.row (by have :=(aO2.1 Y).1;omega);obtain⟨_,_,a4,_⟩:=l.node r2 Y;obtain⟨_,_,_,a3,_⟩:=l.eight r2 Y;rw[y.nd_n]at a3;obtain⟨_,b2,_,fz⟩:=l.cells;have f2:=fz 2;obtain⟨c,m⟩:=Ey y.num;obtain⟨m',F⟩:=Ey y.st.bits.length;have hF:∃X,(i.setCell (p,2) c).cell? p=some (.pointer (some ⟨X,0,none⟩))/\Calls prog 213 #[.pointer X, .slice (some ⟨(i.setCell (p,2) c).heap.size,0,none⟩) 1 1] ((i.setCell (p,2) c).alloc (.cells #[c] 3)) λe H=>
   e= .returned (.int .i64 0)/\∃C',Head H p C' (A2.fr1 c) G c v2/\HStep (i.setCell (p,2) c) H C2 C':=by
  refine tFree1 (l.set2 c) ?_;rw[<-m];exact O.own.tk _ y.num_mem
 obtain⟨X,p0,D⟩:=hF;have S:(i.setCell (p,2) c).heap.size=i.heap.size:=by simp[World.setCell]
 rw[S]at D;have a8:i.cell? p=some (.pointer X):=by
  obtain⟨⟨a1,q0⟩,_⟩:=l.cells;have q1:(i.setCell (p,2) c).cell? p=some (.pointer a1):=by clear p0;go_simp
  rw[q1]at p0;rw[q0];exact p0
 rw[m]at a4 a3;rw[F]at a3;have W:=θ l;have a:=θ O;have L:=θ U;have K:=θ f;have v:=θ m;have J:=θ F;have a0:=θ D;clear l O U f Y fz D p0 S;rw[v.out];clear m F;have z:Hid (Chg C2 i (i.setCell (p,2) c)):=Chg.refl.setCell _ (Ei W.o.self) _;by_cases Z:m'=0
 ·have d1:((m':Int)==0)=true:=by rw[bb7];omega
  have HZ:=θ Z;clear Z;go_wp2_with fail;refine a0.o.mono ?_;rintro e w4 ⟨rfl,C4,h4,s4⟩;obtain⟨_,b4,_,M⟩:=h4.cells;have f4:=M 2;have H4:=θ h4;have S4:=θ s4;clear h4 s4 M;go_wp2;go_ret2;have hv:=a.o.vis;have c5:Chg C4 w4 (w4.setCell (p,2) (-1:Int)):=Chg.refl.setCell _ (Ei H4.o.self) _;have n:=(a.o.chg.trans z.out (λj b=>(a.o.newC j b).imp Ei id));have s1:=V.out.size;have s2:=n.size;have N:Chg (λj=>C j\/j∈T.bl) w (w4.setCell (p,2) (-1:Int)):=((V.out.mono (λj b=>Ei b)).trans n (λj b=>Ei b)).trans (S4.out.chg.trans c5 S4.out.new) (λj b=>(a.o.newC j b).imp Ei (λh=>E));refine⟨rfl,y,C4,A2.fr1 c,G,v2,L.o,E,E,λj b=>?_,λq hq=>(a.o.newB q hq).imp id (λh=>E),?_,a.o.max,?_,N,Ej ⟨by rw[J.out,HZ.o],H4.o.set2 (-1),?_⟩⟩
  ·rcases S4.out.new j b with e | e
   ·exact(a.o.newC j e).imp id (λh=>E)
   ·right;omega
  ·rw[a.o.len];simp[Ar.fr1]
  ·rw[<-K.o];simp[Ar.fr1]
  ·have h1:=a.o.live;have l:=Ar.fr1_live W.o.arOk (x:=c) (by rw[<-v.out];exact a.o.own.tk _ y.num_mem);omega
 ·have d1:((m':Int)==0)=false:=by rw[bb6];omega
  have HZ:=θ Z;clear Z;go_wp2;go_ret2;have hv:=a.o.vis;have s1:=V.out.size;have n:=(a.o.chg.trans z.out (λj b=>(a.o.newC j b).imp Ei id));refine⟨rfl,y,C2,A2,G,v2,L.o,E,E,λj b=>(a.o.newC j b).imp id (λh=>E),λq hq=>(a.o.newB q hq).imp id (λh=>E),a.o.len,a.o.max,K.o,(V.out.mono (λj b=>Ei b)).trans n (λj b=>Ei b),Ei ⟨by rw[J.out];exact HZ.o,by rw[v.out];exact W.o.set2 c,a.o.sub.chgC W.o z.out (λ_ _=>rfl),a.o.own,a.o.live⟩⟩
theorem ag7{w:World}{p:Nat}{C:Nat->Prop}{A:Ar}{g:List Nd}{a b:Int}(h:Head w p C A g a b):Calls prog 194 #[.pointer p] w λe d=>e= .returned A.live/\∃n,d=w.drewN n:=by
 obtain⟨j,i,k,c,_,_⟩:=h.arena;have f:=θ (tE c);clear h c;go_in;go_wp2_with fail;refine f.o.mono ?_;rintro e d ⟨rfl,n,rfl⟩;go_wp2;go_ret;exact⟨rfl,n,rfl⟩
theorem Rb{w:World}{p:Nat}{C:Nat->Prop}{A:Ar}{d:List Nd}{a b:Int}(h:Head w p C A d a b):Calls prog 206 #[.pointer p] w λe c=>e= .returned b/\w=c:=by
 have f:=h.cells.2.2.1;clear h;go_in;go_wp2;go_ret;exact Er
theorem Qz{w:World}{p:Nat}{C:Nat->Prop}{A:Ar}{c:List Nd}{a:Int}(h:Head w p C A c (-1) a):Calls prog 145 #[.pointer p] w λe b=>e= .returned (.agg #[.int .i64 0, .int .i64 0, .int .i64 0, .int .i64 0])/\Below w w b:=by
 have d:=h.cells.2.1;have f:=h.lt p h.self;clear h;go_in;go_wp2_with fail;exact bodyPost_ret (v:= .agg #[.int .i64 0, .int .i64 0, .int .i64 0, .int .i64 0]) (by simp[results,Tryz.results145,go_sem]) rfl ⟨rfl,(aJ6 _ _).alloc (aV3 _) _⟩
theorem Ra{w:World}{p:Nat}{C:Nat->Prop}{A:Ar}{u:List Nd}{s:Int}{T:TT}(h:Head w p C A u T.num s)(F:Sub w u T)(K:A.live=T.st.size)(Q:T.st.size<=1000000000):Calls prog 145 #[.pointer p] w λe d=>e= .returned (.agg #[T.st.bits.length,T.st.high,T.st.leaves,T.st.size])/\Below w w d:=by
 have t:=F.root;obtain⟨g,rc,N,J,O,k,_⟩:=h.row (by have :=(aO2.1 t).1;omega);obtain⟨_,_,P,_⟩:=h.node J t;obtain⟨_,_,M,_⟩:=h.eight J t;rw[T.nd_high]at M;have V:=h.cells.2.1;have Y:=h.lt p h.self;have X:=h.lt g k;have b:=T.st.size_leaves;have r:(T.st.leaves:Int)=((T.st.size:Int)+1)/2:=E;have W:((T.num:Int)== -1)=false:=by rw[bb6];omega
 have D:∀n o,Head ((w.alloc o).drewN n) p C A u T.num s:=λn o=>(h.below (aR w o)).drewN n;have j:Hid (∀o,Calls prog 194 #[.pointer p] (w.alloc o) λe d=>e= .returned T.st.size/\∃n,d=(w.alloc o).drewN n):=λo=>by
  have :=ag7 (D 0 o);rw[K]at this;exact this
 have i:Hid (∀n o,Calls prog 144 #[.pointer p] ((w.alloc o).drewN n) λe d=>e= .returned T.st.bits.length/\∃m,d=((w.alloc o).drewN n).drewN m):=λn o=>
  oG (D n o) (F.chgC h ((Chg.refl.alloc o).drewN n) (λ_ _=>rfl))
 have y:=θ r;clear h F t K D k b r;generalize T.num=nt at *;generalize T.st.size=z at *;generalize T.st.bits.length=n at *;generalize T.st.high=ht at *;go_in;go_wp2_with fail;refine(j.o _).mono ?_;rintro e d ⟨rfl,U,rfl⟩;go_wp2_with fail;obtain⟨f,b⟩:∃l,l=T.st.leaves:=⟨_,rfl⟩;have G:((z:Int)+1)/2=(f:Int):=by rw[b];exact y.o.symm
 have L:f<=1000000000:=E;have R:IntKind.i64.wrap ((z:Int)+1)=(z:Int)+1:=aK8 _ E;have H:IntKind.i64.wrap (f:Int)=(f:Int):=aK8 _ E;have S:IntKind.i64.wrap (((z:Int)+1).tdiv 2)=(f:Int):=by rw[aK3 E,G,H]
 have B:=θ b;have x:=θ (i.o (U+1) (.cells #[.int .i64 0, .int .i64 0, .int .i64 0, .int .i64 0] 85));clear b j i;refine aG (λd=>d.cell? (p,1)=some (.slice g u.length rc)/\d.cell? (p,2)=nt/\d.cell? (g,nt*8+2)=ht) Ek ?hish (λc=>?_);case hish=>(refine⟨?_,?_,?_⟩<;>go_simp)
 refine rV 0 2 3 4 c ?_;refine rV 5 6 7 8 c ?_;refine rV 9 10 11 12 c ?_;refine rV 13 14 15 16 c ?_;refine rg 1 λI q=>?_;go_simp
 ((refine x.o.mono ?_))
 rintro e w2 ⟨rfl,Z,rfl⟩;refine q.out _ _ ?kpsh1 (λa=>?_);case kpsh1=>(refine⟨?_,?_,?_⟩<;>go_simp)
 clear q I c;have c:=a;clear a;try simp only[pt]
 refine rt 17 c ?_;refine rg 18 λI q=>?_;go_simp;refine q.out _ _ ?kpsh18 (λa=>?_);case kpsh18=>(refine⟨?_,?_,?_⟩<;>go_simp)
 clear q I c;have c:=a;clear a;try simp only[pt]
 refine rz ?_;clear c;go_wp2_with fail;rw[<-B.o];exact bodyPost_ret (v:= .agg #[n,ht,f,z]) (by simp[results,Tryz.results145,go_sem]) rfl ⟨rfl,((((Pd ((aJ6 _ _).alloc (aV3 _) _) _).setCell (by exact aV3 _) _).setCell (by exact aV3 _) _).setCell (by exact aV3 _) _).setCell (by exact aV3 _) _⟩
def TLook(S:Nat->Prop)(w w':World)(p:Nat)(o:Option ST)(made m:Nat):Prop:=(∃v:Nat,v<=m/\TreeIs S w' p o made v)/\Chg S w w'
section
variable {S:Nat->Prop}{w w':World}{p made:Nat}{o:Option ST}{vis:Int}
theorem ai4{O:Option TT}(b:pS (ost O))(a:(aF (ost O)).length<=2147483648):OSm O:=by
 cases O with
 | none=>trivial
 | some T=>
  have h:=jI b.2 a;refine⟨?_,E⟩;have :T.st.bits.length<=2147483648:=a;omega
theorem ap8(O:Option TT):De O<=aP (ost O)+1:=by cases O<;>simp[De,aP,ost]
theorem TreeIs.open (h:TreeIs S w p o made vis):∃(C:Nat->Prop) (A:Ar) (a:List Nd) (O:Option TT),Head w p C A a (jP O) vis/\OSub w a O/\OSm O/\bS O=aF o/\De O<=aP o+1/\(∀k,C k->S k)/\A.live=osz O/\made=A.T.length/\ost O=o/\(∀w' v,Head w' p C A a (jP O) v->Chg C w w'->TreeIs S w' p o made v/\Chg S w w'):=by
 obtain⟨C,A,a,O,c,d,j,l,e,m,rfl,f,g⟩:=h.ex;have b:∀k,C k->S k:=λk q=>(g k).2 (Ei q);exact⟨C,A,a,O,c,d,ai4 h.good h.len,ap6 O,ap8 O,b,e,f,rfl,λw' v n i=>
  ⟨⟨⟨C,A,a,O,n,d.chgC c i,j,l,e,m,rfl,f,g⟩,h.good,h.len⟩,i.mono b⟩⟩
theorem TreeIs.drewN (h:TreeIs S w p o made vis)(n:Nat):TreeIs S (w.drewN n) p o made vis:=h.below ⟨rfl,rfl,rfl,aV3 _,λ_ _=>rfl⟩
theorem aH2(h:TreeIs S w p o made vis):Calls prog 144 #[.pointer p] w λe w'=>e= .returned (.int .i64 (aF o).length)/\∃n,w'=w.drewN n:=by
 obtain⟨C,A,c,O,a,b,_,e,_⟩:=h.open;rw[<-e];exact vI a b
theorem Xk(h:TreeIs S w p o made vis):Calls prog 206 #[.pointer p] w λe w'=>e= .returned vis/\w=w':=by
 obtain⟨C,A,b,O,a,_⟩:=h.open;exact Rb a
def xV:Option ST->Value
 | none=> .agg #[.int .i64 0, .int .i64 0, .int .i64 0, .int .i64 0]
 | some t=> .agg #[t.bits.length,t.high,t.leaves,t.size]
theorem ai3(h:TreeIs S w p o made vis):Calls prog 145 #[.pointer p] w λe w'=>e= .returned (xV o)/\Below w w w':=by
 have c:=h.good;have d:=h.len;obtain⟨C,A,i,O,a,b,_,e,_,_,f,_,rfl,_⟩:=h.open;cases O with
 | none=>exact Qz a
 | some T=>
  have g:=jI c.2 d;exact Ra a b f E
theorem TLook.of {C:Nat->Prop}{A:Ar}{f:List Nd}{a:Int}{m e:Nat}(d:∀w' v,Head w' p C A f a v->Chg C w w'->TreeIs S w' p o made v/\Chg S w w')(g:Look w w' p C A f a m)(h:m<=e):TLook S w w' p o made e:=by
 obtain⟨⟨v,i,b⟩,c⟩:=g;exact⟨⟨v,E,(d w' v b c).1⟩,(d w' v b c).2⟩
theorem aH1(h:TreeIs S w p o made vis)(k:Nat)(a:k<(aF o).length):Calls prog 158 #[.pointer p,k] w λe w'=>e= .returned (.tuple #[.bool (aX (aF o) k), .int .i64 0])/\TLook S w w' p o made (aP o+1):=by
 obtain⟨C,A,i,O,b,c,g,e,_,_,_,_,rfl,f⟩:=h.open;cases O with
 | none=>simp[ost,aF]at a
 | some T=>
  refine(ag5 b c g k a).mono ?_;rintro e w' ⟨rfl,d⟩;exact⟨rfl,TLook.of f d (aV3 _)⟩
theorem Oc(h:TreeIs S w p o made vis)(k:Int)(x:Bool):Calls prog 210 #[.pointer p,k, .bool x] w λe w'=>e= .returned (aM (aF o) k.toNat x:Int)/\TLook S w w' p o made (aP o+1):=by
 obtain⟨C,A,i,O,a,b,g,e,f,_,_,_,_,d⟩:=h.open;rw[<-e];refine(ai2 a b g k x).mono ?_;rintro e w' ⟨rfl,c⟩;exact⟨rfl,TLook.of d c f⟩
theorem Ef(h:TreeIs S w p o made vis)(a:BitTab w)(g:¬S 0)(j:Int)(x:Bool):Calls prog 178 #[.pointer p,j, .bool x] w λe w'=>e= .returned (cT (aF o) j x:Int)/\TLook S w w' p o made (aP o+1):=by
 obtain⟨C,A,n,O,c,d,m,e,l,b,_,_,_,k⟩:=h.open;rw[<-e];refine(Qx c d m a (λi=>g (b _ i)) j x).mono ?_;rintro e w' ⟨rfl,f⟩;exact⟨rfl,TLook.of k f l⟩
end
def jO(o:Option ST)(k:Nat):Option ST:=match o with
 | none=>none
 | some t=>if (eW t k).bits.length=0 then none else some (eW t k)
theorem Gt{o:Option ST}{k:Nat}(a:k<(aF o).length):aF (jO o k)=bj0 (aF o) k:=by
 cases o with
 | none=>simp[aF]at a
 | some t=>
  have h:=kO (t:=t) (k:=k) a;simp only[jO];split
  ·next b=>show []=bj0 t.bits k;rw[<-h];exact(aM7 b).symm
  ·exact h
theorem Gv{o:Option ST}{k:Nat}(d:pS o)(e:k<(aF o).length):pS (jO o k)/\aP (jO o k)<=aP o:=by
 cases o with
 | none=>exact⟨trivial,aV3 _⟩
 | some t=>
  have i:k<t.bits.length:=e;simp only[jO];split
  ·exact⟨trivial,aY1 _⟩
  ·next h=>
   cases t with
   | leaf l=>
    have m:(bj0 l k).length≠0:=h;have n:l.length<=128:=d.2.2;have q:(bj0 l k).length=l.length-1:=fN e;exact⟨⟨trivial,⟨E,E⟩⟩,aV3 _⟩
   | pair a b=>
    obtain⟨f,c,g,j⟩:=yM d.1 (show (ST.pair a b).Fill from d.2) e;refine⟨⟨f,?_⟩,g⟩
    revert c
    cases eW (.pair a b) k with
    | leaf l=>intro c;exact⟨by have :=c.1;omega,c.2⟩
    | pair x y=>intro c;exact c
section
variable {S:Nat->Prop}{w w':World}{p made:Nat}{o:Option ST}{vis:Int}
theorem Wz(h:TreeIs S w p o made vis)(k:Nat)(v:k<(aF o).length):Calls prog 212 #[.pointer p,k] w λe w'=>e= .returned (.tuple #[.bool (aX (aF o) k), .int .i64 0])/\∃z,TreeStep S w w' p (jO o k) made z/\0<=z/\z<=7*aP o+2:=by
 have d:=(Gv h.good v).1;have n:=Gt v;have f:(aF (jO o k)).length<=2147483648:=by rw[n,fN v];have :=h.len;omega
 have c:=h.good;have hl:=h.len;obtain⟨C,A,xs,O,h1,h2,h3,h4,h5,X,rfl,Y,Q⟩:=h.ex;have R:∀j,C j->S j:=λj q=>(Q j).2 (Ei q);cases O with
 | none=>simp[ost,aF]at v
 | some T=>
  have a2:=jI c.2 hl;have a0:T.st.bits.length<=2147483648:=hl;have a1:A.live=T.st.size:=h5;refine(Ns h1 h2 h4 h3 E E c.1 ?_ k v).mono ?_
  ·have W:T.st.Root:=c.2
   revert W
   cases T.st with
   | leaf l=>exactλ_=>Ei rfl
   | pair a b=>exactλW=>Ej W
  rintro e w' ⟨rfl,u,B,M,L,z,i,J,K,hC,hB,hx,Z,I,hc,hO⟩;have F:∀j,(B j\/j∈u.bl)->S j\/w.heap.size<=j:=λj q=>q.elim (λh=>(hC j h).imp (R j) id) (λh=>(hB j h).imp (λh=>(Q j).2 (Ej h)) id);have G:Chg S w w':=hc.mono (λj q=>(Q j).2 q);rcases hO with ⟨N,U,D,V,H⟩ | ⟨N,U,H⟩
  ·refine⟨rfl,z,⟨⟨λj=>B j\/j∈obl (some u),⟨⟨B,M,L,some u,U,D,V,hx,?_,by rw[Z,X],?_,by rw[Y,I],λj=>Iff.rfl⟩,d,f⟩,F⟩,G⟩,J,K⟩
   ·show M.live=u.st.size;omega
   ·show some u.st=_;simp only[ost,jO];rw[<-i,bc9 N]
  ·refine⟨rfl,z,⟨⟨B,⟨⟨B,M,L,none,U,trivial,trivial,hx,?_,by rw[Z,X],?_,by rw[Y,I],λj=>by simp[obl]⟩,d,f⟩,λj q=>F j (Ei q)⟩,G⟩,J,K⟩
   ·show M.live=0;have h7:u.st.size=1:=by
     have g:(eW T.st k).bits.length=0:=by rw[<-i];exact N
     rw[i]
     revert g
     have m:T.st.Avl:=c.1;have s:T.st.Root:=c.2;have r:k<T.st.bits.length:=v
     revert m s r
     cases T.st with
     | leaf l=>intros;rfl
     | pair a b=>
      intro m s r g;obtain⟨g1,P,g3,g4⟩:=yM m (show (ST.pair a b).Fill from s) r
      revert P g
      cases eW (.pair a b) k with
      | leaf l=>intros;rfl
      | pair x y=>
       intro g P;have g3:=ST.Fill.len (t:= .pair x y) P;have :=ST.leaves_pos (.pair x y);omega
    omega
   ·simp only[ost,jO];rw[<-i,bd0 N]
theorem aH3(w:World){a:Option Addr}{c:Nat}(L:List Bool)(l:ReadsV w a (L.map Value.bool))(v:L.length<=c)(u:L.length<=2147483648):Calls prog 195 #[.slice a L.length c] w λe w'=>∃p S o,e= .returned (.pointer (some ⟨p,0,none⟩))/\TreeIs S w' p o (match o with | none=>0 | some t=>t.size) 0/\(∀k,S k->w.heap.size<=k)/\aF o=L/\Chg (λ_=>False) w w':=by
 by_cases m:L.length=0
 ·obtain rfl:=aM7 m;refine(ay4 w a c).mono ?_;rintro e w' ⟨p,q,rfl,A,B,s,j⟩;refine⟨p,λk=>k=p\/k=q,none,rfl,⟨⟨_,_,[],none,s,trivial,trivial,rfl,rfl,rfl,rfl,rfl,λk=>by simp[obl]⟩,trivial,by simp[aF]⟩,λk x=>by rcases x with rfl | rfl<;>assumption,rfl,j⟩
 ·have i:∀f,a=some f->f.block<w:=by
   intro f h;obtain⟨b,y,d,g,_⟩:=l 0 (by rw[aP7];omega);rw[h]at d;injection d with d;rw[d];exact g
  refine(ag9 w l v u E i).mono ?_;rintro e w' ⟨p,z,S,rfl,n,d,g,r⟩;exact⟨p,S,some z,rfl,n,d,g,r⟩
end
def exT(B:Nat)(X:Nat->Prop)(k:Nat):Prop:=B<=k/\¬X k
section
variable {B:Nat}{X:Nat->Prop}{w w':World}{p made:Nat}{o:Option ST}{vis:Int}
theorem bZ(d:Chg (exT B X) w w')(a:B<=w):Below B w w':=d.below (λb c=>c.1) a
end
def pw(l:Nat):Nat:=2^l
theorem Mi(l:Nat):0<pw l:=aX9 l
theorem yW{l:Nat}(h:l<9):pw l<=256:=by
 unfold pw;exact aV4 (aW7 E (E:l<=8)) Ed
theorem TreeIs.types {S:Nat->Prop}{w:World}{p b:Nat}{o:Option ST}{vis:Int}(h:TreeIs S w p o b vis){k:Nat}(a:S k):TypeAt w k 218\/TypeAt w k 221\/TypeAt w k 186\/TypeAt w k 4\/TypeAt w k 3\/TypeAt w k 242:=by
 obtain⟨C,A,f,O,c,d,_,_,_,_,_,_,e⟩:=h.ex;rcases(e k).1 a with a | a
 ·rcases c.types a with g | g | g | g | g
  ·exact Ei g
  ·exact Ej (Ei g)
  ·exact Ej (Ej (Ei g))
  ·exact Ej (Ej (Ej (Ei g)))
  ·exact Ej (Ej (Ej (Ej (Ei g))))
 ·cases O with
  | none=>simp[obl]at a
  | some T=>exact Ej (Ej (Ej (Ej (Ej (Sub.type d a)))))
theorem TreeIs.notT {S:Nat->Prop}{w:World}{p c:Nat}{o:Option ST}{vis:Int}(h:TreeIs S w p o c vis){k:Nat}{T:TypeId}(b:TypeAt w k T)(a:T≠218/\T≠221/\T≠186/\T≠4/\T≠3/\T≠242):¬S k:=by
 intro d;rcases h.types d with g | g | g | g | g | g
 ·exact b.ne g a.1 rfl
 ·exact b.ne g a.2.1 rfl
 ·exact b.ne g a.2.2.1 rfl
 ·exact b.ne g a.2.2.2.1 rfl
 ·exact b.ne g a.2.2.2.2.1 rfl
 ·exact b.ne g a.2.2.2.2.2 rfl
structure WD where
 G:Nat->Nat
 C:Nat->Nat
 Q:Nat->Nat->Nat
def WD.row (D:WD)(l:Nat):Value:= .slice (D.G l,0) (pw l) (D.C l)
def Je(D:WD)(n:Nat)(vis:Int):Array Value:=
 #[D.row 0,D.row 1,D.row 2,D.row 3,D.row 4,D.row 5,D.row 6,D.row 7,D.row 8,n,vis]
def rowsV(D:WD):Value:= .agg #[D.row 0,D.row 1,D.row 2,D.row 3,D.row 4,D.row 5,D.row 6,D.row 7,D.row 8]
def cI(D:WD)(l k:Nat):Value:= .agg #[.pointer (D.Q l k,0),l,k]
structure WaveIn (w:World) (p:Nat) (D:WD) (O:Nat->Nat->Option ST) (S:Nat->Nat->Nat->Prop) (n:Nat) (vis:Int) (Vb:Nat->Nat->Int->Prop):Prop where
 head:w.heap[p]? =some (.cells (Je D n vis) 178 (0,0))
 rty:∀l,l<9->∃cs,w.heap[D.G l]? =some (.cells cs 181 (0,0))
 rows:∀l k,l<9->k<pw l->w.cell? (D.G l,k*3)=some (.pointer (D.Q l k,0))/\w.cell? (D.G l,k*3+1)=l/\w.cell? (D.G l,k*3+2)=k
 tree:∀l k,l<9->k<pw l->∃(made:Nat) (v:Int),Vb l k v/\TreeIs (S l k) w (D.Q l k) (O l k) made v
 dis:∀l k l' k',l<9->k<pw l->l'<9->k'<pw l'->(l≠l'\/k≠k')->∀j,S l k j->¬S l' k' j
def WvB(p:Nat)(D:WD)(S:Nat->Nat->Nat->Prop)(j:Nat):Prop:=j=p\/(∃l,l<9/\j=D.G l)\/∃l k,l<9/\k<pw l/\S l k j
structure WaveE (B:Nat) (X:Nat->Prop) (w:World) (p:Nat) (D:WD) (O:Nat->Nat->Option ST) (n:Nat) (vis:Int) (Vb:Nat->Nat->Int->Prop):Prop where
 i:∃S,WaveIn w p D O S n vis Vb/\∀j,WvB p D S j->exT B X j
 le:B<=w
 x:∀k,X k->k<w.heap.size
def bF:Nat->Nat->Int->Prop:=λ_ _ _=>True
def eP{α:Type}(O:Nat->Nat->α)(l k:Nat)(o:α):Nat->Nat->α:=λl' k'=>if l'=l/\k'=k then o else O l' k'
theorem cO{a:Type}(O:Nat->Nat->a)(l k:Nat)(o:a):eP O l k o l k=o:=by simp[eP]
theorem eE{c:Type}(O:Nat->Nat->c){l k b a:Nat}(o:c)(h:b≠l\/a≠k):eP O l k o b a=O b a:=by
 unfold eP;rw[bc9 E]
theorem yH{a:Type}(O:Nat->Nat->a)(l k:Nat):eP O l k (O l k)=O:=by
 funext l' k';unfold eP;split
 ·next h=>rw[h.1,h.2]
 ·rfl
section
variable {B:Nat}{X Y:Nat->Prop}{w w':World}{p n:Nat}{D:WD}{O:Nat->Nat->Option ST}{S:Nat->Nat->Nat->Prop}{vis vis':Int}{Vb Vc:Nat->Nat->Int->Prop}
theorem WaveIn.tyP (h:WaveIn w p D O S n vis Vb):TypeAt w p 178:=⟨_,h.head⟩
theorem WaveIn.tyG (h:WaveIn w p D O S n vis Vb){l:Nat}(b:l<9):TypeAt w (D.G l) 181:=by
 obtain⟨a,h⟩:=h.rty l b;exact⟨a,h⟩
theorem WaveIn.nP (h:WaveIn w p D O S n vis Vb){l k:Nat}(b:l<9)(a:k<pw l):¬S l k p:=by
 obtain⟨m,v,_,c⟩:=h.tree l k b a;exact c.notT h.tyP Ed
theorem WaveIn.nG (h:WaveIn w p D O S n vis Vb){l k b:Nat}(d:l<9)(c:k<pw l)(a:b<9):¬S l k (D.G b):=by
 obtain⟨m,v,_,e⟩:=h.tree l k d c;exact e.notT (h.tyG a) Ed
theorem WaveIn.pG (h:WaveIn w p D O S n vis Vb){l:Nat}(a:l<9):D.G l≠p:=TypeAt.ne (h.tyG a) h.tyP Ed
theorem WaveIn.lt (h:WaveIn w p D O S n vis Vb):∀j,WvB p D S j->j<w.heap.size:=by
 rintro j (rfl | ⟨l,a,rfl⟩ | ⟨l,k,a,c,b⟩)
 ·exact h.tyP.lt
 ·exact(h.tyG a).lt
 ·obtain⟨m,v,_,d⟩:=h.tree l k a c;exact d.lt j b
theorem WaveIn.chg {Z:Nat->Prop}(h:WaveIn w p D O S n vis Vb)(e:Chg Z w w')(f:∀j,WvB p D S j->¬Z j):WaveIn w' p D O S n vis Vb:=by
 refine⟨e.heap h.head (f p (Ei rfl)),λl d=>?_,λl k d g=>?_,λl k d g=>?_,h.dis⟩
 ·obtain⟨o,q⟩:=h.rty l d;exact⟨o,e.heap q (f _ (Ej (Ei ⟨l,d,rfl⟩)))⟩
 ·obtain⟨a,b,c⟩:=h.rows l k d g;have i:=f _ (Ej (Ei ⟨l,d,rfl⟩));exact⟨e.cell (p:=(D.G l,k*3)) a i,e.cell (p:=(D.G l,k*3+1)) b i,e.cell (p:=(D.G l,k*3+2)) c i⟩
 ·obtain⟨m,v,t,s⟩:=h.tree l k d g;exact⟨m,v,t,s.chg e (λj r=>f j (Ej (Ej ⟨l,k,d,g,r⟩)))⟩
theorem WaveIn.put (h:WaveIn w p D O S n vis Vb){o:Nat}(f:Chg (λj=>j=p) w w')(t:w'.heap[p]? =some (.cells (Je D o vis') 178 (0,0))):WaveIn w' p D O S o vis' Vb:=by
 refine⟨t,λl d=>?_,λl k d g=>?_,λl k d g=>?_,h.dis⟩
 ·obtain⟨q,r⟩:=h.rty l d;exact⟨q,f.heap r (h.pG d)⟩
 ·obtain⟨a,b,c⟩:=h.rows l k d g;have i:=h.pG d;exact⟨f.cell (p:=(D.G l,k*3)) a i,f.cell (p:=(D.G l,k*3+1)) b i,f.cell (p:=(D.G l,k*3+2)) c i⟩
 ·obtain⟨m,v,x,u⟩:=h.tree l k d g;exact⟨m,v,x,u.chg f (λj s e=>h.nP d g (by rw[<-e];exact s))⟩
theorem WaveIn.step (h:WaveIn w p D O S n vis Vb){l k:Nat}(A:l<9)(z:k<pw l){H:Nat->Prop}{o':Option ST}{r:Nat}{v':Int}(ht:TreeIs H w' (D.Q l k) o' r v')(hS:∀j,H j->S l k j\/w.heap.size<=j)(y:Chg (S l k) w w')(hv:Vc l k v')(Z:∀o q v,Vb o q v->(o≠l\/q≠k)->Vc o q v):WaveIn w' p D (eP O l k o') (eP S l k H) n vis Vc:=by
 refine⟨y.heap h.head (h.nP A z),λo g=>?_,λo q g u=>?_,λo q g u=>?_,λd f R P t x M N i j s T=>?_⟩
 ·obtain⟨cs,t⟩:=h.rty o g;exact⟨cs,y.heap t (h.nG A z g)⟩
 ·obtain⟨a,b,c⟩:=h.rows o q g u;have U:=h.nG A z g;exact⟨y.cell (p:=⟨D.G o,q*3,none⟩) a U,y.cell (p:=(D.G o,q*3+1)) b U,y.cell (p:=(D.G o,q*3+2)) c U⟩
 ·by_cases e:o=l/\q=k
  ·obtain⟨rfl,rfl⟩:=e;rw[cO,cO];exact⟨r,v',hv,ht⟩
  ·have i:o≠l\/q≠k:=E;rw[eE _ _ i,eE _ _ i];obtain⟨m,v,W,V⟩:=h.tree o q g u;exact⟨m,v,Z o q v W i,V.chg y (λj s=>h.dis o q l k g u A z E j s)⟩
 ·have C:∀d f,d<9->f<pw d->eP S l k H d f j->(d=l/\f=k/\(S l k j\/w.heap.size<=j))\/((d≠l\/f≠k)/\S d f j):=by
   intro d f t x s;by_cases e:d=l/\f=k
   ·obtain⟨rfl,rfl⟩:=e;rw[cO]at s;exact Ei ⟨rfl,rfl,hS j s⟩
   ·have i:d≠l\/f≠k:=E;rw[eE _ _ i]at s;exact Ej ⟨i,s⟩
  have F:∀d f,d<9->f<pw d->S d f j->j<w.heap.size:=λd f t x s=>h.lt j (Ej (Ej ⟨d,f,t,x,s⟩));rcases C d f t x s with ⟨e1,I,J⟩ | ⟨e1,I⟩<;>rcases C R P M N T with ⟨f1,K,L⟩ | ⟨f1,K⟩
  ·omega
  ·rcases J with J | J
   ·exact h.dis l k R P A z M N E j J K
   ·have :=F R P M N K;omega
  ·rcases L with L | L
   ·exact h.dis l k d f A z t x E j L I
   ·have :=F d f t x I;omega
  ·exact h.dis d f R P t x M N i j I K
theorem WaveE.vb (h:WaveE B X w p D O n vis Vb)(g:∀l k v,Vb l k v->Vc l k v):WaveE B X w p D O n vis Vc:=by
 obtain⟨S,a,c⟩:=h.i;exact⟨⟨S,⟨a.head,a.rty,a.rows,λl k e d=>by obtain⟨m,v,b,f⟩:=a.tree l k e d;exact⟨m,v,g l k v b,f⟩,a.dis⟩,c⟩,h.le,h.x⟩
theorem WaveE.any (h:WaveE B X w p D O n vis Vb):WaveE B X w p D O n vis bF:=h.vb (λ_ _ _ _=>trivial)
theorem WaveE.less (h:WaveE B X w p D O n vis Vb)(d:Below w w w')(m:∀k,Y k->X k\/w.heap.size<=k)(l:∀k,Y k->k<w'.heap.size):WaveE B Y w' p D O n vis Vb:=by
 obtain⟨S,b,c⟩:=h.i;refine⟨⟨S,b.chg (Z:=λ_=>False) (Chg.of_below d) (λ_ _ f=>f),λj a=>⟨(c j a).1,λe=>(m j e).elim (c j a).2 (λg=>by have :=b.lt j a;omega)⟩⟩,aV4 h.le d.size,l⟩
theorem WaveE.below (h:WaveE B X w p D O n vis Vb)(b:Below w w w'):WaveE B X w' p D O n vis Vb:=h.less b (λk a=>Ei a) (λk a=>aV7 (h.x k a) b.size)
theorem WaveE.drewN (h:WaveE B X w p D O n vis Vb)(m:Nat):WaveE B X (w.drewN m) p D O n vis Vb:=h.below ⟨rfl,rfl,rfl,aV3 _,λ_ _=>rfl⟩
theorem WaveE.chg {Z:Nat->Prop}(h:WaveE B X w p D O n vis Vb)(b:Chg Z w w')(e:∀k,exT B X k->k<w.heap.size->¬Z k):WaveE B X w' p D O n vis Vb:=by
 obtain⟨S,c,d⟩:=h.i;exact⟨⟨S,c.chg b (λk a=>e k (d k a) (c.lt k a)),d⟩,aV4 h.le b.size,λk a=>aV7 (h.x k a) b.size⟩
theorem WaveE.mono (h:WaveE B X w p D O n vis Vb)(c:∀k,Y k->X k):WaveE B Y w p D O n vis Vb:=by
 obtain⟨S,d,a⟩:=h.i;exact⟨⟨S,d,λj b=>⟨(a j b).1,λe=>(a j b).2 (c j e)⟩⟩,h.le,λk f=>h.x k (c k f)⟩
theorem WaveE.step (h:WaveE B X w p D O n vis Vb){l k:Nat}(u:l<9)(s:k<pw l):∃(S:Nat->Prop) (g:Nat) (v:Int),Vb l k v/\TreeIs S w (D.Q l k) (O l k) g v/\(∀j,S j->exT B X j)/\∀w' o I b J Vc,TreeIs o w' (D.Q l k) I b J->(∀j,o j->S j\/w.heap.size<=j)->Chg S w w'->Vc l k J->(∀H F v,Vb H F v->(H≠l\/F≠k)->Vc H F v)->WaveE B X w' p D (eP O l k I) n vis Vc/\Chg (exT B X) w w':=by
 obtain⟨S,K,q⟩:=h.i;obtain⟨m,v,N,M⟩:=K.tree l k u s;have c:∀j,S l k j->exT B X j:=λj a=>q j (Ej (Ej ⟨l,k,u,s,a⟩));refine⟨S l k,m,v,N,M,c,λw' o I b J Vc z L r A C=>⟨⟨⟨eP S l k o,K.step u s z L r A C,?_⟩,aV4 h.le r.size,λj a=>aV7 (h.x j a) r.size⟩,r.mono c⟩⟩;rintro j (rfl | ⟨f,d,rfl⟩ | ⟨f,G,d,t,a⟩)
 ·exact q _ (Ei rfl)
 ·exact q _ (Ej (Ei ⟨f,d,rfl⟩))
 ·by_cases e:f=l/\G=k
  ·obtain⟨rfl,rfl⟩:=e;rw[cO]at a;rcases L j a with a | a
   ·exact c j a
   ·exact⟨aV4 h.le a,λP=>by have :=h.x j P;omega⟩
  ·have y:f≠l\/G≠k:=E;rw[eE _ _ y]at a;exact q j (Ej (Ej ⟨f,G,d,t,a⟩))
theorem WaveE.head (h:WaveE B X w p D O n vis Vb):w.heap[p]? =some (.cells (Je D n vis) 178 (0,0))/\exT B X p:=by
 obtain⟨S,a,b⟩:=h.i;exact⟨a.head,b p (Ei rfl)⟩
theorem WaveE.put (h:WaveE B X w p D O n vis Vb){b:Nat}(a:Chg (λj=>j=p) w w')(f:w'.heap[p]? =some (.cells (Je D b vis') 178 (0,0))):WaveE B X w' p D O b vis' Vb:=by
 obtain⟨S,c,d⟩:=h.i;exact⟨⟨S,c.put a f,d⟩,aV4 h.le a.size,λj e=>aV7 (h.x j e) a.size⟩
theorem WaveE.setVis (h:WaveE B X w p D O n vis Vb)(v:Int):WaveE B X (w.setCell (p,10) v) p D O n v Vb/\Chg (exT B X) w (w.setCell (p,10) v):=by
 have a:Chg (λj=>j=p) w (w.setCell (p,10) v):=Chg.refl.setCell (S:=λj=>j=p) (p,10) (Ei rfl) _;exact⟨h.put a (bc7 w p 10 _ _ _ h.head.1),a.mono (λj b=>by subst b;exact h.head.2)⟩
theorem WaveE.setN (h:WaveE B X w p D O n vis Vb)(m:Nat):WaveE B X (w.setCell (p,9) m) p D O m vis Vb/\Chg (exT B X) w (w.setCell (p,9) m):=by
 have a:Chg (λj=>j=p) w (w.setCell (p,9) m):=Chg.refl.setCell (S:=λj=>j=p) (p,9) (Ei rfl) _;exact⟨h.put a (bc7 w p 9 _ _ _ h.head.1),a.mono (λj b=>by subst b;exact h.head.2)⟩
theorem WaveE.cells (h:WaveE B X w p D O n vis Vb):(∀l,l<9->w.cell? (p,l)=some (D.row l))/\w.cell? (p,9)=n/\w.cell? (p,10)=vis/\(∀j,w.frozen? ⟨p,j,none⟩=false)/\p<w:=by
 have a:=h.head.1;refine⟨λl b=>?_,by rw[bb8 w p 9 _ _ _ a];rfl,by rw[bb8 w p 10 _ _ _ a];rfl,λj=>bc4 w p j _ _ a,(aJ2.1 a).1⟩;rw[bb8 w p l _ _ _ a];have :l=0\/l=1\/l=2\/l=3\/l=4\/l=5\/l=6\/l=7\/l=8:=E;rcases this with rfl | rfl | rfl | rfl | rfl | rfl | rfl | rfl | rfl<;>rfl
theorem WaveE.shelf (h:WaveE B X w p D O n vis Vb){l k:Nat}(c:l<9)(b:k<pw l):w.cell? (D.G l,k*3)=some (.pointer (D.Q l k,0))/\w.cell? (D.G l,k*3+1)=l/\w.cell? (D.G l,k*3+2)=k:=by
 obtain⟨S,a,_⟩:=h.i;exact a.rows l k c b
end
def oP(l k M:Nat):Nat->Nat->Int->Prop:=λl' k' v=>l'=l->k'=k->0<=v/\v<=M
section
variable {B:Nat}{X:Nat->Prop}{w w':World}{p n:Nat}{D:WD}{O:Nat->Nat->Option ST}{vis:Int}{Vb:Nat->Nat->Int->Prop}{l k:Nat}
theorem sY{M v:Nat}(h:v<=M):oP l k M l k (v:Int):=λ_ _=>⟨E,by exact_mod_cast h⟩
theorem sZ{M:Nat}{Vb:Nat->Nat->Int->Prop}:∀b a v,Vb b a v->(b≠l\/a≠k)->oP l k M b a v:=λb a v _ c d e=>E
theorem WaveE.tLen (h:WaveE B X w p D O n vis Vb)(c:l<9)(b:k<pw l):Calls prog 144 #[.pointer (D.Q l k,0)] w λe w'=>e= .returned (.int .i64 (aF (O l k)).length)/\∃m,w'=w.drewN m:=by
 obtain⟨S,a,v,i,f,g,d⟩:=h.step c b;exact aH2 f
theorem WaveE.tShape (h:WaveE B X w p D O n vis Vb)(c:l<9)(b:k<pw l):Calls prog 145 #[.pointer (D.Q l k,0)] w λe w'=>e= .returned (xV (O l k))/\Below w w w':=by
 obtain⟨S,a,v,i,f,g,d⟩:=h.step c b;exact ai3 f
theorem WaveE.tGood (h:WaveE B X w p D O n vis Vb)(d:l<9)(c:k<pw l):pS (O l k)/\(aF (O l k)).length<=2147483648:=by
 obtain⟨S,b,v,g,a,f,e⟩:=h.step d c;exact⟨a.good,a.len⟩
theorem WaveE.tRank (h:WaveE B X w p D O n vis Vb)(m:l<9)(i:k<pw l)(j:Int)(x:Bool):Calls prog 210 #[.pointer (D.Q l k,0),j, .bool x] w λe w'=>e= .returned (aM (aF (O l k)) j.toNat x:Int)/\WaveE B X w' p D O n vis (oP l k (aP (O l k)+1))/\Chg (exT B X) w w':=by
 obtain⟨S,a,v,s,o,r,b⟩:=h.step m i;refine(Oc o j x).mono ?_;rintro e w' ⟨rfl,⟨q,d,c⟩,f⟩;have :=b w' S _ a q (oP l k (aP (O l k)+1)) c (λj g=>Ei g) f (sY d) sZ;rw[yH]at this;exact⟨rfl,this⟩
theorem WaveE.tGet (h:WaveE B X w p D O n vis Vb)(m:l<9)(i:k<pw l)(j:Nat)(b:j<(aF (O l k)).length):Calls prog 158 #[.pointer (D.Q l k,0),j] w λe w'=>e= .returned (.tuple #[.bool (aX (aF (O l k)) j), .int .i64 0])/\WaveE B X w' p D O n vis (oP l k (aP (O l k)+1))/\Chg (exT B X) w w':=by
 obtain⟨S,a,v,s,o,r,c⟩:=h.step m i;refine(aH1 o j b).mono ?_;rintro e w' ⟨rfl,⟨q,f,d⟩,g⟩;have :=c w' S _ a q (oP l k (aP (O l k)+1)) d (λj b=>Ei b) g (sY f) sZ;rw[yH]at this;exact⟨rfl,this⟩
theorem WaveE.tSelect (h:WaveE B X w p D O n vis Vb)(q:l<9)(o:k<pw l)(a:BitTab w)(u:0<B)(j:Int)(x:Bool):Calls prog 178 #[.pointer (D.Q l k,0),j, .bool x] w λe w'=>e= .returned (cT (aF (O l k)) j x:Int)/\WaveE B X w' p D O n vis (oP l k (aP (O l k)+1))/\Chg (exT B X) w w':=by
 obtain⟨S,b,v,y,s,g,c⟩:=h.step q o;refine(Ef s a (λr=>by have :=(g _ r).1;omega) j x).mono ?_;rintro e w' ⟨rfl,⟨t,f,d⟩,i⟩;have :=c w' S _ b t (oP l k (aP (O l k)+1)) d (λj m=>Ei m) i (sY f) sZ;rw[yH]at this;exact⟨rfl,this⟩
theorem WaveE.tInsert (h:WaveE B X w p D O n vis Vb)(y:l<9)(t:k<pw l)(j:Nat)(s:j<=(aF (O l k)).length)(b:(aF (O l k)).length<2147483648)(x:Bool):Calls prog 216 #[.pointer (D.Q l k,0),j, .bool x] w λe w'=>e= .returned (.int .i64 0)/\WaveE B X w' p D (eP O l k (oI (O l k) j x)) n vis (oP l k (7*aP (O l k)+2))/\Chg (exT B X) w w':=by
 obtain⟨S,g,v,C,z,A,d⟩:=h.step y t;refine(Xf z b j s x).mono ?_;rintro e w' ⟨rfl,a,F,⟨⟨i,f,c⟩,r⟩,m,o⟩;obtain⟨u,rfl⟩:=aK0 m;exact⟨rfl,d w' i _ a u (oP l k (7*aP (O l k)+2)) f c r (sY (by have q:(u:Int)<=7*(aP (O l k):Int)+2:=o;omega)) sZ⟩
theorem WaveE.tDelete (h:WaveE B X w p D O n vis Vb)(s:l<9)(r:k<pw l)(j:Nat)(q:j<(aF (O l k)).length):Calls prog 212 #[.pointer (D.Q l k,0),j] w λe w'=>e= .returned (.tuple #[.bool (aX (aF (O l k)) j), .int .i64 0])/\WaveE B X w' p D (eP O l k (jO (O l k) j)) n vis (oP l k (7*aP (O l k)+2))/\Chg (exT B X) w w':=by
 obtain⟨S,a,v,y,t,x,c⟩:=h.step s r;refine(Wz t j q).mono ?_;rintro e w' ⟨rfl,z,⟨⟨f,d,b⟩,o⟩,g,i⟩;obtain⟨u,rfl⟩:=aK0 g;exact⟨rfl,c w' f _ a u (oP l k (7*aP (O l k)+2)) d b o (sY (by have m:(u:Int)<=7*(aP (O l k):Int)+2:=i;omega)) sZ⟩
end
theorem kK{P:Program}{w:World}{o:Oper}{a:Act}{K:Act->World->Prop}{Q:Exit->Act->World->Prop}(s x:Operand)(t:TypeId)(ho:o.op= .call {callee:= .builtin .append,args:=#[s,x],argTypes:=#[t,t]})(k:Nat)(e:TypeId){z:Value}{f d:Nat}(q:(P.info? e).map (λi=>(i.zero,i.size,i.bytes))=some (some z,d,f))(ht:P.underlying t=some (.slice e))(L:z.cells.size=d)(C:0<d)(v:Value)(n:Nat)(M:List Value)(hs:a.eval s=v)(B:w.ownsRow k e d v n M)(b c:Nat)(D:List Value)(hx:a.eval x= .slice b 1 c)(hl:D.length=d)(J:∀j u,D[j]? =some u->w.cell? ⟨b,j,none⟩=some u)(S:∀u∈D,u.oneCell'=true)(F:n+1<=maxLen)(l:(n+1)*f<=140737488355328)(p:k<=w)(h:∀g A y,y.ownsRow k e d (.slice (some ⟨g,0,none⟩) (n+1) A) (n+1) (M++D)->w.grownBy y v.ownBlock->(v.ownBlock=some g\/w.heap.size<=g)->g<y.heap.size->K (a.put o.dst (.slice g (n+1) A)) y):Oper.wp P o a w K Q:=by
 obtain⟨i,X,hz,I,G⟩:=bd2 q;obtain⟨v',y,hr,N,T,_,U⟩:=run_append_own_at (P:=P) w k t o.type e i z d f ht X hz I G L C v n M B b 1 c D E (λj u Y=>by rw[aI7,aY0];exact J j u Y) S F l p;unfold Oper.wp execOp;simp only[ho,resolve,invoke,builtin,Sem.run_bind,Sem.run_pure,aY9,aQ9,aQ4,aQ7,hs,hx,hr];obtain⟨O,R,rfl,Z,V⟩:=aD N;cases O with
 | none=>exact absurd (Z rfl).1 E
 | some ad=>
  obtain⟨g,rfl,W,H,m⟩:=V _ rfl;refine h g R y N T ?_ H;rcases U with r | r
  ·left;rw[<-r];exact m
  ·right;rw[r]at m;injection m with m;omega
theorem yI{P:Program}{w:World}{C:Array Oper}{p:List Oper}{o:Oper}{a:Act}{Q:Exit->Act->World->Prop}(G:o.guard=none)(s x:Operand)(t:TypeId)(U:o.op= .call {callee:= .builtin .append,args:=#[s,x],argTypes:=#[t,t]})(f:Nat)(e:TypeId){z:Value}{k d:Nat}(r:(P.info? e).map (λi=>(i.zero,i.size,i.bytes))=some (some z,d,k))(W:P.underlying t=some (.slice e))(I:z.cells.size=d)(B:0<d)(v:Value)(n:Nat)(J:List Value)(V:a.eval s=v)(A:w.ownsRow f e d v n J)(b c:Nat)(D:List Value)(X:a.eval x= .slice b 1 c)(T:D.length=d)(H:∀j u,D[j]? =some u->w.cell? ⟨b,j,none⟩=some u)(R:∀u∈D,u.oneCell'=true)(F:n+1<=maxLen)(m:(n+1)*k<=140737488355328)(q:f<=w)(h:∀g l y,y.ownsRow f e d (.slice (some ⟨g,0,none⟩) (n+1) l) (n+1) (J++D)->w.grownBy y v.ownBlock->(v.ownBlock=some g\/w.heap.size<=g)->g<y.heap.size->wpList P C Q p (a.put o.dst (.slice g (n+1) l)) y):wpList P C Q (o::p) a w:=
 wpList_plain G λK S=>kK s x t U f e r W I B v n J V A b c D X T H R F m q (λg l y L M N O=>S _ _ (h g l y L M N O))
theorem Pe{B:Nat}{w a:World}(h:Below B w a)(n:Nat):Below B w (a.drewN n):=⟨h.os,h.tape,h.output,h.size,h.block⟩
theorem Gd(a:Int):∃u:Int,0<=u/\u<18446744073709551616/\IntKind.u64.wrap a=u:=⟨IntKind.u64.wrap a,by rw[aK7];omega,by rw[aK7];omega,rfl⟩
theorem Ug:∀h,(bE h).2<=2*(bE h).1
 | 0=>by simp[bE]
 | h+1=>by have :=oW h;simp only[bE];omega
theorem Uf{h:Nat}:(bE (h+1)).1=(bE h).2/\(bE (h+1)).2=(bE h).1+(bE h).2:=⟨rfl,rfl⟩
theorem Mt(h:Nat)(H:h<=1000000000000)(w:World):Calls prog 141 #[(h:Int)] w λe D=>e= .returned (.int .i64 (min (bE h).1 2147483648:Nat))/\∃n,D=w.drewN n:=by
 go_in;go_wp2;go_loopw [3,4,5] (λa b i wr=>∃k:Nat,k<=h/\i= .int .i64 k/\a= .int .i64 ((bE k).1:Nat)/\b= .int .i64 ((bE k).2:Nat)/\(bE k).1<=4294967296/\∃n,wr=w.drewN n) (λ_ _ i _=>h-(intOf i).toNat);exact⟨0,aY1 _,rfl,rfl,rfl,Ed,0,rfl⟩;case round=>
  obtain⟨k,B,rfl,rfl,rfl,C,n,rfl⟩:=hrel;have s:=Ug k;have l:=oW k;obtain⟨q,r⟩:=Uf (h:=k);by_cases c:k<h/\(bE k).1<2147483648
  ·obtain⟨c,v⟩:=c;have d:=θ q;have m:=θ r;clear q r;generalize (bE k).1=a at *;generalize (bE k).2=b at *;have z:decide ((a:Int)<2147483648)=true:=bc2 E;have G:IntKind.i64.wrap ((a:Int)+(b:Int))=(a:Int)+(b:Int):=aK8 _ E;have p:Hid (b<=4294967296):=(E:b<=4294967296);clear v;go_wp2;go_roundw;exact⟨k+1,E,by go_num,by rw[d.o],by rw[m.o];go_num,by rw[d.o];exact p.o,n,rfl⟩;simp[intOf];omega
  ·have y:Hid (((min (bE k).1 2147483648:Nat):Int)=((min (bE h).1 2147483648:Nat):Int)):=by
    show _=_;by_cases u:k=h
    ·rw[u]
    ·have :=zL (h:=k) (g:=h) B;omega
   clear q r;generalize (bE k).1=a at *;generalize (bE k).2=b at *;have j:Hid ((k<h->¬a<2147483648)/\(a<2147483648->k=h)):=⟨λl s=>c ⟨l,s⟩,λl=>E⟩;by_cases f:a<2147483648
   ·have I:min (a:Int) 2147483648=(a:Int):=E;obtain rfl:=j.o.2 f;clear f c j;go_wp2_with fail;all_goals
     go_ret;exact⟨bA (by rw[<-y.o];omega),n,rfl⟩
   ·have z:decide ((a:Int)<2147483648)=false:=bc0 E;have F:=θ f;have x:Hid (2147483648=((min (bE h).1 2147483648:Nat):Int)):=by show _=_;rw[<-y.o];omega
    rcases(E:(2147483648:Int)<(a:Int)\/(a:Int)=2147483648)with t | t
    ·clear f c j;by_cases A:k<h;all_goals
      go_wp2_with fail;all_goals
       go_ret;exact⟨bA x.o,n,rfl⟩
    ·rw[t]at z⊢;clear f c j t l s;by_cases A:k<h;all_goals
      go_wp2_with fail;all_goals
       go_ret;exact⟨bA x.o,n,rfl⟩
theorem Ms(n:Nat)(c:n<=1000000000000)(w:World):Calls prog 142 #[(n:Int)] w λe b=>e= .returned (.int .i64 (n/32:Nat))/\w=b:=by
 have e:((n/32:Nat):Int)=(n:Int)/128*4+(n:Int)%128*4/128:=E;have a:=θ e;clear e;go_in;go_wp2;go_ret;exact⟨bA a.o.symm,rfl⟩
theorem box4{w:World}{q:Nat}{T:TypeId}{a b c d:Value}(h:w.heap[q]? =some (.cells #[a,b,c,d] T (0,0))):w.cell? q=some a/\w.cell? (q,1)=some b/\w.cell? (q,2)=some c/\w.cell? (q,3)=some d:=
 ⟨by rw[bb8 w q 0 _ _ _ h];rfl,by rw[bb8 w q 1 _ _ _ h];rfl,by rw[bb8 w q 2 _ _ _ h];rfl,by rw[bb8 w q 3 _ _ _ h];rfl⟩
theorem qZ{w b c:World}{N q:Nat}{f g i j:Value}(k:N<=w)(h:(b.cell? q=some f/\b.cell? (q,1)=some g/\b.cell? (q,2)=some i/\b.cell? (q,3)=some j)/\Below N w b)(d:Below b b c):(c.cell? q=some f/\c.cell? (q,1)=some g/\c.cell? (q,2)=some i/\c.cell? (q,3)=some j)/\Below N w c:=by
 have e:=ba8 b _ h.1.1;exact⟨⟨(d.cell (p:=(q,0)) e).trans h.1.1,(d.cell (p:=(q,1)) e).trans h.1.2.1,(d.cell (p:=(q,2)) e).trans h.1.2.2.1,(d.cell (p:=(q,3)) e).trans h.1.2.2.2⟩,h.2.trans (d.mono (aV4 k h.2.size))⟩
theorem Hl{t:ST}(c:t.Avl)(b:t.Root)(d:t.bits.length<=2147483648):1<=t.bits.length/\t.high<=1000000000/\min (bE t.high).1 2147483648<=t.leaves/\1<=t.leaves/\t.leaves<=t.bits.length/32+1/\t.size+1=2*t.leaves/\t.leaves<=1000000000:=by
 have e:=b.pos;have f:=jI b d;have g:=tG c;have h:=t.leaves_pos;have i:=b.len;have j:=t.size_leaves;omega
theorem Vs{o:Option ST}(hg:pS o)(hl:(aF o).length<=2147483648)(w:World):Calls prog 83 #[xV o] w λe w'=>e= .returned (.bool true)/\Below w.heap.size w w':=by
 cases o with
 | none=>
  show Calls _ _ #[.agg #[.int .i64 0, .int .i64 0, .int .i64 0, .int .i64 0]] w _;go_enter func83,ntmps83;go_wp2_with fail;go_ret;exact⟨rfl,(aJ6 _ _).alloc (aV3 _) _⟩
 | some t=>
  obtain⟨f1,f2,f3,f4,f5,f6,f7⟩:=Hl hg.1 hg.2 hl;have hl':t.bits.length<=2147483648:=hl;have HL:=θ (λw=>Mt t.high E w);have HF:=θ (λw=>Ms t.bits.length E w);show Calls _ _ #[.agg #[.int .i64 t.bits.length, .int .i64 t.high, .int .i64 t.leaves, .int .i64 t.size]] w _;clear hg hl;generalize t.bits.length=n at *;generalize t.high=h at *;generalize t.leaves=m at *;generalize t.size=z at *;generalize min (bE h).1 2147483648=q at *;generalize hg:n/32=g at *;have d0:((n:Int)==0)=false:=by rw[bb6];omega
  have d1:decide ((0:Int)<(n:Int))=true:=bc2 E;have d1n:decide (0<n)=true:=bc2 E;have d1p:0<n:=E;have d2:decide ((0:Int)<=(h:Int))=true:=bc2 E;have d3:decide (q<=m)=true:=bc2 f3;have d4:decide ((1:Int)<=(m:Int))=true:=bc2 E;have d4n:decide (1<=m)=true:=bc2 E;have d5:decide ((m:Int)-1<=(g:Int))=true:=bc2 E;have d6:((z:Int)==2*(m:Int)-1)=true:=by rw[bb7];omega
  have d7:IntKind.i64.wrap ((m:Int)-1)=(m:Int)-1:=aK8 _ E;have d8:IntKind.i64.wrap (2*(m:Int))=2*(m:Int):=aK8 _ E;have d9:IntKind.i64.wrap (2*(m:Int)-1)=2*(m:Int)-1:=aK8 _ E;clear hg f1 f2 f3 f4 f5 f6 f7 hl';go_enter func83,ntmps83;go_wp2_with fail;have HW:Hid (Below w.heap.size w ((w.alloc (.cells #[.int .i64 n, .int .i64 h, .int .i64 m, .int .i64 z] 85)))):=(aJ6 _ _).alloc (aV3 _) _;have hq:=bc6 w (.cells #[.int .i64 n, .int .i64 h, .int .i64 m, .int .i64 z] 85);have b0:=box4 hq;generalize w.alloc (.cells #[.int .i64 n, .int .i64 h, .int .i64 m, .int .i64 z] 85)=wb at *;have B0:Hid ((wb.drew.cell? ⟨w.heap.size,0,none⟩=some (.int .i64 n)/\wb.drew.cell? ⟨w.heap.size,1,none⟩=some (.int .i64 h)/\wb.drew.cell? ⟨w.heap.size,2,none⟩=some (.int .i64 m)/\wb.drew.cell? ⟨w.heap.size,3,none⟩=some (.int .i64 z))/\Below w.heap.size w wb.drew):=⟨b0,Pe HW.o 1⟩;clear hq b0 HW;refine aG (λw'=>(w'.cell? ⟨w.heap.size,0,none⟩=some (.int .i64 n)/\w'.cell? ⟨w.heap.size,1,none⟩=some (.int .i64 h)/\w'.cell? ⟨w.heap.size,2,none⟩=some (.int .i64 m)/\w'.cell? ⟨w.heap.size,3,none⟩=some (.int .i64 z))/\Below w.heap.size w w') Ek (B0.out) (λhh=>?_);refine rV 0 1 2 3 hh ?_;refine rV 4 5 6 7 hh ?_;refine rV 8 9 10 11 hh ?_;refine rt 12 hh ?_;refine rg 13 λκ hK=>?_;go_simp
  ((refine(HL.o _).mono ?_))
  rintro e w2 ⟨rfl,n2,rfl⟩;refine hK.out _ _ (qZ (aV3 _) hh ⟨rfl,rfl,rfl,aV3 _,λ_ _=>rfl⟩) ?_;intro hh;try simp only[pt]
  refine rV 14 15 16 17 hh ?_;refine rV 18 19 20 21 hh ?_;refine rV 22 23 24 25 hh ?_;refine rt 26 hh ?_;refine rg 27 λκ hK=>?_;go_simp
  ((refine(HF.o _).mono ?_))
  rintro e w2 ⟨rfl,rfl⟩;refine hK.out _ _ (qZ (aV3 _) hh ⟨rfl,rfl,rfl,aV3 _,λ_ _=>rfl⟩) ?_;intro hh;try simp only[pt]
  refine rV 28 29 30 31 hh ?_;refine rV 32 33 34 35 hh ?_;refine rV 36 37 38 39 hh ?_;refine rz ?_;have HHD:=θ hh.2;clear hh;go_wp2_with fail;go_ret;exact⟨rfl,HHD.o⟩
section
variable {B:Nat}{X:Nat->Prop}{w0 w w':World}{p made:Nat}{o:Option ST}{a:Option Addr}{L:List Bool}
end
theorem Yt{n k x:Nat}(b:k<4)(a:n/256^k=x):(bW n).take (k+1)=(bW n).take k++[((x%256:Nat):Int)]:=by
 subst a;obtain rfl | rfl | rfl | rfl:k=0\/k=1\/k=2\/k=3:=E
 all_goals simp[bW]
theorem xH(n:Nat)(w:World)(F:n<2^32):Calls prog 69 #[.int .u32 n] w (pR w w (bW n)):=by
 go_in;go_wp2;go_loopw [0,3,4] (λx v i u=>∃k:Nat,k<=4/\i= .int .i64 k/\x= .int .u32 (n/256^k:Nat)/\u.ownsRow w 5 1 v ((bW n).take k).length (((bW n).take k).map (Value.int .u8))/\Below w w u) (λ_ _ i _=>4-(intOf i).toNat);exact⟨0,aY1 _,rfl,by rw[Nat.pow_zero,Nat.div_one],bb2 _ _ _ _,aJ6 _ _⟩;as_aux_lemma=>
  obtain⟨k,A,rfl,rfl,b,m⟩:=hrel;have r:=θ m;have f:=θ b;have e:=m.size;by_cases q:k<4
  ·obtain⟨x,g⟩:=Ey (n/256^k);rw[g];have y:=θ g;have B:(k:Int)<4:=E;have p:((bW n).take k).length<=4:=by rw[aQ1];omega
   have s:=θ (Yt q g);obtain⟨D,d⟩:=Ey ((bW n).take k);rw[d]at f p s;clear b m g d;go_wp2_with (at_builtin;refine fM rfl _ _ 32 rfl w 5 Tryz.infoU8N aZ9 rfl _ _ _ rfl f.o rfl rfl ?d1 ?d2 ?d3 ?_);case d1=>unfold maxLen;omega
   case d2=>omega
   case d3=>exact e
   intro C t c a;have h:Hid (Below w w t):=θ (r.o.grown a e (λj z=>(f.o.lt j z).1));have l:Hid (t.ownsRow w 5 1 C ((bW n).take (k+1)).length (((bW n).take (k+1)).map (Value.int .u8))):=θ (by
    rw[s.o,aQ2,aP3];simpa using c)
   clear c a;go_wp2;go_roundw;exact⟨k+1,E,by first | rfl | go_num,by rw[aW8,<-aU9,y.o];simp,l.o,h.o⟩;simp[intOf];omega
  ·obtain rfl:k=4:=E;clear b;go_wp2;go_ret;exact⟨_,rfl,f.o,r.o⟩
theorem al1{n k:Nat}(a:k<4):(bW n)[k]? =some ((n/256^k%256:Nat):Int):=by
 obtain rfl | rfl | rfl | rfl:k=0\/k=1\/k=2\/k=3:=E
 all_goals simp[bW]
theorem or_fix{n k y z:Nat}(m:k<4)(f:n/256^k%256=y)(g:n%256^k=z):bits .or .u32 (z:Int) ((y:Int)*2^(8*k)%4294967296)=((n%256^(k+1):Nat):Int):=by
 have a:(256:Nat)^k=2^(8*k):=by rw[Nat.pow_mul]
 have d:z<2^(8*k):=by rw[<-g,<-a];exact aW2 _ (Nat.pow_pos E)
 have l:y<256:=by rw[<-f];exact aW2 _ E
 have e:n%256^(k+1)=2^(8*k)*y+z:=by rw[Nat.mod_pow_succ,f,g,a,Nat.add_comm]
 have b:2^(8*k)*y+z<4294967296:=by
  rw[<-e];refine aV7 (aW2 _ (Nat.pow_pos E)) (aV4 (aW7 E (show k+1<=4 by omega)) Ed)
 have c:=Nat.two_pow_add_eq_or_of_lt d y;have j:(y:Int)*2^(8*k)=((2^(8*k)*y:Nat):Int):=by rw[Int.natCast_mul,Int.mul_comm];simp
 rw[j,e];rw[c]at b⊢;have h:((z:Int)%2^32).toNat=z:=by
  have :z<4294967296:=by rw[<-c]at b;omega
  omega
 have i:(((2^(8*k)*y:Nat):Int)%4294967296%2^32).toNat=2^(8*k)*y:=by
  have :2^(8*k)*y<4294967296:=by rw[<-c]at b;omega
  generalize 2^(8*k)*y=q at this⊢;omega
 show IntKind.u32.wrap (((((z:Int)%2^32).toNat|||(((2^(8*k)*y:Nat):Int)%4294967296%2^32).toNat:Nat):Int))=_;rw[h,i,Nat.or_comm,IntKind.wrap_u32];omega
theorem aa7{l:List Int}{a n:Nat}(r:Option Addr)(pc:Nat)(w:World)(q:Reads w .u8 r l)(j:l.drop a=bW n)(B:n<2^32)(L:l.length<=1000000000):Calls prog 76 #[.slice r l.length pc,a] w (λe F=>e= .returned (.tuple #[.int .u32 n, .int .i64 0])/\F=w):=by
 have d:l.length=a+4:=by
  have :=bb9 List.length j;rw[aP5,eM]at this;omega
 have u:=θ q;have s:=θ j;have H:decide ((a:Int)<0)=false:=bc0 E;have I:wrap64 ((l.length:Int)-(a:Int))=4:=by rw[show (l.length:Int)-(a:Int)=4 by omega];unfold wrap64;omega
 have J:decide (l.length<a)=false:=bc0 E;have h:=θ d;clear q j d;go_in;go_wp2;go_loopw [6,23] (λx i G=>∃k:Nat,k<=4/\i= .int .i64 k/\x= .int .u32 (n%256^k:Nat)/\G=w) (λ_ i _=>4-(intOf i).toNat);exact⟨0,aY1 _,rfl,by rw[Nat.pow_zero,Nat.mod_one];rfl,rfl⟩;as_aux_lemma=>
  obtain⟨k,A,rfl,rfl,rfl⟩:=hrel;have d:=h.o;by_cases f:k<4
  ·obtain⟨y,g⟩:=Ey (n/256^k%256);obtain⟨z,m⟩:=Ey (n%256^k);obtain⟨b,p,rfl,v,c⟩:=u.o.some E;have K:wr.cell? (b,p+(a+k))=some (.int .u8 (y:Int)):=by
    have :=c (a+k) E;have e:l[a+k]? =some (y:Int):=by
     have :=al1 (n:=n) f;rw[<-s.o,aN9,g]at this;exact this
    rw[e]at this;exact this
   rw[m];clear c;have C:y<256:=by rw[<-g];exact aW2 _ E
   have D:(y:Int)%4294967296=y:=E;have t:=θ (or_fix f g m);clear g m;go_wp2_with fail;refine⟨⟨k+1,E,by first | rfl | go_num,by rw[t.o],trivial⟩,?_⟩;simp[intOf];omega
  ·obtain rfl:k=4:=E;have e:n%256^4=n:=aW1 B;rw[e];go_wp2;go_ret2;exact Er
theorem aj3{c:Nat}(h:c<256):bits .and .u8 (c:Int) 127=((c%128:Nat):Int):=by
 have :=Rj c;rw[show (c:Int)%256=c by omega]at this;exact this
theorem or_low{x c:Nat}(f:x<=144115188075855871):bits .or .u64 ((x:Int)*2^7%18446744073709551616) ((c%128:Nat):Int)=((x*128+c%128:Nat):Int):=by
 have b:c%128<2^7:=aW2 _ E;have a:=Nat.two_pow_add_eq_or_of_lt b x;have d:(((x:Int)*2^7%18446744073709551616)%2^64).toNat=2^7*x:=E;have e:(((c%128:Nat):Int)%2^64).toNat=c%128:=E;show IntKind.u64.wrap (((((x:Int)*2^7%18446744073709551616)%2^64).toNat|||(((c%128:Nat):Int)%2^64).toNat:Nat):Int)=_;rw[d,e,<-a,aK7];omega
theorem tQ{l r:List Int}{a n:Nat}(X:Option Addr)(pc:Nat)(w:World)(U:Reads w .u8 X l)(H:l.drop a=aK n++r)(K:n<2^64)(hk:l.length<=1000000000)(a3:l.length<=pc)(V:pc<=9223372036854775807):Calls prog 135 #[.slice X l.length pc,a] w (λe w'=>e= .returned (.tuple #[.int .u64 n, .int .i64 ((a+(nJ n+1):Nat):Int), .int .i64 0])/\w'=w):=by
 have m:a+(nJ n+1)<=l.length:=by
  have :=bb9 List.length H;rw[aP5,aP3,aQ]at this;omega
 have HP:=θ U;have Y:=θ H;have HN:=θ K;obtain⟨b,M,rfl,a0,j⟩:=U.some E;have Z:=θ j;have d2:decide ((a:Int)<0)=false:=bc0 E;have d4:decide (l.length<a)=false:=bc0 E;have z:=θ m;have T:a<=l.length:=E;have h9:=cD K;clear H m j K;go_in;go_wp2_with fail
 ·have :=z.o;omega
 go_loopw [7,23] (λx i wx=>∃k:Nat,k<=nJ n/\i= .int .i64 k/\x= .int .u64 (pY n k:Nat)/\wx=w) (λ_ i _=>nJ n+1-(intOf i).toNat);exact⟨0,aY1 _,rfl,by rw[Zc];rfl,rfl⟩;as_aux_lemma=>
  obtain⟨k,y,rfl,rfl,rfl⟩:=hrel;obtain⟨x,C⟩:=Ey (pY n k);obtain⟨c,u⟩:=Ey (fS n k);have L:x<=144115188075855871:=by
   have s:=aB2 (N:=n) y;have :=HN.o;rw[C]at s;omega
  have I:c<256:=u▸Mc n k;have m:=z.o;have a1:wr.cell? (b,M+a+k)=some (.int .u8 (c:Int)):=by
   rw[aU3];have :=Z.o (a+k) E;have e:l[a+k]? =some (c:Int):=by
    have G:=Az y;have S:(List.drop a l)[k]? =(aK n)[k]? :=by rw[Y.o,aN6 (by rw[aQ];omega)]
    rw[aN9]at S;rw[S,G,u]
   rw[e]at this;exact this
  have d:¬(k=0/\c=128):=by rintro⟨rfl,h⟩;exact Py n (u.trans h)
  have g:=Zb y;rw[C,u]at g;have g1:=aj3 I;have R:=or_low (c:=c) L;have HX:=θ C;rw[C];have A:=θ g;have D:c<128↔k=nJ n:=by
   constructor
   ·intro h;by_cases G:k<nJ n
    ·have :=Dk G;rw[u]at this;omega
    ·omega
   ·rintro rfl;have :=Dj n;rw[u]at this;omega
  clear C g u;have a4:decide ((144115188075855871:Int)<(x:Int))=false:=bc0 E;have W:decide (144115188075855871<x)=false:=bc0 E;have a2:k<l.length-a:=E;have p:k=nJ n->(Value.int .u64 (bits .or .u64 ((x:Int)*128) ((c:Int)%128))=Value.int .u64 (n:Int)):=by
   intro h;have Q:=A.o;rw[h,al3]at Q;rw[Q,<-R,show (x:Int)*2^7%18446744073709551616=(x:Int)*128 by omega];simp
  have q:Value.int .u64 (bits .or .u64 ((x:Int)*128) ((c:Int)%128))=Value.int .u64 (pY n (k+1):Nat):=by
   rw[A.o,<-R,show (x:Int)*2^7%18446744073709551616=(x:Int)*128 by omega];simp
  have P:=θ p;have O:=θ q;clear p q m;by_cases s:k=nJ n
  ·have B:c<128:=D.2 s;have f:=θ s;clear D s;by_cases t:k=0
   ·have J:((c:Int)==128)=false:=by rw[bb6];intro e;exact d ⟨t,E⟩
    have F:=θ t;have v:((k:Int)==0)=true:=by rw[bb7];omega
    clear d t;go_wp2_with fail;go_ret3;refine⟨?_,rfl⟩;rw[P.out f.o,show (a:Int)+(k:Int)+1=((a+(nJ n+1):Nat):Int) by have :=f.o;omega];rfl
   ·have v:((k:Int)==0)=false:=by rw[bb6];omega
    clear d;go_wp2_with fail;go_ret3;refine⟨?_,rfl⟩;rw[P.out f.o,show (a:Int)+(k:Int)+1=((a+(nJ n+1):Nat):Int) by have :=f.o;omega];rfl
  ·have B:¬c<128:=λh=>s (D.1 h);have f:=θ s;clear D s;by_cases t:k=0
   ·have J:((c:Int)==128)=false:=by rw[bb6];intro e;exact d ⟨t,E⟩
    have F:=θ t;have v:((k:Int)==0)=true:=by rw[bb7];omega
    clear d t;go_wp2_with fail;refine⟨⟨k+1,by have :=f.o;omega,by first | rfl | go_num,O.out,trivial⟩,?_⟩;simp[intOf];omega
   ·have v:((k:Int)==0)=false:=by rw[bb6];omega
    clear d;go_wp2_with fail;refine⟨⟨k+1,by have :=f.o;omega,by first | rfl | go_num,O.out,trivial⟩,?_⟩;simp[intOf];omega
theorem Gi{s:Nat}(h:s<2^32):bits .and .u32 (s:Int) 1=((s%2:Nat):Int):=by
 have a:((s:Int)%2^32).toNat=s:=E;have b:((1:Int)%2^32).toNat=1:=Ed;show IntKind.u32.wrap (((((s:Int)%2^32).toNat&&&((1:Int)%2^32).toNat:Nat)):Int)=_;rw[a,b,Nat.and_one_is_mod,IntKind.wrap_u32];omega
theorem yJ{a b:Nat}(f:a<2^32)(g:b<2^32):bits .xor .u32 (a:Int) (b:Int)=((a^^^b:Nat):Int):=by
 have c:((a:Int)%2^32).toNat=a:=E;have d:((b:Int)%2^32).toNat=b:=E;have e:a^^^b<2^32:=Nat.xor_lt_two_pow f g;show IntKind.u32.wrap (((((a:Int)%2^32).toNat^^^((b:Int)%2^32).toNat:Nat)):Int)=_;rw[c,d,IntKind.wrap_u32];generalize a^^^b=q at e⊢;omega
theorem Tv(s:Nat)(w:World)(g:s<2^32):Calls prog 225 #[.int .u32 s, .bool false] w (λe h=>e= .returned (.int .u32 (dV s))/\w=h):=by
 have d:=Gi g;have f:=yJ (a:=s/2) (b:=3988292384) E E;by_cases c:s%2=1
 ·rw[c]at d;have e:dV s=(s/2)^^^3988292384:=by unfold dV;rw[bd0 c]
  rw[e];clear c e;go_in;go_wp2;go_ret;exact⟨by rw[<-f];rfl,rfl⟩
 ·rw[show s%2=0 by omega]at d;have e:dV s=s/2:=by unfold dV;rw[bc9 c]
  rw[e];clear c e;go_in;go_wp2;go_ret;exact⟨by rfl,rfl⟩
theorem To(w:World):(zeroValue 214).run prog w= .ok (.agg (aI (λ_=> .int .u32 0) 256).toArray) w:=Ek
theorem aI2{f:Nat->Int}{j n:Nat}{x:Int}{k:IntKind}:aI (λi=>if i=j then Value.int k x else Value.int k (f i)) n=aI (λi=>Value.int k (if i=j then x else f i)) n:=
 cY (λi _=>by split<;>rfl)
def gT:Array Value:=(aI (λi=> .int .u32 (dW 8 i:Nat)) 256).toArray
def Tab(w:World)(Q:Nat)(f:Nat->Int):Prop:=w.heap[Q]? =some (.cells (aI (λi=> .int .u32 (f i)) 256).toArray 214 (0,0))
theorem Tab.set {w:World}{Q:Nat}{f:Nat->Int}(h:Tab w Q f)(j:Nat)(x:Int):Tab (w.setCell (Q,j) (.int .u32 x)) Q (λi=>if i=j then x else f i):=by
 have :=pP (s:=j) h (.int .u32 x);rw[aI2]at this;exact this
theorem Tab.aside {w:World}{Q P:Nat}{f:Nat->Int}(h:Tab w Q f)(a:Q≠P)(j:Nat)(v:Value):Tab (w.setCell (P,j) v) Q f:=by
 unfold Tab;rw[heap_setCell_other _ _ _ _ a];exact h
theorem Ip{w:World}{Q:Nat}{f:Nat->Int}(h:Tab w Q f):(storeCells Q gT.toList).run prog w= .ok () (w.setRow Q gT):=by
 have :=run_storeCells_from (P:=prog) Q _ gT.toList 0 _ w h (by simp[gT,aI]) (by decide+kernel);simpa using this
theorem vR{B Q:Nat}{w a:World}(h:Below B w a)(d:B<=Q)(c:Array Value):Below B w (a.setRow Q c):=
 ⟨h.os,h.tape,h.output,by rw[setRow_size];exact h.size,λk b=>by rw[setRow_other _ _ _ _ E];exact h.block k b⟩
theorem Ko(w:World):Calls prog 192 #[] w (λe W=>e= .returned (.agg gT)/\Below w w W):=by
 have U:=To;have c:Tab ((w.alloc (.cells (aI (λ_=> .int .u32 0) 256).toArray 214)).alloc (.cells (aI (λ_=> .int .u32 0) 256).toArray 214)) w (λ_=>0):=heap_alloc2_old w _ _;have a:Tab ((w.alloc (.cells (aI (λ_=> .int .u32 0) 256).toArray 214)).alloc (.cells (aI (λ_=> .int .u32 0) 256).toArray 214)) (w.heap.size+1) (λ_=>0):=heap_alloc2_new w _ _;have b:Below w w ((w.alloc (.cells (aI (λ_=> .int .u32 0) 256).toArray 214)).alloc (.cells (aI (λ_=> .int .u32 0) 256).toArray 214)):=((aJ6 _ _).alloc (aV3 _) _).alloc Es _;have B:=θ c;have C:=θ a;have D:=θ b;generalize Q:aI (λ_=>Value.int .u32 0) 256=V at *;clear c a b Q;go_in;go_wp2_with fail;generalize (w.alloc (.cells V.toArray 214)).alloc (.cells V.toArray 214)=wa at *;clear U;go_loopw [3,2] (λA _ wr=>∃k:Nat,k<=256/\A= .int .i64 k/\Tab wr w (λ_=>0)/\(∃f,Tab wr (w.heap.size+1) f/\∀i,i<k->f i=(dW 8 i:Nat))/\Below w w wr) (λA _ _=>256-(intOf A).toNat);exact⟨0,E,rfl,B.o,⟨_,C.o,λi d=>E⟩,D.o⟩;as_aux_lemma=>
  clear B C D;obtain⟨k,Y,rfl,c,⟨f,a,g⟩,b⟩:=hrel;have t:=b.size;by_cases r:k<256
  ·have S:(k:Int)<256:=E;have F:=λj=>bc4 wr (w.heap.size+1) j _ _ a;have u:=kJ a r;have l:=θ (And.intro (c.aside (show w.heap.size≠w.heap.size+1 by omega) k (.int .u32 (k:Int))) (And.intro (a.set k (k:Int)) (dX b t (show w.heap.size<=w.heap.size+1 by omega) (s:=k) (.int .u32 (k:Int)))));have p:=θ g;clear c a b g;go_wp2_with fail;generalize z:wr.setCell (w.heap.size+1,k) (.int .u32 (k:Int))=wk at *;clear z u F t;go_loopw [10] (λn wr=>∃j:Nat,j<=8/\n= .int .i64 j/\Tab wr w (λ_=>0)/\(∃f,Tab wr (w.heap.size+1) f/\(∀i,i<k->f i=(dW 8 i:Nat))/\f k=(dW j k:Nat))/\Below w w wr) (λn _=>8-(intOf n).toNat);case atStart=>
    refine⟨0,E,rfl,l.o.1,⟨_,l.o.2.1,λi d=>?_,?_⟩,l.o.2.2⟩
    ·show (if i=k then _ else _)=_;rw[bc9 E];exact p.o i d
    ·show (if k=k then _ else _)=_;rw[bd0 rfl];rfl
   as_aux_lemma=>
    clear l p;obtain⟨j,X,rfl,c,⟨f,a,g,h⟩,b⟩:=hrel;have t:=b.size;by_cases T:j<8
    ·have R:(j:Int)<8:=E;have F:=λj=>bc4 wr (w.heap.size+1) j _ _ a;have u:=kJ a r;rw[h]at u;have m:=Tv (dW j k) wr (Ff j E);rw[<-kN]at m;have l:=θ (And.intro (c.aside (show w.heap.size≠w.heap.size+1 by omega) k (.int .u32 (dW (j+1) k:Nat))) (And.intro (a.set k (dW (j+1) k:Nat)) (dX b t (show w.heap.size<=w.heap.size+1 by omega) (s:=k) (.int .u32 (dW (j+1) k:Nat)))));have p:=θ g;have J:=θ m;clear c a b g m h;generalize I:dW (j+1) k=y at *;have K:=θ I;clear I;generalize dW j k=x at *;go_wp2_with (go_at_call 225;refine Cq J.o ?_);go_roundw;case rel=>
      refine⟨j+1,E,by go_num,l.o.1,⟨_,l.o.2.1,λi d=>?_,?_⟩,l.o.2.2⟩
      ·show (if i=k then _ else _)=_;rw[bc9 E];exact p.o i d
      ·show (if k=k then _ else _)=_;rw[bd0 rfl,K.o]
     case measure=>simp[intOf];omega
    ·obtain rfl:j=8:=E;have p:=θ (And.intro c (And.intro a (And.intro g (And.intro h b))));clear c a g h b;go_wp2;go_roundw;case rel=>
      obtain⟨L,M,N,O,P⟩:=p.o;refine⟨k+1,E,by go_num,L,⟨_,M,λi d=>?_⟩,P⟩;by_cases e:i=k
      ·subst e;exact O
      ·exact N i E
     case measure=>simp[intOf];omega
  ·obtain rfl:k=256:=E;have e:Tab wr (w.heap.size+1) (λi=>(dW 8 i:Nat)):=by
    unfold Tab at a⊢;rw[a,cY (λi d=>by rw[g i d])]
   have d:(prog.info? 214).map (·.size)=some gT.size:=Ek;have G:Tab (wr.setRow w gT) w (λi=>(dW 8 i:Nat)):=setRow_heap wr w _ gT _ _ c;have q:Below w w (wr.setRow w gT):=vR b (aV3 _) gT;have H:=θ (And.intro c (And.intro e (And.intro G q)));clear g c a b e G q;go_upto_region 11 with fail
   go_wp2_with fail;refine wp_load_row (cs:=gT) _ _ rfl (w.heap.size+1) rfl _ (0,0) _ H.o.2.1 Tryz.underlying214 rfl d ?_;go_wp2_with fail;rw[Ip H.o.1];simp only[Result.andThen];rw[Oper.upon_skip];go_wp2_with fail
   (try simp only[Exit.inBlock,Exit.then])
   refine bodyPost_ret (v:= .agg gT) ?_ rfl ⟨rfl,H.o.2.2.2⟩;exact results_cell_row rfl _ _ w _ gT (0,0) _ rfl H.o.2.2.1 Tryz.underlying214 rfl d
end
end Go.Proofs.YtchinbgemenenaaGreatDoor
