/- Lemmas and contracts under the claims of this seat. No condition. -/
import Derived.Test.YtchinbgemenenaaGreatDoorZs4
namespace Go.Proofs.YtchinbgemenenaaGreatDoor
open Go.Proofs.Tryz
set_option linter.unusedVariables false
set_option linter.unusedSimpArgs false
set_option maxRecDepth 100000
set_option maxHeartbeats 12800000
section
open Go.RowKit
theorem Xj{w:World}{p:Nat}{C:Nat->Prop}{A:Ar}{g:List Nd}{f:Int}{o:Option TT}(h:Head w p C A g (jP o) f)(i:OSub w g o)(k:Int)(x:Bool)(c:k<=0\/(bS o).length=0):Calls prog 210 #[.pointer p,k, .bool x] w λe l=>e= .returned (.int .i64 0)/\Look w l p C A g (jP o) 0:=by
 have u:=h.cells.2.2.2 3;have t:=h.cells.2.2.1;have b:=h.set3 0;have a:=h.chg3 (.int .i64 0) 3;have j:=vI b (i.chgC h a);have s:=θ j;have q:=θ b;have r:=θ a;clear h i b a j;have d:(k<0)\/(k=0)\/(0<k/\(bS o).length=0):=E;generalize (bS o).length=n at *;clear c;rcases d with c | rfl | ⟨c,rfl⟩
 all_goals
  go_in;go_wp2_with fail;refine s.o.mono ?_;rintro e l ⟨rfl,m,rfl⟩;go_wp2;go_ret;exact⟨rfl,⟨0,aV3 _,q.o.drewN _⟩,r.o.drewN _⟩
theorem Ec{w:World}{p:Nat}{C:Nat->Prop}{A:Ar}{O:List Nd}{e3:Int}{c:TT}(h:Head w p C A O c.num e3)(P:Sub w O c)(hm:c.Sm)(k0:Int)(K:Nat)(x:Bool)(I:(0<k0/\k0<=c.st.bits.length/\k0=K)\/((c.st.bits.length:Int)<k0/\K=c.st.bits.length))(hK:0<K):Calls prog 210 #[.pointer p,k0, .bool x] w λe w'=>e= .returned (aM c.st.bits K x:Int)/\Look w w' p C A O c.num (c.st.high+1):=by
 have f3:=h.cells.2.2.2 3;have c3:=h.cells.2.2.1;have h0:=h.set3 0;have b2:=h.chg3 (.int .i64 0) 3;have a8:=P.chgC h b2 (λ_ _=>rfl);have hl:=oG h0 a8;have c2:=h0.cells.2.1;have HL:=θ hl;have H0:=θ h0;have HC:=θ b2;have Z:=θ a8;have e7:=hm.high;have e1:=hm.len;have c0:K<=c.st.bits.length:=E;have HM:=θ hm;have b4:=θ c0;have HR:Hid (aM c.st.bits K x<=8589934592):=by have :=tX c.st.bits K x;show _<=_;omega
 have d0:((K:Int)==0)=false:=by rw[bb6];omega
 clear h P h0 b2 hl a8 hm c0;obtain⟨W0,b1⟩:∃W0,W0=w.setCell (p,3) (.int .i64 0):=⟨_,rfl⟩;rw[<-b1]at HL H0 HC Z c2;have b9:=θ b1;clear b1;obtain⟨n0,b3⟩:∃n0,n0=c.st.bits.length:=⟨_,rfl⟩;rw[<-b3]at I HL e1 b4;have c9:=θ b3;clear b3;rcases I with ⟨e8,e9,rfl⟩ | ⟨I,rfl⟩
 all_goals
  go_in;go_wp2_with fail;rw[<-b9.o];refine HL.o.mono ?_;rintro e w' ⟨rfl,m,rfl⟩;go_wp2_with fail;go_loopg [7,8,1] (c.st.high+1) (λn a s b wr=>∃(T:TT) (kn k s0 v:Nat),T.num=kn/\a= .int .i64 kn/\s= .int .i64 s0/\b= .int .i64 k/\0<k/\k<=T.st.bits.length/\Sub wr O T/\Head wr p C A O c.num v/\Chg C w wr/\
   s0+aM T.st.bits k x=aM c.st.bits K x/\v+T.st.high<=c.st.high/\T.st.high<n/\T.st.bits.length<=8589934592)
  exact⟨c,_,_,0,0,rfl,rfl,rfl,rfl,by first | exact hK | omega,by rw[<-c9.o];have :=b4.o;omega,Z.o.keep (λ_ _=>rfl) (λ_ _=>rfl),H0.o.drewN _,HC.o.drewN _,Es,E,E,HM.o.len⟩;case round=>
   obtain⟨T,kn,k,s0,v,H,rfl,rfl,rfl,d9,I,P,j,hC,Q,hv,hT,f⟩:=hrel;have e2:=P.view H;have y:∃x,O[kn]? =some x:=⟨_,by rw[<-H];exact P.root⟩;obtain⟨g,rc,e5,c1,d8,_⟩:=j.row (by obtain⟨x,y⟩:=y;have :=(aO2.1 y).1;omega);obtain⟨_,_,cv,fz⟩:=j.cells;have f3:=fz 3;have hp:=j.lt p j.self;have X:Hid (∀v:Int,Head (wr.setCell (p,3) v) p C A O c.num v):=λv=>j.set3 v;have V:=θ hC;have f0:s0<=8589934592:=by have :=HR.o;omega
   have HB:=θ Q;have t:=θ j.self;have d4:Hid (∀q l,IsBlock wr q l->¬C q):=λq l h=>j.notBlk h.type;clear hC Q y fz Z HC H0 b9 HL c2 d8 hK;rcases e2 with ⟨q,l,i,F,y⟩ | ⟨D,Tb,i,a9,b0,y⟩
   ·obtain⟨_,_,e0,_⟩:=j.node c1 y;obtain⟨a0,a1,a2,a3,a4,a5,a6,a7⟩:=j.eight c1 y;have hg:=ba8 wr _ a0;simp only[fO,aY6]at a0 a1 a2 a3 a4 a5 a6 a7;rw[i]at I hv hT f;have J:=HB.o;rw[i]at J;simp only[ST.bits]at J;have c7:=θ J;have HW:Hid (∀v o,IsBlock ((wr.setCell (p,3) v).alloc o) q l):=λv o=>F.chg ((Chg.refl.setCell (p,3) (Ei t.o) v).alloc o) (d4.o q l F);have b5:=θ (Ui (x:=x) I);simp only[ST.high,ST.bits]at I hv hT f;have d5:=θ (tX l k true);clear j P H y i F J;go_wp2_with fail;refine(aA4 (HW.o _ _) k).mono ?_;rintro e w2 ⟨rfl,c5⟩;rw[aK5];have z:=θ c5;clear c5;generalize hr:aM l k true=r at *;have b6:=θ (show oX k r x=aM l k x by rw[<-hr];exact b5.o);have e4:=d5.o;have U:=b6.o;generalize c4:aM l k x=R2 at *;have b7:=θ U;have e6:R2<=k:=by rw[<-c4];exact(tX l k x).1
    clear hr c4 U b5;go_wp2_with fail;refine Cq (jD k r x w2 E E E) ?_;rw[b7.o];go_wp2;go_ret;refine⟨bA ?_,⟨v+1,E,?_⟩,?_⟩
    ·have :=c7.o;omega
    ·exact_mod_cast ((X.o (v+1)).below (aR _ _)).below z.o
    ·exact((V.o.setCell _ (Ei t.o) _).alloc _).trans (Chg.of_below (S:=C) z.o) (λ_ h=>Ei h)
   ·obtain⟨_,_,e0,_⟩:=j.node c1 y;obtain⟨a0,a1,a2,a3,a4,a5,a6,a7⟩:=j.eight c1 y;have hg:=ba8 wr _ a0;simp only[fO,aY5]at a0 a1 a2 a3 a4 a5 a6 a7;rw[i]at I hv hT f;simp only[ST.bits,ST.high,aP3]at I hv hT f;have d6:Hid (∀W,Chg C wr W->Sub W O D):=λW hc=>a9.chgC j hc (λ_ _=>rfl);have d7:Hid (∀W,Chg C wr W->Sub W O Tb):=λW hc=>b0.chgC j hc (λ_ _=>rfl);have Q:=HB.o;rw[i]at Q;simp only[ST.bits]at Q;have z:=θ Q;have Y:=θ (mS D.st.bits x);have c6:=count_le D.st.bits true;have R:=count_le D.st.bits x;obtain⟨na,M⟩:=Ey D.num;obtain⟨nb,N⟩:=Ey Tb.num;obtain⟨la,u⟩:=Ey D.st.bits.length;obtain⟨ca,d⟩:=Ey (D.st.bits.count true);obtain⟨cx,G⟩:=Ey (D.st.bits.count x);rw[u]at I f c6 R;rw[d]at c6;rw[G]at R;simp only[M,N,u,d]at a0 a1 a2 a3 a4 a5 a6;have b8:=θ (show oX la ca x=cx by rw[<-u,<-d,<-G];exact Y.o);have d2:=θ M;have d3:=θ N;have B:=θ u;have c8:=θ G;by_cases L:k<=la
    ·have d1:decide (k<=la)=true:=bc2 L;clear j P H y i a9 b0 Q M N u d G HB Y;go_wp2_with fail;go_roundg (max D.st.high Tb.st.high+1);case measure=>omega
     case rel=>
      refine⟨D,na,k,s0,v+1,d2.o,rfl,rfl,rfl,d9,by rw[B.o];exact L,d6.o _ ((Chg.refl.setCell (p,3) (Ei t.o) _).alloc _),?_,V.o.trans ((Chg.refl.setCell (p,3) (Ei t.o) _).alloc _) (λ_ h=>Ei h),?_,E,E,by have :=B.o;omega⟩
      ·exact_mod_cast (X.o (v+1)).below (aR _ _)
      ·rw[<-z.o,zN (by rw[B.o];exact L)]
    ·have d1:decide (k<=la)=false:=bc0 L;clear j P H y i a9 b0 Q M N u d G HB Y;go_wp2_with fail;refine Cq (jD la ca x _ E E E) ?_;rw[b8.o];go_wp2;go_quiet (fail);go_wp2_with fail;go_roundg (max D.st.high Tb.st.high+1);case measure=>omega
     case rel=>
      refine⟨Tb,nb,k-la,s0+cx,v+1,d3.o,rfl,?_,?_,E,E,d7.o _ (((Chg.refl.setCell (p,3) (Ei t.o) _).alloc _).drewN _),?_,V.o.trans (((Chg.refl.setCell (p,3) (Ei t.o) _).alloc _).drewN _) (λ_ h=>Ei h),?_,E,E,E⟩
      ·congr 1
      ·congr 1;omega
      ·exact_mod_cast ((X.o (v+1)).below (aR _ _)).drewN _
      ·rw[<-z.o,zO (by rw[B.o];omega),B.o,c8.o];omega
def De:Option TT->Nat
 | none=>0
 | some T=>T.st.high+1
def OSm:Option TT->Prop
 | none=>True
 | some T=>T.Sm
theorem Look.mono {w c:World}{p:Nat}{C:Nat->Prop}{A:Ar}{d:List Nd}{a:Int}{m b:Nat}(h:Look w c p C A d a m)(f:m<=b):Look w c p C A d a b:=by
 obtain⟨v,g,e⟩:=h.head;exact⟨⟨v,E,e⟩,h.chg⟩
theorem ai2{w:World}{p:Nat}{C:Nat->Prop}{A:Ar}{f:List Nd}{d:Int}{o:Option TT}(h:Head w p C A f (jP o) d)(b:OSub w f o)(g:OSm o)(k:Int)(x:Bool):Calls prog 210 #[.pointer p,k, .bool x] w λe i=>e= .returned (aM (bS o) k.toNat x:Int)/\Look w i p C A f (jP o) (De o):=by
 by_cases a:k<=0\/(bS o).length=0
 ·have j:aM (bS o) k.toNat x=0:=by
   have :=tX (bS o) k.toNat x;rcases a with a | a<;>omega
  rw[j];refine(Xj h b k x a).mono ?_;rintro e i ⟨rfl,m⟩;exact⟨rfl,m.mono (aY1 _)⟩
 ·cases o with
  | none=>exact absurd (Ej rfl) a
  | some T=>
   have c:0<k/\T.st.bits.length≠0:=⟨E,λe=>a (Ej e)⟩;by_cases n:k<=T.st.bits.length
   ·exact Ec h b g k k.toNat x (Ei ⟨c.1,n,E⟩) E
   ·have l:aM (bS (some T)) k.toNat x=aM T.st.bits T.st.bits.length x:=by
     show aM T.st.bits k.toNat x=_;rw[eQ x E,eQ x (aV3 _)]
    rw[l];exact Ec h b g k T.st.bits.length x (Ej ⟨E,rfl⟩) (E)
theorem BitTab.chg {S:Nat->Prop}{w w':World}(h:BitTab w)(a:Chg S w w')(c:¬S 0):BitTab w':=λj b=>a.cell (h j b) c
theorem Qy{w:World}{p:Nat}{C:Nat->Prop}{A:Ar}{c:List Nd}{a b:Int}(h:Head w p C A c a b)(j:Int)(x:Bool)(l:j<0):Calls prog 178 #[.pointer p,j, .bool x] w λe g=>e= .returned (-1:Int)/\Look w g p C A c a 0:=by
 have k:=h.cells.2.2.2 3;have i:=h.cells.2.2.1;have d:=θ (h.set3 0);have f:=θ (h.chg3 (.int .i64 0) 3);clear h;go_in;go_wp2;go_ret;exact⟨rfl,⟨0,aV3 _,d.o⟩,f.o⟩
theorem Oe{w:World}{p:Nat}{C:Nat->Prop}{A:Ar}{g:List Nd}{f:Int}{o:Option TT}(h:Head w p C A g (jP o) f)(i:OSub w g o)(q:OSm o)(j:Int)(x:Bool)(z:0<=j)(k:((bS o).count x:Int)<=j):Calls prog 178 #[.pointer p,j, .bool x] w λe c=>e= .returned (-1:Int)/\Look w c p C A g (jP o) 0:=by
 have G:=h.cells.2.2.2 3;have B:=h.cells.2.2.1;have d:=h.set3 0;have b:=h.chg3 (.int .i64 0) 3;have a:=i.chgC h b;have u:=θ (vI d a);have v:Hid (∀n,Calls prog 218 #[.pointer p] ((w.setCell (p,3) (.int .i64 0)).drewN n) λe c=>e= .returned ((bS o).count true:Int)/\∃m,c=((w.setCell (p,3) (.int .i64 0)).drewN n).drewN m):=by
  intro n;refine ai1 (d.drewN n) ?_;cases o with
  | none=>trivial
  | some T=>exact Sub.keep a (λ_ _=>rfl) (λ_ _=>rfl)
 have r:=θ d;have s:=θ b;have l:(bS o).length<=8589934592:=by
  cases o with
  | none=>simp[bS]
  | some T=>exact q.len
 have t:=θ (mS (bS o) x);have y:=count_le (bS o) true;have D:decide (j<0)=false:=by simp;omega
 have F:decide (((bS o).count x:Int)<=j)=true:=by simpa using k
 clear h i d b a q k;generalize (bS o).length=n at *;generalize (bS o).count x=cx at *;generalize (bS o).count true=ct at *;go_in;go_wp2_with fail;refine u.o.mono ?_;rintro e c ⟨rfl,m,rfl⟩;go_wp2_with fail;refine(v.o m).mono ?_;rintro e c ⟨rfl,H,rfl⟩;go_wp2_with fail;refine Cq (jD n ct x _ E E E) ?_;rw[t.o];go_wp2;go_ret;exact⟨rfl,⟨0,aV3 _,r.o.drewN _⟩,s.o.drewN _⟩
theorem Od{w:World}{p:Nat}{C:Nat->Prop}{A:Ar}{U:List Nd}{f0:Int}{c:TT}(h:Head w p C A U c.num f0)(X:Sub w U c)(hm:c.Sm)(Y:BitTab w)(hN:¬C 0)(J:Nat)(x:Bool)(hJ:J<c.st.bits.count x):Calls prog 178 #[.pointer p,J, .bool x] w λe w'=>e= .returned (cT c.st.bits J x:Int)/\Look w w' p C A U c.num (c.st.high+1):=by
 have f3:=h.cells.2.2.2 3;have c3:=h.cells.2.2.1;have h0:=h.set3 0;have b8:=h.chg3 (.int .i64 0) 3;have N:=X.chgC h b8 (λ_ _=>rfl);have c2:=h0.cells.2.1;have e2:=θ Y;have c4:=θ hN;have HL:=θ (oG h0 N);have HO:Hid (∀n,Calls prog 218 #[.pointer p] ((w.setCell (p,3) (.int .i64 0)).drewN n) λe w'=>e= .returned (c.st.bits.count true:Int)/\∃m,w'=((w.setCell (p,3) (.int .i64 0)).drewN n).drewN m):=by
  intro n;exact Eb (h0.drewN n) (N.keep (λ_ _=>rfl) (λ_ _=>rfl))
 have H0:=θ h0;have HC:=θ b8;have b4:=θ N;have f7:=hm.high;have e8:=hm.len;have HM:=θ hm;have HK:=θ (mS c.st.bits x);have c9:=count_le c.st.bits true;have d2:=count_le c.st.bits x;have HJ:=θ hJ;have f5:J<=8589934592:=E;have HR:Hid (cT c.st.bits J x<=8589934592/\0<=cT c.st.bits J x):=by
  obtain⟨k,h1,h2,h3⟩:=sT x c.st.bits J hJ;rw[iF h1 h2 (by rw[h3])];exact⟨E,E⟩
 have d0:decide ((J:Int)<0)=false:=Es;have d1:decide (c.st.bits.count x<=J)=false:=bc0 E;clear h X h0 b8 N hm Y hN hJ;obtain⟨W0,b7⟩:∃W0,W0=w.setCell (p,3) (.int .i64 0):=⟨_,rfl⟩;rw[<-b7]at HL H0 HC b4 c2 HO;have c5:=θ b7;clear b7;obtain⟨n0,d4⟩:∃n0,n0=c.st.bits.length:=⟨_,rfl⟩;obtain⟨cx,K⟩:∃cx,cx=c.st.bits.count x:=⟨_,rfl⟩;obtain⟨ct,a9⟩:∃ct,ct=c.st.bits.count true:=⟨_,rfl⟩;rw[<-d4]at HL e8 c9 d2 HK;rw[<-K]at d2 HK d1 HJ;rw[<-a9]at c9 HK HO;have c0:=θ K;clear d4 K a9;go_in;go_wp2_with fail;rw[<-c5.o];refine HL.o.mono ?_;rintro e w' ⟨rfl,m,rfl⟩;go_wp2_with fail;refine(HO.o m).mono ?_;rintro e w' ⟨rfl,m2,rfl⟩;go_wp2_with fail;refine Cq (jD n0 ct x _ E E E) ?_;rw[HK.o];go_wp2_with fail;go_loopg [7,8,1] (c.st.high+1) (λn a s b wr=>∃(T:TT) (kn j s0 v:Nat),T.num=kn/\a= .int .i64 kn/\s= .int .i64 s0/\b= .int .i64 j/\j<T.st.bits.count x/\Sub wr U T/\Head wr p C A U c.num v/\Chg C w wr/\
  s0+cT T.st.bits j x=cT c.st.bits J x/\v+T.st.high<=c.st.high/\T.st.high<n/\T.st.bits.length<=8589934592/\s0+T.st.bits.length<=8589934592)
 exact⟨c,_,_,0,0,rfl,rfl,rfl,rfl,by rw[<-c0.o];exact HJ.o,b4.o.keep (λ_ _=>rfl) (λ_ _=>rfl),H0.o.drewN _,HC.o.drewN _,Es,E,E,HM.o.len,by have :=HM.o.len;omega⟩;case round=>
  obtain⟨T,kn,k,s0,v,L,rfl,rfl,rfl,hk,X,u,hC,Z,hv,hT,r,M⟩:=hrel;have e9:=X.view L;have B:∃x,U[kn]? =some x:=⟨_,by rw[<-L];exact X.root⟩;obtain⟨g,rc,f4,c1,e5,_⟩:=u.row (by obtain⟨x,B⟩:=B;have :=(aO2.1 B).1;omega);obtain⟨_,_,cv,fz⟩:=u.cells;have f3:=fz 3;have hp:=u.lt p u.self;have b1:Hid (∀v:Int,Head (wr.setCell (p,3) v) p C A U c.num v):=λv=>u.set3 v;have e3:=θ (e2.o.chg hC c4.o);have b0:=θ hC;have e6:k<=T.st.bits.length:=by have :=count_le T.st.bits x;omega
  have f2:k<=8589934592:=E;have HB:=θ Z;have y:=θ u.self;have d9:Hid (∀q l,IsBlock wr q l->¬C q):=λq l h=>u.notBlk h.type;clear hC Z B fz b4 HC H0 c5 HL HO c2 e5 e6;rcases e9 with ⟨q,l,t,I,B⟩ | ⟨G,Tb,t,b5,b6,B⟩
  ·obtain⟨_,_,e7,_⟩:=u.node c1 B;obtain⟨a0,a1,a2,a3,a4,a5,a6,a7⟩:=u.eight c1 B;have hg:=ba8 wr _ a0;simp only[fO,aY6]at a0 a1 a2 a3 a4 a5 a6 a7;rw[t]at hk hv hT r M;have O:=HB.o;rw[t]at O;simp only[ST.bits]at O;have d5:=θ O;have HW:Hid (∀v o,IsBlock ((wr.setCell (p,3) v).alloc o) q l):=λv o=>I.chg ((Chg.refl.setCell (p,3) (Ei y.o) v).alloc o) (d9.o q l I);have e4:Hid (∀v o,BitTab ((wr.setCell (p,3) v).alloc o)):=λv o=>e3.o.chg ((Chg.refl.setCell (p,3) (Ei y.o) v).alloc o) c4.o;simp only[ST.high,ST.bits]at hk hv hT r M;have c6:0<=cT l k x/\cT l k x<=l.length:=by
    obtain⟨i,h1,h2,h3⟩:=sT x l k hk;rw[iF h1 h2 (by rw[h3])];exact⟨E,E⟩
   obtain⟨c6,f6⟩:=c6;have f1:=count_le l true;clear u X L B t I O;have b9:=jD 0 0 x;have d3:oX 0 0 x=0:=by cases x<;>rfl
   rw[d3]at b9;have d6:=θ (λw=>b9 w E E E);clear b9 d3;go_wp2_with fail;refine Cq (d6.o _) ?_;go_wp2_with fail;refine(Yb (HW.o _ _) (e4.o _ _) k x E).mono ?_;rintro e w2 ⟨rfl,c7⟩;have D:=θ c7;clear c7;generalize cT l k x=R2 at *;go_wp2;go_ret;refine⟨bA d5.o,⟨v+1,E,?_⟩,?_⟩
   ·exact_mod_cast ((b1.o (v+1)).below (aR _ _)).below D.o
   ·exact((b0.o.setCell _ (Ei y.o) _).alloc _).trans (Chg.of_below (S:=C) D.o) (λ_ h=>Ei h)
  ·obtain⟨_,_,e7,_⟩:=u.node c1 B;obtain⟨a0,a1,a2,a3,a4,a5,a6,a7⟩:=u.eight c1 B;have hg:=ba8 wr _ a0;simp only[fO,aY5]at a0 a1 a2 a3 a4 a5 a6 a7;rw[t]at hk hv hT r M;simp only[ST.bits,ST.high,aP3,aM1]at hk hv hT r M;have e0:Hid (∀W,Chg C wr W->Sub W U G):=λW hc=>b5.chgC u hc (λ_ _=>rfl);have e1:Hid (∀W,Chg C wr W->Sub W U Tb):=λW hc=>b6.chgC u hc (λ_ _=>rfl);have Z:=HB.o;rw[t]at Z;simp only[ST.bits]at Z;have D:=θ Z;have b3:=θ (mS G.st.bits x);have c8:=count_le G.st.bits true;have a8:=count_le G.st.bits x;obtain⟨na,Q⟩:=Ey G.num;obtain⟨nb,R⟩:=Ey Tb.num;obtain⟨la,z⟩:=Ey G.st.bits.length;obtain⟨ca,d⟩:=Ey (G.st.bits.count true);obtain⟨H,f⟩:=Ey (G.st.bits.count x);rw[z]at r c8 a8 M;rw[d]at c8;rw[f]at a8 hk;simp only[Q,R,z,d]at a0 a1 a2 a3 a4 a5 a6;have V:=θ (show oX la ca x=H by rw[<-z,<-d,<-f];exact b3.o);have d7:=θ Q;have d8:=θ R;have b2:=θ z;have F:=θ f;by_cases P:k<H
   ·have d1:decide (k<H)=true:=bc2 P;clear u X L B t b5 b6 Z Q R z d f HB b3;go_wp2_with fail;refine Cq (jD la ca x _ E E E) ?_;rw[V.o];go_wp2_with fail;go_roundg (max G.st.high Tb.st.high+1);case measure=>omega
    case rel=>
     refine⟨G,na,k,s0,v+1,d7.o,rfl,rfl,rfl,by rw[F.o];exact P,e0.o _ ((Chg.refl.setCell (p,3) (Ei y.o) _).alloc _),?_,b0.o.trans ((Chg.refl.setCell (p,3) (Ei y.o) _).alloc _) (λ_ h=>Ei h),?_,E,E,by have :=b2.o;omega,by have :=b2.o;omega⟩
     ·exact_mod_cast (b1.o (v+1)).below (aR _ _)
     ·rw[<-D.o,Wa (by rw[F.o];exact P)]
   ·have d1:decide (k<H)=false:=bc0 P;clear u X L B t b5 b6 Z Q R z d f HB b3;go_wp2_with fail;refine Cq (jD la ca x _ E E E) ?_;rw[V.o];go_wp2_with fail;go_roundg (max G.st.high Tb.st.high+1);case measure=>omega
    case rel=>
     refine⟨Tb,nb,k-H,s0+la,v+1,d8.o,rfl,?_,?_,E,e1.o _ ((Chg.refl.setCell (p,3) (Ei y.o) _).alloc _),?_,b0.o.trans ((Chg.refl.setCell (p,3) (Ei y.o) _).alloc _) (λ_ h=>Ei h),?_,E,E,E,E⟩
     ·congr 1
     ·congr 1;omega
     ·exact_mod_cast (b1.o (v+1)).below (aR _ _)
     ·rw[<-D.o,Wb (by rw[F.o];omega) (by rw[aM1,F.o];exact hk),b2.o,F.o];omega
theorem Qx{w:World}{p:Nat}{C:Nat->Prop}{A:Ar}{g:List Nd}{d:Int}{o:Option TT}(h:Head w p C A g (jP o) d)(k:OSub w g o)(l:OSm o)(a:BitTab w)(m:¬C 0)(j:Int)(x:Bool):Calls prog 178 #[.pointer p,j, .bool x] w λe f=>e= .returned (cT (bS o) j x:Int)/\Look w f p C A g (jP o) (De o):=by
 by_cases i:j<0
 ·rw[Ng i];refine(Qy h j x i).mono ?_;rintro e f ⟨rfl,c⟩;exact⟨rfl,c.mono (aY1 _)⟩
 ·by_cases b:((bS o).count x:Int)<=j
  ·rw[ae3 b];refine(Oe h k l j x E b).mono ?_;rintro e f ⟨rfl,c⟩;exact⟨rfl,c.mono (aY1 _)⟩
  ·obtain⟨J,rfl⟩:=aK0 (show 0<=j by omega);cases o with
   | none=>exact absurd (show ((bS none).count x:Int)<=J by simp[bS]) b
   | some T=>exact Od h k l a m J x (by simp only[bS]at b;omega)
def obl:Option TT->List Nat
 | none=>[]
 | some T=>T.bl
def osz:Option TT->Nat
 | none=>0
 | some T=>T.st.size
def ost:Option TT->Option ST
 | none=>none
 | some T=>some T.st
def OOwn(A:Ar):Option TT->Prop
 | none=>True
 | some T=>Own A T
def aF:Option ST->List Bool
 | none=>[]
 | some t=>t.bits
def aP:Option ST->Nat
 | none=>0
 | some t=>t.high
def pS:Option ST->Prop
 | none=>True
 | some t=>t.Avl/\t.Root
theorem ap6(O:Option TT):bS O=aF (ost O):=by cases O<;>rfl
structure TreeIs (S:Nat->Prop) (w:World) (p:Nat) (o:Option ST) (made:Nat) (vis:Int):Prop where
 ex:∃(C:Nat->Prop) (A:Ar) (xs:List Nd) (O:Option TT),Head w p C A xs (jP O) vis/\OSub w xs O/\OOwn A O/\xs.length=A.T.length/\A.live=osz O/\A.M=268435456/\ost O=o/\made=A.T.length/\(∀k,S k↔C k\/k∈obl O)
 good:pS o
 len:(aF o).length<=2147483648
structure TreeStep (S:Nat->Prop) (w w':World) (p:Nat) (o':Option ST) (made':Nat) (vis':Int):Prop where
 ex:∃S',TreeIs S' w' p o' made' vis'/\∀k,S' k->S k\/w.heap.size<=k
 chg:Chg S w w'
section
variable {S:Nat->Prop}{w w':World}{p made:Nat}{o:Option ST}{vis:Int}
theorem TreeIs.lt (h:TreeIs S w p o made vis):∀k,S k->k<w.heap.size:=by
 obtain⟨C,A,e,O,b,c,_,_,_,_,_,_,d⟩:=h.ex;intro k a;rcases(d k).1 a with a | a
 ·exact b.lt k a
 ·cases O with
  | none=>simp[obl]at a
  | some T=>exact(Sub.type c a).lt
theorem TreeIs.chg {S':Nat->Prop}(h:TreeIs S w p o made vis)(b:Chg S' w w')(c:∀k,S k->¬S' k):TreeIs S w' p o made vis:=by
 obtain⟨C,A,s,O,d,e,f,g,i,j,l,m,a⟩:=h.ex;refine⟨⟨C,A,s,O,d.chg b (λk n=>c k ((a k).2 (Ei n))),?_,f,g,i,j,l,m,a⟩,h.good,h.len⟩;cases O with
 | none=>trivial
 | some T=>exact Sub.same e b (λq r=>c q ((a q).2 (Ej r)))
theorem TreeIs.below (h:TreeIs S w p o made vis)(a:Below w w w'):TreeIs S w' p o made vis:=h.chg (S':=λ_=>False) (Chg.of_below a) (λ_ _ h=>h)
theorem jI{t:ST}(a:t.Root)(f:t.bits.length<=2147483648):t.size<=134217729/\t.high<134217730:=by
 have b:=a.len;have c:=t.size_leaves;have d:=t.high_size;have e:=t.leaves_pos;omega
end
theorem Nx{w:World}{p:Nat}{C:Nat->Prop}{A:Ar}{V:List Nd}{vis:Int}(h:Head w p C A V (-1) vis)(d:V.length=A.T.length)(a:A.live<A.M)(b:Bool):Calls prog 216 #[.pointer p, .int .i64 0, .bool b] w λe w'=>e= .returned (.int .i64 0)/\∃(k q:Nat) (W:Nat->Prop) (s:Ar) (l:List Nd),Head w' p W s l k 1/\Sub w' l (.leaf k q [b])/\l.length=s.T.length/\s.T[k]? =some true/\s.live=A.live+1/\s.M=A.M/\w<=q/\HStep w w' C W:=by
 have f3:=h.cells.2.2.2 3;have f2:=h.cells.2.2.2 2;have c3:=h.cells.2.2.1;have c2:=h.cells.2.1;have hp:=h.lt p h.self;have HL:=θ (Ik h);have Y:Hid (∀n o,Head (((w.drewN n).setCell (p,3) (.int .i64 0)).alloc o) p C A V (-1) 0):=λn o=>((h.drewN n).set3 0).below (aR _ _);have Z:Hid (∀n o,Chg C w (((w.drewN n).setCell (p,3) (.int .i64 0)).alloc o)):=λn o=>((Chg.refl.drewN n).setCell _ (Ei h.self) _).alloc o;have y:Hid (∀n,ReadsV (((w.drewN n).setCell (p,3) (.int .i64 0)).alloc (.cells #[.bool b] 4)) (some (w,0)) ([b].map Value.bool)):=λn=>by
  have e:((w.drewN n).setCell (p,3) (.int .i64 0)).heap.size=w.heap.size:=by simp[World.setCell]
  have h1:=bc6 ((w.drewN n).setCell (p,3) (.int .i64 0)) (.cells #[.bool b] 4);rw[e]at h1;exact fP h1
 have K:=θ d;have L:=θ a;clear h d a;go_in;go_wp2_with fail;refine HL.o.mono ?_;rintro e w' ⟨rfl,m,rfl⟩;go_wp2_with fail;refine(sG _ _ 1 [b] (y.o m) Es).mono ?_;rintro e w3 ⟨rfl,i,g⟩;have O:=(Y.o m (.cells #[.bool b] 4)).below g;have g3:=(Z.o m (.cells #[.bool b] 4)).trans (Chg.of_below (S:=C) g) (λj z=>Ei z);generalize Q:(((w.drewN m).setCell (p,3) (.int .i64 0)).alloc (.cells #[.bool b] 4)).heap.size=q at *;have B:w<=q:=by rw[<-Q];simp[World.setCell]
 have u:=θ (rN O K.o L.o i);have H3:=θ O;have G3:=θ g3;have v:=θ i;have HQ:=θ Q;have N:=θ B;clear O g3 i Q B g Y Z y;go_wp2_with fail;first
 | (refine u.o.mono ?_)
 | (rw[HQ.o];refine u.o.mono ?_)
 rintro e w4 hP;obtain⟨D,X,t,r,rfl,P,U,G,J,n4,R,I,c,H,_⟩:=hP.ex;obtain⟨_,d2,d3,f⟩:=P.cells;have z2:=f 2;have z3:=f 3;have F:=θ P;have S4:=θ U;have x:=θ (v.o.chg U.chg (H3.o.notBlk v.o.type));have HR:Hid (r.length=t.T.length/\r[D]? =some (TT.leaf 0 q [b]).nd/\t.T[D]? =some true/\t.live=A.live+1/\t.M=A.M):=⟨G,J,I,c,H⟩;clear hP P U G J n4 R I c H f;go_wp2;go_ret;obtain⟨G,J,I,c,H⟩:=HR.o;have h5:=(F.o.set2 D).set3 1;have c5:Chg X w4 ((w4.setCell (p,2) D).setCell (p,3) (.int .i64 1)):=(Chg.refl.setCell _ (Ei F.o.self) _).setCell _ (Ei F.o.self) _;refine⟨rfl,D,q,X,t,r,h5,⟨J,x.o.chg c5 (F.o.notBlk x.o.type)⟩,G,I,c,H,N.o,HStep.trans ⟨G3.out,λj z=>Ei z⟩ (S4.out.trans ⟨c5,λj z=>Ei z⟩)⟩
theorem Ny{w:World}{p:Nat}{C:Nat->Prop}{A:Ar}{c:List Nd}{vis:Int}{T:TT}(h:Head w p C A c T.num vis)(l:Sub w c T)(i:c.length=A.T.length)(I:Own A T)(a:A.live+2<=A.M)(v:T.st.bits.length<=2147483648)(hh:T.st.high<1000000000)(k:Nat)(J:k<=T.st.bits.length)(b:Bool):Calls prog 216 #[.pointer p,k, .bool b] w λe w'=>e= .returned (.int .i64 0)/\∃d P N x v',SubPost w w' p C A c d.num 0 T d P N x v'/\d.st=dK T.st k b:=by
 have f3:=h.cells.2.2.2 3;have f2:=h.cells.2.2.2 2;have c3:=h.cells.2.2.1;have U:=h.cells.2.1;have Z:=(aO2.1 l.root).1;have G:=θ (oG h l);have B:Hid (∀n,Head ((w.drewN n).setCell (p,3) (.int .i64 0)) p C A c T.num 0):=λn=>((h.drewN n).set3 0);have D:Hid (∀n,Chg C w ((w.drewN n).setCell (p,3) (.int .i64 0))):=λn=>((Chg.refl.drewN n).setCell _ (Ei h.self) _);have R:Hid (∀w',Chg C w w'->Sub w' c T):=λw' Y=>l.chgC h Y (λ_ _=>rfl);have F:Hid (∀n,Calls prog 237 #[.pointer p,T.num,k, .bool b] ((w.drewN n).setCell (p,3) (.int .i64 0)) λe w'=>yK ((w.drewN n).setCell (p,3) (.int .i64 0)) w' p C A c T.num 0 T k b e):=
  λn=>ay2 T _ p C A c T.num 0 k b (B.o n) i E E (R.o _ (D.o n)) I a J E E
 have hp:=h.lt p h.self;have V:decide (T.st.bits.length<k)=false:=bc0 E;have W:((T.num:Int)== -1)=false:=by rw[bb6];omega
 clear h l I a;obtain⟨nt,f⟩:=Ey T.num;obtain⟨n,K⟩:=Ey T.st.bits.length;rw[f]at U W B F;rw[K]at V G v J;have Q:=θ f;clear K f;go_in;go_wp2_with fail;refine G.o.mono ?_;rintro e w' ⟨rfl,m,rfl⟩;go_wp2_with fail;refine(F.o m).mono ?_;rintro e L ⟨d,z,O,y,v3,rfl,u,j⟩;have t:=u.head;obtain⟨_,d2,d3,g⟩:=t.cells;have z2:=g 2;have q:=θ t;have r:=θ u;have s:=θ j;clear u t j g;go_wp2;go_ret;have X:=q.o.set2 d.num;have H:Chg z L (L.setCell (p,2) (.int .i64 d.num)):=Chg.refl.setCell _ (Ei q.o.self) _;refine⟨rfl,d,z,O,y,v3,SubPost.of X (r.o.sub.chgC q.o H (λ_ _=>rfl)) (SubPre.first (D.o m) (r.o.pre.next H (λ_ _=>rfl) rfl (aK9 _) rfl rfl)) r.o.vis,s.o⟩
def oI(o:Option ST)(k:Nat)(b:Bool):Option ST:=some (match o with | none=> .leaf [b] | some t=>dK t k b)
theorem xA{o:Option ST}{k:Nat}{b:Bool}(a:k<=(aF o).length):aF (oI o k b)=inL (aF o) k b:=by
 cases o with
 | none=>
  obtain rfl:k=0:=by simpa[aF]using a
  rfl
 | some t=>exact xB a
theorem Zj{o:Option ST}{k:Nat}{b:Bool}(a:pS o)(c:k<=(aF o).length):pS (oI o k b):=by
 cases o with
 | none=>exact⟨trivial,by simp[ST.Root]⟩
 | some t=>exact⟨(Kz a.1 k b).1,Zl a.2 b c⟩
theorem Zk{o:Option ST}{k:Nat}{b:Bool}(a:pS o):aP o<=aP (oI o k b)/\aP (oI o k b)<=aP o+1:=by
 cases o with
 | none=>simp[aP,oI,ST.high]
 | some t=>exact(Kz a.1 k b).2
theorem Xf{S:Nat->Prop}{w:World}{p made:Nat}{o:Option ST}{vis:Int}(h:TreeIs S w p o made vis)(Y:(aF o).length<2147483648)(k:Nat)(s:k<=(aF o).length)(b:Bool):Calls prog 216 #[.pointer p,k, .bool b] w λe w'=>e= .returned (.int .i64 0)/\∃l t,TreeStep S w w' p (oI o k b) l t/\0<=t/\t<=7*aP o+2:=by
 have c:=Zj (b:=b) h.good s;have i:=xA (b:=b) s;have d:(aF (oI o k b)).length<=2147483648:=by rw[i,iK s];omega
 have V:=h.lt;obtain⟨C,A,xs,O,D,Q,R,F,v,x,G,X,y⟩:=h.ex;have g:∀j,C j->S j:=λj a=>(y j).2 (Ei a);cases O with
 | none=>
  obtain rfl:o=none:=G.symm;obtain rfl:k=0:=by simpa[aF]using s
  refine(Nx D F (by rw[v,x];simp[osz]) b).mono ?_;rintro e w' ⟨rfl,H,q,r,n,m,I,J,K,L,M,N,P,B⟩;refine⟨rfl,n.T.length,1,⟨⟨λj=>r j\/j∈obl (some (.leaf H q [b])),⟨⟨r,n,m,some (.leaf H q [b]),I,J,⟨by simp[TT.nums],by simp[TT.bl],λj a=>by simp[TT.nums]at a;subst a;exact L⟩,K,by rw[M,v];rfl,by rw[N,x],rfl,rfl,λj=>Iff.rfl⟩,c,d⟩,λj a=>?_⟩,B.chg.mono g⟩,E,by simp[aP]⟩;rcases a with a | a
  ·exact(B.new j a).imp (g j) id
  ·simp[obl,TT.bl]at a;subst a;exact Ej P
 | some T=>
  obtain rfl:o=some T.st:=G.symm;have W:=jI h.good.2 h.len;refine(Ny D Q F R (by rw[v,x];show T.st.size+2<=_;omega) h.len E k s b).mono ?_;rintro e w' ⟨rfl,u,r,n,m,t,f,z⟩;have Z:=f.vis;refine⟨rfl,n.T.length,t,⟨⟨λj=>r j\/j∈obl (some u),⟨⟨r,n,m,some u,f.head,f.sub,f.own,f.len,?_,by rw[f.max,x],?_,rfl,λj=>Iff.rfl⟩,c,d⟩,λj a=>?_⟩,f.chg.mono (λj a=>(y j).2 a)⟩,E,by simp only[aP];omega⟩
  ·have :=f.live;have U:A.live=T.st.size:=v;show n.live=u.st.size;omega
  ·show some u.st=_;rw[z];rfl
  ·rcases a with a | a
   ·exact(f.newC j a).imp (g j) id
   ·exact(f.newB j a).imp (λh=>(y j).2 (Ej h)) id
end
def oM(L:List Bool)(m f t:Nat):List Bool:=(L.take (L.length*t/m)).drop (L.length*f/m)
theorem Nf{n m f t:Nat}(h:f<=t):n*f/m<=n*t/m:=Nat.div_le_div_right (Nat.mul_le_mul_left n h)
theorem yZ{n m t:Nat}(h:t<=m)(a:0<m):n*t/m<=n:=
 Nat.div_le_of_le_mul (by rw[Nat.mul_comm m n];exact Nat.mul_le_mul_left n h)
theorem Bg{L:List Bool}{m f t:Nat}(c:f<=t)(a:t<=m)(b:0<m):(oM L m f t).length=L.length*t/m-L.length*f/m:=by
 have :=yZ (n:=L.length) a b;simp only[oM,aP5,aQ1];omega
theorem at5{L:List Bool}{m f k t:Nat}(c:f<=k)(d:k<=t)(e:t<=m)(g:0<m):oM L m f k++oM L m k t=oM L m f t:=by
 have h:=Nf (n:=L.length) (m:=m) c;have a:=Nf (n:=L.length) (m:=m) d;have i:=yZ (n:=L.length) e g;unfold oM;generalize L.length*f/m=x at *;generalize L.length*k/m=y at *;generalize L.length*t/m=z at *;have b:L.take z=L.take y++(L.take z).drop y:=by
  have :=(aT6 y (L.take z)).symm;rwa[aU1,aW0 a]at this
 conv=>rhs;rw[b]
 rw[aM4 (by rw[aQ1];omega)]
theorem at4{L:List Bool}{m:Nat}(a:0<m):oM L m 0 m=L:=by
 simp only[oM,Nat.mul_zero,Nat.zero_div,bi7,Nat.mul_div_cancel _ a,aT8]
theorem Qj{n m f:Nat}(b:n<=128*m)(a:0<m):n*(f+1)/m<=n*f/m+128:=by
 have h:n*(f+1)<=n*f+128*m:=by rw[Nat.mul_add,aW5];omega
 calc n*(f+1)/m<=(n*f+128*m)/m:=Nat.div_le_div_right h
  _=n*f/m+128:=Nat.add_mul_div_right _ _ a
theorem Qi{n m f:Nat}(b:64*m<=n)(a:0<m):n*f/m+64<=n*(f+1)/m:=by
 have h:n*f+64*m<=n*(f+1):=by rw[Nat.mul_add,aW5];omega
 calc n*f/m+64=(n*f+64*m)/m:=(Nat.add_mul_div_right _ _ a).symm
  _<=n*(f+1)/m:=Nat.div_le_div_right h
structure Bld (L:List Bool) (m f t:Nat) (T:ST):Prop where
 bits:T.bits=oM L m f t
 avl:T.Avl
 leaves:T.leaves=t-f
 up:t-f<=2^T.high
 low:(T.high=0/\t-f=1)\/(∃h,T.high=h+1/\2^h<t-f)
 le:T.Le
 fill:2<=m->T.Fill
theorem ak1{L:List Bool}{m f t:Nat}(j:m=(L.length+127)/128)(h:t-f=1)(c:t<=m):Bld L m f t (.leaf (oM L m f t)):=by
 have e:t=f+1:=E;subst e;have a:0<m:=E;have b:=Bg (L:=L) (m:=m) (f:=f) (t:=f+1) E c a;have d:=Qj (n:=L.length) (m:=m) (f:=f) E a;refine⟨rfl,trivial,by simp[ST.leaves],by simp[ST.high],Ei ⟨rfl,h⟩,?_,?_⟩
 ·change _<=128;rw[b];omega
 ·intro g;have i:=Qi (n:=L.length) (m:=m) (f:=f) E a;change 32<=_/\_<=128;rw[b];omega
theorem ak2{L:List Bool}{m f t:Nat}{a b:ST}(B:0<m)(h:2<=t-f)(D:t<=m)(e:Bld L m f ((f+t)/2) a)(i:Bld L m ((f+t)/2) t b):Bld L m f t (.pair a b):=by
 obtain⟨k,A⟩:∃k,k=(f+t)/2:=⟨_,rfl⟩;rw[<-A]at e i;have j:k-f=(t-f)/2:=E;have l:t-k=(t-f+1)/2:=E;have F:f<=k:=E;have G:k<=t:=E;have H:k-f+(t-k)=t-f:=E;obtain⟨d,z⟩:∃d,d=t-f:=⟨_,rfl⟩;rw[<-z]at j l h;have I:=e.up;have J:=i.up;have u:=e.low;have p:=i.low;rw[j]at I u;rw[l]at J p;have c:∀{x h:Nat},((h=0/\x=1)\/∃g,h=g+1/\2^g<x)->∀g,x<=2^g->h<=g:=by
  rintro x h (⟨rfl,_⟩ | ⟨q,rfl,C⟩) g o
  ·omega
  ·have :2^q<2^g:=aV7 C o;have :=(Nat.pow_lt_pow_iff_right (a:=2) E).1 this;omega
 have y:a.high<=b.high:=c u _ E;have n:b.high<=a.high+1:=c p _ (by rw[aW8];omega);have s:(ST.pair a b).high=b.high+1:=by simp only[ST.high];omega
 refine⟨?_,⟨e.avl,i.avl,E,n⟩,?_,?_,Ej ⟨b.high,s,?_⟩,⟨e.le,i.le⟩,λr=>⟨e.fill r,i.fill r⟩⟩
 ·change a.bits++b.bits=_;rw[e.bits,i.bits];exact at5 F G D B
 ·change a.leaves+b.leaves=_;rw[e.leaves,i.leaves];exact H
 ·rw[s,aW8];omega
 ·rcases p with ⟨v,w⟩ | ⟨g,o,w⟩
  ·rw[v];simp;omega
  ·rw[o,aW8];omega
theorem ak3{L:List Bool}{m:Nat}{T:ST}(i:m=(L.length+127)/128)(e:0<m)(h:Bld L m 0 m T):T.bits=L/\T.Avl/\T.Root:=by
 have d:T.bits=L:=by rw[h.bits,at4 e]
 refine⟨d,h.avl,?_⟩;rcases aV8 m 2 with c | c
 ·cases T with
  | leaf l=>
   have g:=h.le;refine⟨?_,g⟩;have :l.length=L.length:=bb9 List.length d;omega
  | pair a b=>
   exfalso;have f:=h.leaves;have :=a.leaves_pos;have :=b.leaves_pos;simp only[ST.leaves]at f;omega
 ·exact(h.fill c).root
section
open Go.RowKit
theorem Nc{P:Program}{w:World}{t e:TypeId}{a:Option Addr}{g b j k:Nat}(o:P.underlying t=some (.slice e))(c:(P.info? e).map (λi=>i.size)=some 1)(l:j<=k)(m:k<=b):(Instr.slice t (.slice a g b) (some (.int .i64 (j:Int))) (some (.int .i64 (k:Int))) none).run P w= .ok (.slice (gF a j b) (k-j) (b-j)) w:=by
 obtain⟨i,h,n⟩:=aY4.1 c;have f:(k:Int)<=(b:Int):=E;have d:(j:Int)<=(k:Int):=E;simp[Instr.slice,bd9 o,Instr.sliceBounds,Instr.sliceBound,asIntOf,f,d,sizeOf,typeInfo,h,n,go_sem,gF,l,m]
structure BldStep (w w':World) (p:Nat) (C:Nat->Prop) (A:Ar) (xs:List Nd) (root vis:Int) (T':TT) (C':Nat->Prop) (A':Ar) (xs':List Nd):Prop where
 head:Head w' p C' A' xs' root vis
 sub:Sub w' xs' T'
 own:Own A' T'
 len:xs'.length=A'.T.length
 newC:∀j,C' j->C j\/w.heap.size<=j
 newB:∀q∈T'.bl,w<=q
 keep:∀j:Nat,A.T[j]? =some true->xs'[j]? =xs[j]? /\A'.T[j]? =some true/\j∉T'.nums
 live:A'.live=A.live+T'.st.size
 max:A'.M=A.M
 fr:A.F=[]->A'.F=[]
 chg:Chg C w w'
def pC(w w':World)(p:Nat)(C:Nat->Prop)(A:Ar)(xs:List Nd)(root vis:Int)(L:List Bool)(m f t:Nat)(e:Ending):Prop:=
 ∃T' C' A' xs',e= .returned (.int .i64 T'.num)/\BldStep w w' p C A xs root vis T' C' A' xs'/\Bld L m f t T'.st
theorem Qs{w:World}{p:Nat}{C:Nat->Prop}{A:Ar}{xs:List Nd}{r K:Int}(h:Head w p C A xs r K)(B:xs.length=A.T.length){a:Option Addr}{c:Nat}{L:List Bool}(hr:ReadsV w a (L.map Value.bool))(hc:L.length<=c)(hL:L.length<=2147483648){m f t:Nat}(hm:m=(L.length+127)/128)(a2:t-f=1)(ht:t<=m)(i:A.live<A.M):Calls prog 226 #[.pointer p, .slice a L.length c,f,t,m] w λe w'=>pC w w' p C A xs r K L m f t e:=by
 have R:0<m:=E;have hB:=ak1 (L:=L) hm a2 ht;have v:=Bg (L:=L) (m:=m) (f:=f) (t:=t) E ht R;have X:=Nf (n:=L.length) (m:=m) (f:=f) (t:=t) E;have a3:=yZ (n:=L.length) ht R;obtain⟨x,hx⟩:∃x,x=L.length*f/m:=⟨_,rfl⟩;obtain⟨y,Y⟩:∃y,y=L.length*t/m:=⟨_,rfl⟩;obtain⟨F,H⟩:∃F,F=oM L m f t:=⟨_,rfl⟩;have a1:L.length*f<=2147483648*16777217:=aW3 hL E;have g:L.length*t<=2147483648*16777217:=aW3 hL E;have W:ReadsV w (gF a x c) (F.map Value.bool):=by
  rw[H];unfold oM;rw[<-hx,<-Y,aQ5,aQ8];exact(hr.take y).drop (by rw[aQ1,aP7];omega)
 rw[<-hx,<-Y]at X v;rw[<-Y]at a3;rw[<-H]at v hB;have d:F.length<=128:=hB.le;have d0:((t:Int)-(f:Int)==1)=true:=by rw[bb7];omega
 have d1:IntKind.i64.wrap ((t:Int)-(f:Int))=(t:Int)-(f:Int):=aK8 _ E;obtain⟨zf,I⟩:∃zf,zf=L.length*f:=⟨_,rfl⟩;obtain⟨zt,J⟩:∃zt,zt=L.length*t:=⟨_,rfl⟩;have d2:IntKind.i64.wrap ((L.length:Int)*(f:Int))=(zf:Int):=by rw[<-Int.natCast_mul,<-I];exact aK8 _ E
 have d3:IntKind.i64.wrap ((L.length:Int)*(t:Int))=(zt:Int):=by rw[<-Int.natCast_mul,<-J];exact aK8 _ E
 have d4:IntKind.i64.wrap ((zf:Int)/(m:Int))=(x:Int):=by
  rw[<-aK2,I,<-hx];exact aK8 _ E
 have d5:IntKind.i64.wrap ((zt:Int)/(m:Int))=(y:Int):=by
  rw[<-aK2,J,<-Y];exact aK8 _ E
 have d6:¬m=0:=E;have a5:∀(w:World),(Instr.slice 132 (.slice a L.length c) (some (.int .i64 (x:Int))) (some (.int .i64 (y:Int))) none).run prog w= .ok (.slice (gF a x c) (y-x) (c-x)) w:=λw=>
  Nc (e:=4) Ek Ek X E
 have HN:Hid (∀n,Calls prog 235 #[.slice (gF a x c) (y-x) (c-x)] (w.drewN n) λe w'=>e= .returned (.tuple #[.pointer w, .int .i64 0])/\IsBlock w' w F/\Below w w w'):=λn=>by
  have :=sG (w.drewN n) (gF a x c) (c-x) F W d;rw[v]at this;refine this.mono ?_;rintro e w' ⟨rfl,h1,u⟩;exact⟨rfl,h1,⟨u.os,u.tape,u.output,u.size,u.block⟩⟩
 have HH:=θ h;have HL:=θ B;have a0:=θ i;have HB:=θ hB;clear h B i hB hr W v d a1 g hx Y I J H hm;generalize L.length=n0 at *;go_in;go_wp2_with fail;refine aG (λ_=>True) Ek trivial (λz=>?_);refine rV 0 1 2 3 z ?_;refine rV 4 5 6 7 z ?_;refine rV 8 9 10 11 z ?_;refine rU 12 13 z ?_;refine rg 14 λκ hK=>?_;go_simp
 ((refine(HN.o _).mono ?_))
 rintro e w2 ⟨rfl,U,g⟩;refine hK.out _ _ trivial ?_;intro z;try simp only[pt]
 refine rV 15 16 17 18 z ?_;refine rt 19 z ?_;refine rz ?_;clear z;have HQ:=θ U;have u:=HH.o.below g;have G:=θ (Chg.of_below (S:=C) g);have O:=θ (rN u HL.o a0.o U);have N:=θ u;clear U g u;go_wp2_with fail;refine O.o.mono ?_;rintro e w3 ⟨k,C',A',a4,rfl,h3,s3,l3,Q,t3,b,Z,l,D,P⟩;have V:IsBlock w3 w F:=HQ.o.chg s3.chg (N.o.notBlk HQ.o.type);have HP:Hid (pC w w3 p C A xs r K L m f t (.returned (.int .i64 (k:Int)))):=by
  refine⟨.leaf k w F,C',A',a4,rfl,⟨h3,⟨Q,V⟩,⟨by simp[TT.nums],by simp[TT.bl],λj s=>?_⟩,l3,λj s=>?_,λq U=>?_,λj s=>?_,?_,D,P,?_⟩,HB.o⟩
  ·simp[TT.nums]at s;subst s;exact Z
  ·rcases s3.new j s with h | h
   ·exact Ei h
   ·right;have :=G.o.size;omega
  ·simp[TT.bl]at U;omega
  ·refine⟨(b j s).1,(b j s).2,?_⟩;simp only[TT.nums,aR1,aS5,bd7];rintro rfl;exact t3 s
  ·rw[l];simp[TT.st,ST.size]
  ·exact G.o.trans s3.chg (λj s=>Ei s)
 clear h3 s3 l3 Q t3 b Z l D P V HB O N G HQ;go_wp2;go_ret;exact HP.o
section
variable {w w2 w3 w4:World}{p:Nat}{C C2 C3:Nat->Prop}{A A2 A3:Ar}{xs x2 x3:List Nd}{root vis:Int}{Ta Tb:TT}
theorem BldStep.subA (a:BldStep w w2 p C A xs root vis Ta C2 A2 x2)(b:BldStep w2 w3 p C2 A2 x2 root vis Tb C3 A3 x3):Sub w3 x3 Ta:=
 a.sub.chgC a.head b.chg (λj c=>(b.keep j (a.own.tk j c)).1)
theorem BldStep.joined (c:BldStep w w2 p C A xs root vis Ta C2 A2 x2)(b:BldStep w2 w3 p C2 A2 x2 root vis Tb C3 A3 x3){e:Ending}(O:NodePost w3 w4 p C3 A3 x3 root vis (TT.pair 0 Ta Tb).nd e){L:List Bool}{m f t:Nat}(N:Bld L m f t (.pair Ta.st Tb.st)):pC w w4 p C A xs root vis L m f t e:=by
 obtain⟨k,K,J,H,rfl,M,r,P,x,F,qZ,G,D,g,u⟩:=O.ex;have S:=c.chg.size;have U:=b.chg.size;have z:∀j∈Ta.nums,A3.T[j]? =some true:=λj a=>(b.keep j (c.own.tk j a)).2.1;have B:∀j∈Tb.nums,A3.T[j]? =some true:=b.own.tk;have s:∀j∈Ta.nums,j∉Tb.nums:=λj a=>(b.keep j (c.own.tk j a)).2.2;have l:=(c.subA b).chgC b.head r.chg (λj a=>(qZ j (z j a)).1);have n:=b.sub.chgC b.head r.chg (λj a=>(qZ j (B j a)).1);refine⟨.pair k Ta Tb,K,J,H,rfl,⟨M,⟨x,l,n⟩,⟨?_,?_,?_⟩,P,?_,?_,?_,?_,?_,λh=>u (b.fr (c.fr h)),?_⟩,N⟩
 ·simp only[TT.nums,aS2,aR0,bd5,aS1];exact⟨⟨λh=>F (z k h),λh=>F (B k h)⟩,c.own.nn,b.own.nn,λj a i v e=>s j a (e▸v)⟩
 ·simp only[TT.bl,aS1];refine⟨c.own.bn,b.own.bn,λj a i v e=>?_⟩;have Q:=(c.sub.type a).lt;have R:=b.newB i v;omega
 ·intro j a;simp only[TT.nums,aR1,aR0]at a;rcases a with rfl | a | a
  ·exact G
  ·exact(qZ j (z j a)).2
  ·exact(qZ j (B j a)).2
 ·intro j a;rcases r.new j a with h | h
  ·rcases b.newC j h with h | h
   ·exact c.newC j h
   ·right;omega
  ·right;omega
 ·intro q d;simp only[TT.bl,aR0]at d;rcases d with d | d
  ·exact c.newB q d
  ·have :=b.newB q d;omega
 ·intro j a;have y:=c.keep j a;have o:=b.keep j y.2.1;have I:=qZ j o.2.1;refine⟨I.1.trans (o.1.trans y.1),I.2,?_⟩;simp only[TT.nums,aR1,aR0];rintro(rfl | a | a)
  ·exact F o.2.1
  ·exact y.2.2 a
  ·exact o.2.2 a
 ·have :=c.live;have :=b.live;simp only[TT.st,ST.size];omega
 ·rw[g,b.max,c.max]
 ·refine(c.chg.trans b.chg (λj a=>c.newC j a)).trans r.chg (λj a=>?_);rcases b.newC j a with h | h
  ·exact c.newC j h
  ·right;omega
end
theorem Wy{p:Nat}{root vis:Int}{a:Option Addr}{c:Nat}{L:List Bool}{m:Nat}(hc:L.length<=c)(hL:L.length<=2147483648)(hm:m=(L.length+127)/128)(n:Nat):∀(w:World) (C:Nat->Prop) (A:Ar) (xs:List Nd) (f t:Nat),Head w p C A xs root vis->xs.length=A.T.length->ReadsV w a (L.map Value.bool)->(∀r,a=some r->¬C r.block/\r.block<w)->t-f=n->1<=n->t<=m->A.live+2*n<=A.M+1->Calls prog 226 #[.pointer p, .slice a L.length c,f,t,m] w λe z=>pC w z p C A xs root vis L m f t e:=by
 induction n using Nat.strongRecOn with
 | ind n W=>
  intro w C A xs f t h l N g hn a2 V v;by_cases h1:n=1
  ·exact Qs h l N hc hL hm E V E
  ·obtain⟨k,U⟩:∃k,k=(f+t)/2:=⟨_,rfl⟩;have x:0<m:=E;have G:=θ (W (k-f) E w C A xs f k h l N g rfl E E E);have D:Hid (∀w2 Ta C2 A2 x2,BldStep w w2 p C A xs root vis Ta C2 A2 x2->Bld L m f k Ta.st->Calls prog 226 #[.pointer p, .slice a L.length c,k,t,m] w2 λe z=>pC w2 z p C2 A2 x2 root vis L m k t e):=by
    intro w2 Ta C2 A2 x2 b q;have hs:=b.chg.size;refine W (t-k) E w2 C2 A2 x2 k t b.head b.len (N.chg b.chg (λr h=>(g r h).1)) (λr h=>⟨λS=>?_,?_⟩) rfl E V ?_
    ·rcases b.newC _ S with I | I
     ·exact(g r h).1 I
     ·have :=(g r h).2;omega
    ·have :=(g r h).2;omega
    ·have Q:=q.leaves;have Y:=Ta.st.size_leaves;have Z:=b.live;have e4:=b.max;omega
   have d:∀{R O:Nat} {T:ST},Bld L m R O T->R<=O->O<=m->Small T:=by
    intro R O T hB h1 I;have e0:=Bg (L:=L) h1 I x;have Q:=yZ (n:=L.length) I x;have Y:=T.high_size;have Z:=T.size_leaves;have e4:=hB.leaves;refine⟨?_,E⟩;rw[hB.bits,e0];exact aV4 (Nat.sub_le _ _) (aV4 Q E)
   have X:Hid (∀w2 Ta C2 A2 x2 w3 Tb C3 A3 x3,BldStep w w2 p C A xs root vis Ta C2 A2 x2->Bld L m f k Ta.st->BldStep w2 w3 p C2 A2 x2 root vis Tb C3 A3 x3->Bld L m k t Tb.st->
     Calls prog 241 #[.pointer p,Ta.num,Tb.num] w3 λe z=>pC w z p C A xs root vis L m f t e):=by
    intro w2 Ta C2 A2 x2 w3 Tb C3 A3 x3 b q i y;have Q:=q.leaves;have Y:=Ta.st.size_leaves;have Z:=b.live;have e4:=b.max;have g1:=y.leaves;have g2:=Tb.st.size_leaves;have g3:=i.live;have g4:=i.max;refine(yE i.head i.len E (b.subA i) i.sub (λj hj=>(i.keep j (b.own.tk j hj)).2.1) i.own.tk (d q E E) (d y E E)).mono ?_;intro e z hN;exact b.joined i hN (ak2 x E V (U▸q) (U▸y))
   have a0:t<=16777217:=E;have a1:f<=t:=E;have d0:((t:Int)-(f:Int)==1)=false:=by rw[bb6];omega
   have d1:IntKind.i64.wrap ((t:Int)-(f:Int))=(t:Int)-(f:Int):=aK8 _ E;obtain⟨s,u⟩:∃s,s=f+t:=⟨_,rfl⟩;have a3:(f:Int)+(t:Int)=(s:Int):=E;have a4:IntKind.i64.wrap (s:Int)=(s:Int):=aK8 _ E;have J:(s:Int)/2=(k:Int):=E;have K:IntKind.i64.wrap (k:Int)=(k:Int):=aK8 _ E;have a5:IntKind.i64.wrap ((s:Int).tdiv 2)=(k:Int):=by rw[aK3 E,J,K]
   have a6:IntKind.i64.wrap ((s:Int)/2)=(k:Int):=by rw[J,K]
   clear h l N g v W d hm hL hc U u;generalize L.length=n0 at *;go_in;go_wp2_with fail;refine G.out.mono ?_;rintro e w2 ⟨Ta,C2,A2,x2,rfl,b,q⟩;have F:=θ b;have B:=θ q;have H:=θ (D.o w2 Ta C2 A2 x2 b q);clear b q D G;go_wp2_with fail;refine H.out.mono ?_;rintro e w3 ⟨Tb,C3,A3,x3,rfl,i,y⟩;have P:=θ (X.o w2 Ta C2 A2 x2 w3 Tb C3 A3 x3 F.o B.o i y);clear i y X H F B;go_wp2_with fail;refine P.o.mono ?_;rintro e w4 hh;have HF:=θ hh;obtain⟨T',C',A',a7,rfl,_,_⟩:=hh;go_wp2;go_ret;exact HF.o
def boxT(ap:Nat):Obj:= .cells #[.pointer ap, .slice none 0 0, .int .i64 (-1), .int .i64 0] 218
theorem Kv{w a:World}(b:IsArena a w (λk=>k=w.heap.size) (Ar.new 268435456))(c:Chg (λ_=>False) w a):Head (a.alloc (boxT w)) a (λk=>k=a.heap.size\/k=w.heap.size) (Ar.new 268435456) [] (-1) 0:=by
 refine⟨w.heap.size,λk=>k=w.heap.size,none,0,?_,b.chg (Chg.refl.alloc (S:=λ_=>False) (boxT w)) (λ_ _ h=>h),bb2 _ _ _ _,λk=>?_⟩
 ·change (a.heap.push (boxT w))[a.heap.size]? =_;rw[Array.getElem?_push_size];rfl
 ·simp
theorem ay4(w:World)(a:Option Addr)(c:Nat):Calls prog 195 #[.slice a 0 c] w λe b=>∃p q,e= .returned (.pointer (some ⟨p,0,none⟩))/\w.heap.size<=p/\w.heap.size<=q/\Head b p (λk=>k=p\/k=q) (Ar.new 268435456) [] (-1) 0/\Chg (λ_=>False) w b:=by
 have g:Hid (Calls prog 90 #[.int .i64 268435456] w λe b=>e= .returned (.pointer w)/\IsArena b w (λk=>k=w.heap.size) (Ar.new 268435456)/\Chg (λ_=>False) w b):=tF 268435456 w E;go_in;go_wp2_with fail;refine g.o.mono ?_;rintro e l ⟨rfl,f,d⟩;have i:=θ (Kv f d);have h:=θ d;have j:=θ d.size;clear f d;go_wp2;go_ret;exact⟨l.heap.size,w.heap.size,rfl,j.out,aV3 _,i.o,h.o.alloc _⟩
theorem ag9(w:World){a:Option Addr}{c:Nat}{L:List Bool}(G:ReadsV w a (L.map Value.bool))(n:L.length<=c)(M:L.length<=2147483648)(h0:0<L.length)(f:∀r,a=some r->r.block<w):Calls prog 195 #[.slice a L.length c] w λe i=>∃p g S,e= .returned (.pointer (some ⟨p,0,none⟩))/\TreeIs S i p (some g) g.size 0/\(∀k,S k->w.heap.size<=k)/\g.bits=L/\Chg (λ_=>False) w i:=by
 have I:Hid (Calls prog 90 #[.int .i64 268435456] w λe i=>e= .returned (.pointer w)/\IsArena i w (λk=>k=w.heap.size) (Ar.new 268435456)/\Chg (λ_=>False) w i):=tF 268435456 w E;obtain⟨m,F⟩:∃m,m=(L.length+127)/128:=⟨_,rfl⟩;have u:0<m:=E;obtain⟨z,hz⟩:∃z,z=L.length+127:=⟨_,rfl⟩;have q1:(L.length:Int)+128-1=(z:Int):=E;have q3:(z:Int)/128=(m:Int):=E;have q4:IntKind.i64.wrap (m:Int)=(m:Int):=aK8 _ E;have q5:IntKind.i64.wrap ((z:Int)/128)=(m:Int):=by rw[q3,q4]
 have q6:decide ((0:Int)<(m:Int))=true:=by simp;omega
 have HR:=θ G;have Q:=θ f;have J:Hid (∀b,IsArena b w (λk=>k=w.heap.size) (Ar.new 268435456)->Chg (λ_=>False) w b->Calls prog 226 #[.pointer (some ⟨b.heap.size,0,none⟩), .slice a L.length c, .int .i64 0,m,m] (b.alloc (boxT w)) λe i=>
   ∃(d:TT) (q:World),e= .returned d.num/\i=q/\q.cell? ⟨b.heap.size,2,none⟩=some (.int .i64 (-1))/\q.frozen? ⟨b.heap.size,2,none⟩=false/\Hid (∃g S,TreeIs S (q.setCell ⟨b.heap.size,2,none⟩ d.num) b.heap.size (some g) g.size 0/\(∀k,S k->w.heap.size<=k)/\g.bits=L/\Chg (λ_=>False) w (q.setCell ⟨b.heap.size,2,none⟩ d.num))):=by
  intro b x l;have Y:=Kv x l;have Z:=l.size;have A:Chg (λ_=>False) w (b.alloc (boxT w)):=l.alloc _;have a0:=A.size;refine(Wy n M F m _ _ _ _ 0 m Y rfl (G.chg A (λ_ _ h=>h)) (λr h=>⟨?_,?_⟩) E u (aV3 _) (by simp[Ar.new,Ar.live];omega)).mono ?_
  ·have :=f r h;rintro(e | e)<;>omega
  ·have :=f r h;omega
  rintro e i ⟨d,y,P,H,rfl,S,B⟩;obtain⟨K,U,V⟩:=ak3 F u B;have s:∀j,y j->w.heap.size<=j:=λj t=>by
   rcases S.newC j t with (h | h) | h<;>omega
  obtain⟨_,N,_,O⟩:=S.head.cells;refine⟨d,i,rfl,rfl,N,O 2,d.st,λk=>y k\/k∈d.bl,⟨⟨y,P,H,some d,S.head.set2 _,?_,S.own,S.len,?_,?_,rfl,?_,λk=>Iff.rfl⟩,⟨U,V⟩,?_⟩,?_,K,?_⟩
  ·exact S.sub.chgC S.head (S.head.chg3 _ 2) (λ_ _=>rfl)
  ·have :=S.live;simp[Ar.new,Ar.live]at this;simpa[osz,Ar.live]using this
  ·exact S.max
  ·have v:=S.live;have C:=S.fr rfl;simp[Ar.new,Ar.live,C]at v;exact v.symm
  ·change d.st.bits.length<=_;rw[K];exact M
  ·rintro k (D | D)
   ·exact s k D
   ·have :=S.newB k D;omega
  ·exact((A.trans S.chg (λj t=>Ej (by rcases t with h | h<;>omega))).trans (S.head.chg3 _ 2) (λj t=>Ej (s j t)))
 have q7:IntKind.i64.wrap ((L.length:Int)+128)=(L.length:Int)+128:=aK8 _ E;have q8:IntKind.i64.wrap (z:Int)=(z:Int):=aK8 _ E;have q9:(L.length:Int)+127=(z:Int):=E;clear G f hz F n;generalize L.length=n0 at *;go_in;go_wp2_with fail;refine I.o.mono ?_;rintro e b ⟨rfl,x,n⟩;have R:=θ (J.o b x n);have hs:=θ n.size;clear x n J I;go_wp2_with fail;refine R.o.mono ?_;rintro e w2 ⟨d,q,rfl,rfl,N,O,T⟩;go_wp2;go_ret;obtain⟨g,S,v,C,W,X⟩:=T.o;exact⟨b.heap.size,g,S,rfl,v,C,W,X⟩
theorem cV{w:World}{p:Nat}{C:Nat->Prop}{A:Ar}{j:List Nd}{f m:Int}{T:TT}(h:Head w p C A j f m)(k:Sub w j T):Calls prog 257 #[.pointer p,T.num] w λe y=>e= .returned (.bool T.st.few)/\w=y:=by
 have d:=k.root;obtain⟨g,rc,v,s,_⟩:=h.row (by have :=(aO2.1 d).1;omega);obtain⟨_,_,t,_⟩:=h.node s d;obtain⟨_,_,_,n,_,_,_,r⟩:=h.eight s d;cases T with
 | leaf c q l=>
  change Calls prog _ #[.pointer p,(c:Int)] w _;change w.cell? (g,c*8+7)=some (.pointer q)at r;change w.cell? (g,c*8+3)=some (.int .i64 (l.length:Int))at n;change c<j.length at t;clear h k d;have i:Hid ((TT.leaf c q l).st.few=decide (l.length<32)):=rfl;by_cases u:l.length<32
  ·have x:decide ((l.length:Int)<32)=true:=bc2 E;go_in;go_wp2;go_ret;exact⟨dO (by rw[i.o];exact(bc2 u).symm),rfl⟩
  ·have x:decide ((l.length:Int)<32)=false:=bc0 E;go_in;go_wp2;go_ret;exact⟨dO (by rw[i.o];exact(bc0 u).symm),rfl⟩
 | pair c a b=>
  change Calls prog _ #[.pointer p,(c:Int)] w _;change w.cell? (g,c*8+7)=some (.pointer none)at r;change c<j.length at t;clear h k d n;have i:Hid ((TT.pair c a b).st.few=false):=rfl;go_in;go_wp2;go_ret;exact⟨dO i.o.symm,rfl⟩
theorem yC{w:World}{p:Nat}{C:Nat->Prop}{A:Ar}{k:List Nd}{d s:Int}(h:Head w p C A k d s){i j a c:Nat}{l r:List Bool}(v:Sub w k (.leaf i a l))(x:Sub w k (.leaf j c r))(P:a≠c)(Z:l.length+r.length<=128):Calls prog 258 #[.pointer p,i,j] w λe J=>e= .returned (.bool false)/\Head J p C A (k.set i (TT.leaf i a (l++r)).nd) d s/\IsBlock J a (l++r)/\Chg (λb=>C b\/b=a\/b=c) w J:=by
 have q:=v.root;have G:=x.root;obtain⟨g,rc,Y,t,_⟩:=h.row (by have :=(aO2.1 q).1;omega);obtain⟨_,_,D,_⟩:=h.node t q;obtain⟨_,_,F,_⟩:=h.node t G;obtain⟨_,_,_,_,_,_,_,W⟩:=h.eight t q;obtain⟨_,_,_,_,_,_,_,X⟩:=h.eight t G;change w.cell? (g,i*8+7)=some (.pointer a)at W;change w.cell? (g,j*8+7)=some (.pointer c)at X;change i<k.length at D;change j<k.length at F;have U:Hid (∀n,Calls prog 265 #[.pointer a, .pointer c] (w.drewN n) (Jp (w.drewN n) a c l r)):=λn=>aA2 (w:=w.drewN n) v.2 x.2 P Z;have H:=θ h;have V:Hid (k[i]? =some (TT.leaf i a l).nd):=q;have M:Hid (¬C a/\¬C c):=⟨h.notBlk v.2.type,h.notBlk x.2.type⟩;clear h v x q G P;go_in;go_wp2;go_quiet (fail);obtain⟨I,rfl⟩:=Ez nq;go_wp2_with fail;refine(U.o I).mono ?_;rintro e w2 ⟨rfl,f,B,y⟩;have z:=(H.o.drewN I).chg y (λb u e=>e.elim (λe=>M.o.1 (e▸u)) (λe=>M.o.2 (e▸u)));have T:=θ (gY z V.o rfl f);have L:=θ z;have m:=θ f;have Q:Hid (Chg (λb=>C b\/b=a\/b=c) w w2):=((Chg.refl (S:=λb=>C b\/b=a\/b=c)).drewN I).trans y (λb e=>Ei (Ej e));clear z f B y;go_wp2_with fail;refine T.o.mono ?_;rintro e w3 ⟨rfl,O,N⟩;have R:=θ O;have K:=θ (L.o.chgRow N);clear O N;go_wp2;go_ret;exact⟨rfl,R.o,m.o.chg K.out (L.o.notBlk m.o.type),Q.out.trans K.out (λb u=>Ei (Ei u))⟩
theorem vJ{w:World}{p:Nat}{C:Nat->Prop}{A:Ar}{y:List Nd}{b9 i4:Int}(h:Head w p C A y b9 i4){i j qa qb:Nat}{c d:List Bool}(hi:Sub w y (.leaf i qa c))(hj:Sub w y (.leaf j qb d))(g7:i≠j)(hq:qa≠qb)(hl:128<c.length+d.length):Calls prog 258 #[.pointer (some ⟨p,0,none⟩), .int .i64 i, .int .i64 j] w λe w'=>e= .returned (.bool true)/\∃J q2,w.heap.size<=J/\w.heap.size<=q2/\J≠q2/\Head w' p C A ((y.set i (TT.leaf i J ((c++d).take ((c.length+d.length)/2))).nd).set j (TT.leaf j q2 ((c++d).drop ((c.length+d.length)/2))).nd) b9 i4/\IsBlock w' J ((c++d).take ((c.length+d.length)/2))/\IsBlock w' q2 ((c++d).drop ((c.length+d.length)/2))/\Chg C w w':=by
 have hx:=hi.root;have hy:=hj.root;have ka:=hi.2.1;have kb:=hj.2.1;obtain⟨g,rc,l3,c1,l4,g1,_⟩:=h.row (by have :=(aO2.1 hx).1;omega);obtain⟨_,_,j6,_⟩:=h.node c1 hx;obtain⟨_,_,j7,_⟩:=h.node c1 hy;obtain⟨_,_,_,_,_,_,_,a7⟩:=h.eight c1 hx;obtain⟨_,_,_,_,_,_,_,b7⟩:=h.eight c1 hy;change w.cell? ⟨g,i*8+7,none⟩=some (.pointer (some ⟨qa,0,none⟩))at a7;change w.cell? ⟨g,j*8+7,none⟩=some (.pointer (some ⟨qb,0,none⟩))at b7;change i<y.length at j6;change j<y.length at j7;have HJ:Hid (∀n,Calls prog 265 #[.pointer (some ⟨qa,0,none⟩), .pointer (some ⟨qb,0,none⟩)] (w.drewN n) λe w'=>e= .returned (.int .i64 3)/\∃m,w'=(w.drewN n).drewN m):=λn=>Ke (w:=w.drewN n) hi.2 hj.2 hq hl;have HA:Hid (∀n,IsBlock (w.drewN n) qa c):=λn=>hi.2;have HB:Hid (∀n,IsBlock (w.drewN n) qb d):=λn=>hj.2;have H:=θ h;have d5:=θ c1;have HX:Hid (y[i]? =some (TT.leaf i qa c).nd):=hx;have HY:Hid (y[j]? =some (TT.leaf j qb d).nd):=hy;have O:=θ g7;have g5:=h.lt g g1;have j8:=h.lt p h.self;clear h hi hj hx hy hq g7 g1;go_enter func258,ntmps258;go_wp2_with fail;go_quiet (fail);obtain⟨n1,rfl⟩:∃n1,n1=nq:=⟨_,rfl⟩;go_wp2_with fail;refine(HJ.o n1).mono ?_;rintro e w' ⟨rfl,m,rfl⟩;have e9:Hid (∀n,Below w.heap.size w (w.drewN n)):=λn=>⟨rfl,rfl,rfl,aV3 _,λ_ _=>rfl⟩;go_wp2_with fail;refine(vU (HA.o _)).mono ?_;rintro e w2 ⟨v,rfl,f,c7⟩;have d4:=θ ((HB.o _).below' c7);have V:Below w.heap.size w w2:=(e9.o _).trans c7;have f:w2.ownsRow w.heap.size 4 1 v c.length (c.map Value.bool):=f;have c2:=θ f;have j9:=V.size;have f0:=θ V;clear f c7 V;go_wp2_with fail;refine(vU d4.o).mono ?_;rintro e w3 ⟨v3,rfl,I,d0⟩;have f:=rG c2.o d0 (λk hk=>(cH c2.o hk).2);obtain⟨a3,c3,rfl,Y,_⟩:=aD I;have b5:=dM I;have W:Below w.heap.size w w3:=f0.o.trans (d0.mono j9);have k0:=W.size;have c5:=θ f;have e7:=θ b5;have d9:=θ Y;have f1:=θ W;clear I f d0 b5 Y W;go_wp2_with (at_builtin;refine dT rfl _ _ 132 rfl w.heap.size 4 Tryz.infoBoolR Tryz.underlying132 rfl _ c.length _ rfl c5.o a3 d.length c3 (d.map Value.bool) rfl Es d9.o e7.o.hnews (oneB _) (by unfold maxLen;omega) E E ?_);intro a4 c4 r u X _;have l:Below w.heap.size w r:=f1.o.trans ((aJ6 _ _).grown X k0 (λk hk=>(cH c5.o hk).1));obtain⟨_,a9,_⟩:∃x,c.length+d.length<=c4/\x=0:=by
  obtain⟨gg,l2,hv,_,_,h5,_⟩:=cS u E;injection hv with _ _ e3
  exact⟨0,by rw[e3];exact h5,rfl⟩
 obtain⟨l0,l1,k3,_,R⟩:=aD u;injection k3 with e1 e2 e3
 subst e1;clear e2 e3;have K:=dM u;rw[<-aQ2]at K;have T:(c++d).length=c.length+d.length:=aP3;have hN:c.length+d.length<=256:=E;generalize g2:c++d=all at *;generalize h0:c.length+d.length=N at *;have i6:=θ g2;have j1:=θ h0;clear g2 h0;obtain⟨M,hM⟩:∃M,M=N/2:=⟨_,rfl⟩;have j5:M<=N/\M<=128/\N-M<=128/\N<=256:=E;obtain⟨l5,l6,l7,l8⟩:=j5;have m1:IntKind.i64.wrap (M:Int)=(M:Int):=aK8 _ E;have k7:((N:Int)/2)=(M:Int):=E;have l9:=λ(w:World)=>jR (P:=prog) (w:=w) (t:=132) (a:=a4) (len:=N) (cap:=c4) (k:=M) aZ7 Ek E;have m0:=λ(w:World)=>oL (P:=prog) (w:=w) (t:=132) (a:=a4) (len:=N) (cap:=c4) (k:=M) aZ7 Ek E;have e8:Hid (ReadsV r a4 ((all.take M).map Value.bool)):=by rw[aQ8];exact K.take M
 have d7:Hid (ReadsV r (gF a4 M c4) ((all.drop M).map Value.bool)):=by rw[aQ5];exact K.drop (by simpa[T]using a9)
 have b2:∀ad,gF a4 M c4=some ad->w.heap.size<=ad.block:=by
  intro ad F;unfold gF at F;split at F
  ·obtain⟨gg,rfl,hg,_⟩:=R _ F;exact hg
  ·cases a4 with
   | none=>cases F
   | some x=>
    obtain⟨gg,rfl,hg,_⟩:=R _ rfl;simp[aI7]at F;subst F;exact hg
 have a1:(all.take M).length=M:=by rw[aQ1];omega
 have g9:(all.drop M).length=N-M:=by rw[aP5];omega
 have r4:=(l.cell (p:=⟨p,1,none⟩) j8).trans c1;have s7:=(l.cell (p:=⟨g,i*8+7,none⟩) g5).trans a7;have t7:=(l.cell (p:=⟨g,j*8+7,none⟩) g5).trans b7;have h4:=H.o.below l;have z4:=(h4.node r4 HX.o).2.1;have z1:=z4 (i*8+7);have z2:=z4 (j*8+7);have k5:¬(j*8+7=i*8+7):=by have :=O.o;omega
 have k1:=l.size;have e0:=θ b2;have j2:=θ l;have H4:=θ h4;have k8:=θ a1;have d8:=θ g9;have k4:=θ T;have HM:=θ hM;have q:=sG r.drew a4 c4 (all.take M) e8.o (by rw[a1];omega);rw[a1]at q;have a8:=θ q;clear u X K R b2 l h4 z4 a1 g9 T hM q a7 b7 c1 HJ HA HB d4 c2 c5 e7 d9 f0 f1 a9 e9;go_wp2_with fail;refine aG (λw'=>w'.cell? ⟨p,1,none⟩=some (.slice (some ⟨g,0,none⟩) y.length rc)) Ek (r4) (λs=>?_);refine rV 0 1 2 3 s ?_;refine rV 4 5 6 7 s ?_;refine rU 8 9 s ?_;refine rg 10 λκ hK=>?_;go_simp
 ((with_reducible refine a8.o.mono ?_))
 rintro e w5 ⟨rfl,i0,G⟩;have r5:w5.cell? ⟨p,1,none⟩=some (.slice (some ⟨g,0,none⟩) y.length rc):=(G.cell (p:=⟨p,1,none⟩) (by show p<r.heap.size;omega)).trans r4;have s5:w5.cell? ⟨g,i*8+7,none⟩=some (.pointer (some ⟨qa,0,none⟩)):=(G.cell (p:=⟨g,i*8+7,none⟩) (by show g<r.heap.size;omega)).trans s7;have t5:w5.cell? ⟨g,j*8+7,none⟩=some (.pointer (some ⟨qb,0,none⟩)):=(G.cell (p:=⟨g,j*8+7,none⟩) (by show g<r.heap.size;omega)).trans t7;have z5:w5.frozen? ⟨g,i*8+7,none⟩=false:=(G.frozen (p:=⟨g,i*8+7,none⟩) (by show g<r.heap.size;omega)).trans z1;have y5:w5.frozen? ⟨g,j*8+7,none⟩=false:=(G.frozen (p:=⟨g,j*8+7,none⟩) (by show g<r.heap.size;omega)).trans z2;have e5:=θ i0;have z:=θ G;clear i0 G;refine hK.out _ _ (r5) ?_;intro s;try simp only[pt]
 refine rV 11 12 13 14 s ?_;refine rt 15 s ?_;refine rg 16 λκ hK=>?_;go_simp;refine hK.out _ _ ?kpsix16 (λD=>?_);case kpsix16=>(go_simp)
 clear hK κ s;have s:=D;clear D;try simp only[pt]
 refine rz ?_;clear s;have h5:=H4.o.drew.below z.o;obtain⟨h6,g6,r6⟩:=h5.put r5 HX.o (i:=7) (v:= .pointer (some ⟨r.heap.size,0,none⟩)) (x':=⟨-1,-1,0,c.length,c.count true,0,0,some r.heap.size⟩) E rfl;have L:(y.set i ⟨-1,-1,0,c.length,c.count true,0,0,some r.heap.size⟩)[j]? =some (TT.leaf j qb d).nd:=by rw[aH O.o.symm];exact HY.o
 have a2:(y.set i ⟨-1,-1,0,c.length,c.count true,0,0,some r.heap.size⟩)[i]? =some ⟨-1,-1,0,c.length,c.count true,0,0,some r.heap.size⟩:=aY HX.o;have t6:(w5.setCell ⟨g,i*8+7,none⟩ (.pointer (some ⟨r.heap.size,0,none⟩))).cell? ⟨g,j*8+7,none⟩=some (.pointer (some ⟨qb,0,none⟩)):=(h6.eight r6 L).2.2.2.2.2.2.2;have y6:=(h6.node r6 L).2.1 (j*8+7);have d6:=((show ReadsV r.drew (gF a4 M c4) ((all.drop M).map Value.bool)from d7.o).below' z.o).chg g6 (λad F e=>by have :=e0.o ad F;rw[e]at this;omega);have q6:=e5.o.chg g6 (by show ¬r.heap.size=g;omega);have g3:Chg C w w5:=(Chg.of_below j2.o).trans (Chg.of_below (S:=C) (show Below r.heap.size r w5 from⟨z.o.os,z.o.tape,z.o.output,z.o.size,z.o.block⟩)) (λb hb=>Ei hb);have c6:Chg C w _:=g3.trans g6 (λb e=>Ei (by subst e;exact H.o.rowC ⟨_,_,d5.o⟩));have k2:=c6.size;generalize w5.setCell ⟨g,i*8+7,none⟩ (.pointer (some ⟨r.heap.size,0,none⟩))=w6 at *;have b4:w.heap.size<=r.heap.size:=k1;have q6:IsBlock w6 r.heap.size (all.take M):=q6;obtain⟨J,h2⟩:∃J,J=r.heap.size:=⟨_,rfl⟩;rw[<-h2]at h6 L a2 q6 b4;have Z:(y.set i ⟨-1,-1,0,c.length,c.count true,0,0,some J⟩).length=y.length:=Es;have s6:y.set i ⟨-1,-1,0,c.length,c.count true,0,0,some J⟩=y.set i ⟨-1,-1,0,c.length,c.count true,0,0,some J⟩:=rfl;generalize b6:y.set i ⟨-1,-1,0,c.length,c.count true,0,0,some J⟩=xs6 at h6 L a2 Z;have f2:=θ b6;have k6:=q6.lt;have q:=sG w6.drew (gF a4 M c4) (c4-M) (all.drop M) d6 (by rw[d8.o];omega);rw[d8.o]at q;have Q:=θ q;have H6:=θ h6;have f4:=θ L;have j3:=θ a2;have Q6:=θ q6;have i7:=θ c6;have L6:=θ Z;have b1:g<w6.heap.size:=E;have h1:p<w6.heap.size:=E;clear h5 h6 g6 L a2 d6 q6 g3 c6 b6 q Z s6 r5 s5 t5 z5 y5 r4 s7 t7 z1 z2 e5 z a8 e8 d7 h2 f;go_wp2_with fail;refine aG (λw'=>w'.cell? ⟨p,1,none⟩=some (.slice (some ⟨g,0,none⟩) y.length rc)) Ek (r6) (λs=>?_);refine rV 0 1 2 3 s ?_;refine rV 4 5 6 7 s ?_;refine rU 8 9 s ?_;refine rg 10 λκ hK=>?_;go_simp
 ((with_reducible refine Q.o.mono ?_))
 rintro e w7 ⟨rfl,i1,U⟩;have r7:w7.cell? ⟨p,1,none⟩=some (.slice (some ⟨g,0,none⟩) y.length rc):=(U.cell (p:=⟨p,1,none⟩) h1).trans r6;have t7:w7.cell? ⟨g,j*8+7,none⟩=some (.pointer (some ⟨qb,0,none⟩)):=(U.cell (p:=⟨g,j*8+7,none⟩) b1).trans t6;have y7:w7.frozen? ⟨g,j*8+7,none⟩=false:=(U.frozen (p:=⟨g,j*8+7,none⟩) b1).trans y6;have e6:=θ i1;have B:=θ U;clear i1 U;refine hK.out _ _ (r7) ?_;intro s;try simp only[pt]
 refine rV 11 12 13 14 s ?_;refine rt 15 s ?_;refine rg 16 λκ hK=>?_;go_simp;refine hK.out _ _ ?kpsev16 (λD=>?_);case kpsev16=>(go_simp)
 clear hK κ s;have s:=D;clear D;try simp only[pt]
 refine rz ?_;clear s;have h7:=H6.o.drew.below B.o;obtain⟨h8,g8,r8⟩:=h7.put r7 f4.o (i:=7) (v:= .pointer (some ⟨w6.heap.size,0,none⟩)) (x':=⟨-1,-1,0,d.length,d.count true,0,0,some w6.heap.size⟩) E rfl;have a5:(xs6.set j ⟨-1,-1,0,d.length,d.count true,0,0,some w6.heap.size⟩)[i]? =some ⟨-1,-1,0,c.length,c.count true,0,0,some J⟩:=by rw[aH O.o];exact j3.o
 have d1:(xs6.set j ⟨-1,-1,0,d.length,d.count true,0,0,some w6.heap.size⟩)[j]? =some ⟨-1,-1,0,d.length,d.count true,0,0,some w6.heap.size⟩:=aY f4.o;have g4:Chg C w w7:=i7.o.trans (Chg.of_below (S:=C) (show Below w6.heap.size w6 w7 from⟨B.o.os,B.o.tape,B.o.output,B.o.size,B.o.block⟩)) (λb hb=>Ei hb);have i2:=(show IsBlock w6.drew J (all.take M)from Q6.out).below' B.o;have d2:=i2.chg g8 E;have a6:=e6.o.chg g8 (by show ¬w6.heap.size=g;omega);have c8:Chg C w _:=g4.trans g8 (λb e=>Ei (by subst e;exact H.o.rowC ⟨_,_,d5.o⟩));generalize w7.setCell ⟨g,j*8+7,none⟩ (.pointer (some ⟨w6.heap.size,0,none⟩))=w8 at *;have a6:IsBlock w8 w6.heap.size (all.drop M):=a6;have b3:J≠w6.heap.size:=E;have h3:w.heap.size<=w6.heap.size:=k2;generalize w6.heap.size=q2 at *;generalize b8:xs6.set j ⟨-1,-1,0,d.length,d.count true,0,0,some q2⟩=xs8 at h8 a5 d1;have f3:=θ b8;have HF:=θ (gY h8 a5 rfl d2);have H8:=θ h8;have k9:=θ a5;have j4:=θ d1;have f5:=θ d2;have f7:=θ a6;have i8:=θ c8;have e4:=θ b3;clear h7 h8 g8 r8 a5 d1 g4 i2 d2 a6 c8 b8 b3 r7 t7 y7 e6 B Q r6 t6 y6;go_wp2_with fail;refine HF.o.mono ?_;rintro e w9 ⟨rfl,h9,c9⟩;have a0:=H8.o.chgRow c9;have d3:=f7.out.chg a0 (H8.o.notBlk f7.out.type);have i3:=f5.out.chg a0 (H8.o.notBlk f5.out.type);have j0:=θ (gY h9 (k:=j) (x:=⟨-1,-1,0,d.length,d.count true,0,0,some q2⟩) (by rw[aH O.o.symm];exact j4.o) rfl d3);have H9:=θ h9;have f8:=θ d3;have f6:=θ i3;have i9:=θ (i8.o.trans a0 (λb hb=>Ei hb));clear h9 c9 a0 d3 i3;go_wp2_with fail;refine j0.o.mono ?_;rintro e m2 ⟨rfl,g0,f9⟩;have i5:=θ g0;have c0:=θ (H9.o.chgRow f9);clear g0 f9;go_wp2_with fail;go_ret;rw[i6.o,j1.o,<-HM.o];refine⟨rfl,J,q2,b4,h3,e4.o,?_,f6.out.chg c0.out (H9.o.notBlk f6.out.type),f8.out.chg c0.out (H9.o.notBlk f8.out.type),i9.o.trans c0.out (λb hb=>Ei hb)⟩;have b0:=i5.o;rw[<-f3.o,<-f2.o,List.set_comm _ _ O.o.symm,aT2,aT2]at b0;exact b0
def Ar.fr (a:Ar)(x y:Nat):Ar:=⟨(a.T.set x false).set y false,a.F++[x,y],a.M⟩
def Ar.fr1 (a:Ar)(x:Nat):Ar:=⟨a.T.set x false,a.F++[x],a.M⟩
theorem zZ{T:List Bool}{x:Nat}(h:T[x]? =some true):lW T (x:Int)=true:=by
 rw[pT];exact⟨E,by simpa using h⟩
theorem Ar.free2 {a:Ar}{x y:Nat}(e:a.T[x]? =some true)(f:a.T[y]? =some true)(b:x≠y):a.free [(x:Int),(y:Int)]=(0,a.fr x y):=by
 have c:=zZ e;have d:lW (a.T.set x false) (y:Int)=true:=zZ (by rw[aO5,bc9 b];exact f);unfold Ar.free;simp only[clr,c,bd1,aK5,d];rfl
theorem Ar.free1 {a:Ar}{x:Nat}(c:a.T[x]? =some true):a.free [(x:Int)]=(0,a.fr1 x):=by
 have b:=zZ c;unfold Ar.free;simp only[clr,b,bd1,aK5];rfl
theorem Ar.fr_live {a:Ar}(h:a.Ok){x y:Nat}(d:a.T[x]? =some true)(e:a.T[y]? =some true)(b:x≠y):(a.fr x y).live+2=a.live:=by
 have c:(a.fr x y).Ok:=by
  have :=Ar.free_ok h [(x:Int),(y:Int)];rw[Ar.free2 d e b]at this;exact this
 have f:=c.fle;simp only[Ar.fr,Ar.live,aP3,aQ0,aP4,aP8]at *;omega
theorem Ar.fr1_live {a:Ar}(h:a.Ok){x:Nat}(c:a.T[x]? =some true):(a.fr1 x).live+1=a.live:=by
 have b:(a.fr1 x).Ok:=by
  have :=Ar.free_ok h [(x:Int)];rw[Ar.free1 c]at this;exact this
 have d:=b.fle;simp only[Ar.fr1,Ar.live,aP3,aQ0,aP4,aP8]at *;omega
theorem Ar.fr_T {a:Ar}{x y j:Nat}(b:j≠x)(c:j≠y):(a.fr x y).T[j]? =a.T[j]? :=by
 simp only[Ar.fr];rw[aH c,aH b]
section
variable {w:World}{p:Nat}{C:Nat->Prop}{A:Ar}{xs:List Nd}{root vis:Int}
theorem ad1{w:World}{B:Nat}{x y:Int}{T:TypeId}(h:w.heap[B]? =some (.cells #[x,y] T (0,0))):Reads w .i64 (some (B,0)) [x,y]:=by
 intro i b;refine⟨B,0,rfl,(aJ2.1 h).1,λj a=>?_⟩;match j,a with
 | 0,_=>rw[bb8 w B _ _ _ _ h];rfl
 | 1,_=>rw[bb8 w B _ _ _ _ h];rfl
theorem Vo{w:World}{B:Nat}{x:Int}{T:TypeId}(h:w.heap[B]? =some (.cells #[x] T (0,0))):Reads w .i64 (some (B,0)) [x]:=by
 intro i b;refine⟨B,0,rfl,(aJ2.1 h).1,λj a=>?_⟩;match j,a with
 | 0,_=>rw[bb8 w B _ _ _ _ h];rfl
theorem Nt(h:Head w p C A xs root vis){x y:Nat}(r:A.T[x]? =some true)(s:A.T[y]? =some true)(j:x≠y):∃f,w.cell? p=some (.pointer (some ⟨f,0,none⟩))/\Calls prog 213 #[.pointer f, .slice w 2 2] (w.alloc (.cells #[x,y] 3)) λe k=> e= .returned (.int .i64 0)/\∃d,Head k p d (A.fr x y) xs root vis/\HStep w k C d:=by
 have i:=aR w (.cells #[x,y] 3);obtain⟨f,u,t,n,c,a⟩:=(h.below i).arena;refine⟨f,(i.cell (p:=(p,0)) (h.lt p h.self)).symm.trans t,?_⟩;have o:=tD n [(x:Int),(y:Int)] (some (w,0)) 2 (ad1 (bc6 w _)) (λh=>by cases h) (λv g q=>by cases g;have :=h.lt _ (c _ q);simp at this) Es Es;refine o.mono ?_;rintro e k ⟨rfl,b⟩;rw[Ar.free2 r s j]at b⊢;obtain⟨d,l,m⟩:=a _ _ b;exact⟨rfl,d,l,(HStep.of_below i).trans m⟩
theorem tFree1(h:Head w p C A xs root vis){x:Nat}(q:A.T[x]? =some true):∃f,w.cell? p=some (.pointer (some ⟨f,0,none⟩))/\Calls prog 213 #[.pointer f, .slice w 1 1] (w.alloc (.cells #[x] 3)) λe j=> e= .returned (.int .i64 0)/\∃d,Head j p d (A.fr1 x) xs root vis/\HStep w j C d:=by
 have i:=aR w (.cells #[x] 3);obtain⟨f,s,r,m,c,a⟩:=(h.below i).arena;refine⟨f,(i.cell (p:=(p,0)) (h.lt p h.self)).symm.trans r,?_⟩;have n:=tD m [(x:Int)] (some (w,0)) 1 (Vo (bc6 w _)) (λh=>by cases h) (λt g o=>by cases g;have :=h.lt _ (c _ o);simp at this) Es Es;refine n.mono ?_;rintro e j ⟨rfl,b⟩;rw[Ar.free1 q]at b⊢;obtain⟨d,k,l⟩:=a _ _ b;exact⟨rfl,d,k,(HStep.of_below i).trans l⟩
end
def rQ(w:World)(xs:List Nd):TT->Prop
 | .leaf k q l=>Sub w xs (.leaf k q l)
 | .pair k a c=>∃x,xs[k]? =some x/\x.left=a.num/\x.right=c.num/\x.b=none/\Sub w xs a/\Sub w xs c
def iO(w w':World)(p:Nat)(C:Nat->Prop)(A:Ar)(xs:List Nd)(root vis:Int)(T:TT)(e:Ending):Prop:=
 ∃T' C' A' xs' v',e= .returned (.int .i64 T'.num)/\Head w' p C' A' xs' root v'/\SubPre w w' C A xs T T' C' A' xs'/\T'.st=cX T.st/\vis<=v'/\v'<=vis+2/\rQ w' xs' T'/\A'.T.length=A.T.length
theorem SubPre.refl {w b:World}{C:Nat->Prop}{A:Ar}{xs:List Nd}{T:TT}(e:Own A T)(g:xs.length=A.T.length)(f:Chg C w b):SubPre w b C A xs T T C A xs:=
 ⟨e,g,λj a=>Ei a,λj a=>Ei a,λj c d=>⟨rfl,c,d⟩,rfl,rfl,f.mono (λj a=>Ei a)⟩
theorem ay3{w:World}{p:Nat}{C:Nat->Prop}{A:Ar}{xs:List Nd}{root vis:Int}(h:Head w p C A xs root vis)(a:xs.length=A.T.length){k:Nat}{l r:TT}(N:rQ w xs (.pair k l r))(G:Own A (.pair k l r))(u:l.st.few=false/\r.st.few=false):Calls prog 246 #[.pointer p,k] w λe t=>iO w t p C A xs root vis (.pair k l r) e:=by
 obtain⟨x,q,b,c,s,v,y⟩:=N;obtain⟨g,rc,J,F,_⟩:=h.row (by have :=(aO2.1 q).1;omega);obtain⟨_,_,O,_⟩:=h.node F q;obtain⟨B,D,_⟩:=h.eight F q;rw[b]at B;rw[c]at D;have d:Hid (∀n,Calls prog 257 #[.pointer p,l.num] (w.drewN n) λe t=>e= .returned (.bool false)/\w.drewN n=t):=λn=>by
  have :=cV (h.drewN n) (v.keep (w':=w.drewN n) (λ_ _=>rfl) (λ_ _=>rfl));rw[u.1]at this;exact this
 have f:Hid (∀n,Calls prog 257 #[.pointer p,r.num] (w.drewN n) λe t=>e= .returned (.bool false)/\w.drewN n=t):=λn=>by
  have :=cV (h.drewN n) (y.keep (w':=w.drewN n) (λ_ _=>rfl) (λ_ _=>rfl));rw[u.2]at this;exact this
 have H:(TT.pair k l r).st=cX (TT.pair k l r).st:=by simp only[TT.st,cX];rw[bd0 u]
 have I:=θ H;have i:Hid (∀n,Head (w.drewN n) p C A xs root vis/\SubPre w (w.drewN n) C A xs (.pair k l r) (.pair k l r) C A xs/\rQ (w.drewN n) xs (.pair k l r)):=λn=>
  ⟨h.drewN n,SubPre.refl G a (Chg.refl.drewN n),x,q,b,c,s,v.keep (λ_ _=>rfl) (λ_ _=>rfl),y.keep (λ_ _=>rfl) (λ_ _=>rfl)⟩
 obtain⟨P,j⟩:=Ey l.num;obtain⟨Q,m⟩:=Ey r.num;rw[j]at B d;rw[m]at D f;clear h a G u q b c s v y H j m;go_in;go_wp2;go_quiet (fail);obtain⟨z,rfl⟩:=Ez nq;go_wp2_with fail;refine Cq (d.o z) ?_;go_wp2_with fail;refine Cq (f.o z) ?_;go_wp2;go_ret;obtain⟨K,L,M⟩:=i.o z;exact⟨.pair k l r,C,A,xs,vis,rfl,K,L,I.o,E,E,M,rfl⟩
theorem Ea{w:World}{p:Nat}{C:Nat->Prop}{A:Ar}{m:List Nd}{l a:Int}(h:Head w p C A m l a)(u:m.length=A.T.length)(c3:0<=a)(hv:a<=100000000000){k i c j r:Nat}{d f:List Bool}(hS:rQ w m (.pair k (.leaf i c d) (.leaf j r f)))(Y:Own A (.pair k (.leaf i c d) (.leaf j r f)))(N:(TT.leaf i c d).st.few=true\/((TT.leaf i c d).st.few=false/\(TT.leaf j r f).st.few=true))(P:d.length+f.length<=128):Calls prog 246 #[.pointer p,k] w λe t=>iO w t p C A m l a (.pair k (.leaf i c d) (.leaf j r f)) e:=by
 obtain⟨x,V,z,B,W,G,H⟩:=hS;obtain⟨g,rc,b5,y,b6,M,_⟩:=h.row (by have :=(aO2.1 V).1;omega);obtain⟨_,_,b9,_⟩:=h.node y V;obtain⟨a0,a1,_⟩:=h.eight y V;rw[z]at a0;rw[B]at a1;change w.cell? (g,k*8)=some (.int .i64 (i:Int))at a0;change w.cell? (g,k*8+1)=some (.int .i64 (j:Int))at a1;obtain⟨_,_,cv,fz⟩:=h.cells;have f3:=fz 3;have J:Hid (∀n,Calls prog 257 #[.pointer p,i] (w.drewN n) λe t=>e= .returned (.bool (TT.leaf i c d).st.few)/\w.drewN n=t):=λn=>
  cV (T:=TT.leaf i c d) (h.drewN n) (G.keep (w':=w.drewN n) (λ_ _=>rfl) (λ_ _=>rfl))
 have a2:Hid (∀n,Calls prog 257 #[.pointer p,j] (w.drewN n) λe t=>e= .returned (.bool (TT.leaf j r f).st.few)/\w.drewN n=t):=λn=>
  cV (T:=TT.leaf j r f) (h.drewN n) (H.keep (w':=w.drewN n) (λ_ _=>rfl) (λ_ _=>rfl))
 have h1:∀n,Head ((w.drewN n).setCell (p,3) (a+2:Int)) p C A m l (a+2):=λn=>(h.drewN n).set3 _;have X:∀n,Chg C w ((w.drewN n).setCell (p,3) (a+2:Int)):=λn=>(Chg.refl.drewN n).setCell _ (Ei h.self) _;have a4:Hid (∀n,Sub ((w.drewN n).setCell (p,3) (a+2:Int)) m (TT.leaf i c d)):=λn=>G.chgC h (X n) (λ_ _=>rfl);have a8:Hid (∀n,Sub ((w.drewN n).setCell (p,3) (a+2:Int)) m (TT.leaf j r f)):=λn=>H.chgC h (X n) (λ_ _=>rfl);have b3:Hid (∀n,((w.drewN n).setCell (p,3) (a+2:Int)).cell? (p,1)=some (.slice g m.length rc)):=λn=>by
  have :=y;go_simp
 have H1:=θ h1;have G1:=θ X;have HO:=θ Y;have a5:=θ u;have HX:Hid (m[k]? =some x/\x.left=i/\x.right=j/\x.b=none):=⟨V,z,B,W⟩;obtain⟨_,_,b1,_⟩:=h.node y G.root;obtain⟨_,_,b2,_⟩:=h.node y H.root;obtain⟨_,_,_,_,_,_,_,b7⟩:=h.eight y G.root;obtain⟨_,_,_,_,_,_,_,d7⟩:=h.eight y H.root;change w.cell? (g,i*8+7)=some (.pointer c)at b7;change w.cell? (g,j*8+7)=some (.pointer r)at d7;change i<m.length at b1;change j<m.length at b2;have S:c≠r:=by have :=Y.bn;simp[TT.bl]at this;exact this
 have R:k≠i/\k≠j/\i≠j:=by have :=Y.nn;simp[TT.nums]at this;exact⟨this.1.1,this.1.2,this.2⟩
 have K:=θ R;have Q:cX (TT.pair k (.leaf i c d) (.leaf j r f)).st=lev d f:=by
  simp only[TT.st,cX];rw[bc9 (by rintro⟨e1,F⟩;rcases N with N | ⟨_,N⟩<;>simp only[TT.st]at N<;>simp_all)]
 have a7:=θ Q;have c0:=h.lt p h.self;have b8:=h.lt g M;have b0:Hid (m[i]? =some (TT.leaf i c d).nd):=G.root;have b4:Hid (m[j]? =some (TT.leaf j r f).nd):=H.root;have a6:Hid (∀n,Calls prog 258 #[.pointer p,i,j] ((w.drewN n).setCell (p,3) (a+2:Int)) λe t=>e= .returned (.bool false)/\Head t p C A (m.set i (TT.leaf i c (d++f)).nd) l (a+2)/\IsBlock t c (d++f)/\Chg (λb=>C b\/b=c\/b=r) ((w.drewN n).setCell (p,3) (a+2:Int)) t):=
  λn=>yC (h1 n) (a4.o n) (a8.o n) S P
 clear h u Y V z B W G H fz h1 X R Q M S;rcases N with s | ⟨s,U⟩
 case' inl=>
  have v:=θ s;clear s;go_in;go_wp2;go_quiet (fail);obtain⟨I,rfl⟩:=Ez nq;go_wp2_with fail;refine Cq (J.o I) ?_;rw[v.o];go_wp2_with fail
 case' inr=>
  have v:=θ s;have a9:=θ U;clear s U;go_in;go_wp2;go_quiet (fail);obtain⟨I,rfl⟩:=Ez nq;go_wp2_with fail;refine Cq (J.o I) ?_;rw[v.o];go_wp2_with fail;refine Cq (a2.o I) ?_;rw[a9.o];go_wp2_with fail
 all_goals
  refine(a6.o I).mono ?_;rintro e w2 ⟨rfl,h2,q2,g2⟩;have D:=HO.o.tk;obtain⟨m1,Z,m3⟩:=K.o;obtain⟨ap,p0,O⟩:=Nt h2 (D j (by simp[TT.nums])) (D k TT.mem_k) Z.symm;have a3:=θ O;have H2:=θ h2;have Q2:=θ q2;have G2:=θ g2;clear h2 q2 g2 D m1 Z m3 O;go_wp2_with fail;refine a3.o.mono ?_;rintro e w3 ⟨rfl,C3,h3,s3⟩;have H3:=θ h3;have S3:=θ s3;clear h3 s3;go_wp2;go_ret;obtain⟨m1,Z,m3⟩:=K.o;have D:=HO.o.tk;have L:Chg (λb=>C b\/b∈(TT.pair k (.leaf i c d) (.leaf j r f)).bl) w w2:=((G1.out I).mono (λb q=>Ei q)).trans G2.out (λb q=>Ei (by simpa[TT.bl]using q));have c2:=L.size;refine⟨.leaf i c (d++f),C3,A.fr j k,_,_,rfl,H3.o,⟨⟨by simp[TT.nums],by simp[TT.bl],λb q=>?_⟩,?_,λb q=>(S3.out.new b q).imp id (λh=>E),λb q=>?_,λb e1 F=>?_,?_,rfl,L.trans S3.out.chg (λb q=>Ei (Ei q))⟩,?_,E,E,⟨?_,?_⟩,by simp[Ar.fr]⟩
  ·simp[TT.nums]at q;subst q;rw[Ar.fr_T m3 m1.symm];exact D _ (by simp[TT.nums])
  ·rw[aQ0,a5.o];simp[Ar.fr]
  ·simp[TT.bl]at q;subst q;exact Ei (by simp[TT.bl])
  ·simp only[TT.nums,aR1,aR0,aS5,bd7,bd5]at F;refine⟨aH F.2.1,by rw[Ar.fr_T F.2.2 F.1];exact e1,by simp[TT.nums,F.2.1]⟩
  ·have hk:=(H2.o.arOk);have :=Ar.fr_live hk (D j (by simp[TT.nums])) (D k TT.mem_k) Z.symm;simp only[TT.st,ST.size];omega
  ·rw[a7.o];simp only[TT.st,lev];rw[bd0 P]
  ·exact aY b0.o
  ·exact Q2.out.chg S3.out.chg (H2.o.notBlk Q2.out.type)
theorem zS{w:World}{p:Nat}{C:Nat->Prop}{A:Ar}{m:List Nd}{r a:Int}(h:Head w p C A m r a)(t:m.length=A.T.length)(c7:0<=a)(hv:a<=100000000000){k i f j l:Nat}{c d:List Bool}(hS:rQ w m (.pair k (.leaf i f c) (.leaf j l d)))(V:Own A (.pair k (.leaf i f c) (.leaf j l d)))(K:(TT.leaf i f c).st.few=true\/((TT.leaf i f c).st.few=false/\(TT.leaf j l d).st.few=true))(b8:¬c.length+d.length<=128):Calls prog 246 #[.pointer p,k] w λe Q=>iO w Q p C A m r a (.pair k (.leaf i f c) (.leaf j l d)) e:=by
 obtain⟨x,O,D,F,P,G,H⟩:=hS;obtain⟨g,rc,c0,y,c3,J,_⟩:=h.row (by have :=(aO2.1 O).1;omega);obtain⟨_,_,c5,_⟩:=h.node y O;obtain⟨a0,a1,_⟩:=h.eight y O;rw[D]at a0;rw[F]at a1;change w.cell? (g,k*8)=some (.int .i64 (i:Int))at a0;change w.cell? (g,k*8+1)=some (.int .i64 (j:Int))at a1;obtain⟨_,_,cv,fz⟩:=h.cells;have f3:=fz 3;have I:Hid (∀n,Calls prog 257 #[.pointer p,i] (w.drewN n) λe Q=>e= .returned (.bool (TT.leaf i f c).st.few)/\w.drewN n=Q):=λn=>
  cV (T:=TT.leaf i f c) (h.drewN n) (G.keep (w':=w.drewN n) (λ_ _=>rfl) (λ_ _=>rfl))
 have a2:Hid (∀n,Calls prog 257 #[.pointer p,j] (w.drewN n) λe Q=>e= .returned (.bool (TT.leaf j l d).st.few)/\w.drewN n=Q):=λn=>
  cV (T:=TT.leaf j l d) (h.drewN n) (H.keep (w':=w.drewN n) (λ_ _=>rfl) (λ_ _=>rfl))
 have h1:∀n,Head ((w.drewN n).setCell (p,3) (a+2:Int)) p C A m r (a+2):=λn=>(h.drewN n).set3 _;have S:∀n,Chg C w ((w.drewN n).setCell (p,3) (a+2:Int)):=λn=>(Chg.refl.drewN n).setCell _ (Ei h.self) _;have a3:Hid (∀n,Sub ((w.drewN n).setCell (p,3) (a+2:Int)) m (TT.leaf i f c)):=λn=>G.chgC h (S n) (λ_ _=>rfl);have a8:Hid (∀n,Sub ((w.drewN n).setCell (p,3) (a+2:Int)) m (TT.leaf j l d)):=λn=>H.chgC h (S n) (λ_ _=>rfl);have b9:Hid (∀n,((w.drewN n).setCell (p,3) (a+2:Int)).cell? (p,1)=some (.slice g m.length rc)):=λn=>by
  have :=y;go_simp
 have H1:=θ h1;have Z:=θ S;have HO:=θ V;have a4:=θ t;have R:Hid (m[k]? =some x/\x.left=i/\x.right=j/\x.b=none):=⟨O,D,F,P⟩;obtain⟨_,_,b5,_⟩:=h.node y G.root;obtain⟨_,_,b6,_⟩:=h.node y H.root;obtain⟨_,_,_,_,_,_,_,b7⟩:=h.eight y G.root;obtain⟨_,_,_,_,_,_,_,d7⟩:=h.eight y H.root;change w.cell? (g,i*8+7)=some (.pointer f)at b7;change w.cell? (g,j*8+7)=some (.pointer l)at d7;change i<m.length at b5;change j<m.length at b6;have M:f≠l:=by have :=V.bn;simp[TT.bl]at this;exact this
 have B:k≠i/\k≠j/\i≠j:=by have :=V.nn;simp[TT.nums]at this;exact⟨this.1.1,this.1.2,this.2⟩
 have a7:=θ B;have L:cX (TT.pair k (.leaf i f c) (.leaf j l d)).st=lev c d:=by
  simp only[TT.st,cX];rw[bc9 (by rintro⟨e1,z⟩;rcases K with K | ⟨_,K⟩<;>simp only[TT.st]at K<;>simp_all)]
 have a6:=θ L;have c6:=h.lt p h.self;have c4:=h.lt g J;have b0:Hid (m[i]? =some (TT.leaf i f c).nd):=G.root;have b3:Hid (m[j]? =some (TT.leaf j l d).nd):=H.root;have a5:Hid (∀n,Calls prog 258 #[.pointer p,i,j] ((w.drewN n).setCell (p,3) (a+2:Int)) _):=
  λn=>vJ (h1 n) (a3.o n) (a8.o n) B.2.2 M E
 clear h t V O D F P G H fz h1 S B L J M;rcases K with q | ⟨q,N⟩
 case' inl=>
  have v:=θ q;clear q;go_in;go_wp2;go_quiet (fail);obtain⟨u,rfl⟩:=Ez nq;go_wp2_with fail;refine Cq (I.o u) ?_;rw[v.o];go_wp2_with fail
 case' inr=>
  have v:=θ q;have a9:=θ N;clear q N;go_in;go_wp2;go_quiet (fail);obtain⟨u,rfl⟩:=Ez nq;go_wp2_with fail;refine Cq (I.o u) ?_;rw[v.o];go_wp2_with fail;refine Cq (a2.o u) ?_;rw[a9.o];go_wp2_with fail
 all_goals
  refine(a5.o u).mono ?_;rintro e w2 ⟨rfl,q1,q2,W,X,Y,h2,b1,b2,g2⟩;have H2:=θ h2;have B1:=θ b1;have B2:=θ b2;have G2:=θ g2;have U:Hid (w<=q1/\w<=q2/\q1≠q2):=⟨aV4 (Z.out u).size W,aV4 (Z.out u).size X,Y⟩;clear h2 b1 b2 g2 W X Y;go_wp2;go_ret;obtain⟨m1,m2,m3⟩:=a7.o;obtain⟨W,X,Y⟩:=U.out;have tk:=HO.o.tk;have b4:Chg (λb=>C b\/b∈(TT.pair k (.leaf i f c) (.leaf j l d)).bl) w w2:=((Z.out u).trans G2.out (λb s=>Ei s)).mono (λb s=>Ei s);have c2:=H2.o;refine⟨.pair k (.leaf i q1 ((c++d).take ((c.length+d.length)/2))) (.leaf j q2 ((c++d).drop ((c.length+d.length)/2))),C,A,_,_,rfl,H2.o,⟨⟨by simp[TT.nums,m1,m2,m3],by simp[TT.bl,Y],λb s=>tk b (by simpa[TT.nums]using s)⟩,?_,λb s=>Ei s,λb s=>?_,λb e1 z=>?_,?_,rfl,b4⟩,?_,E,E,⟨x,?_,R.o.2.1,R.o.2.2.1,R.o.2.2.2,⟨?_,B1.out⟩,⟨?_,B2.out⟩⟩,rfl⟩
  ·rw[aQ0,aQ0];exact a4.o
  ·simp[TT.bl]at s;rcases s with rfl | rfl
   ·exact Ej W
   ·exact Ej X
  ·simp only[TT.nums,aR1,aR0,aS5,bd7,bd5]at z;refine⟨by rw[aH z.2.2,aH z.2.1],e1,by simp[TT.nums,z.1,z.2.1,z.2.2]⟩
  ·simp only[TT.st,ST.size]
  ·rw[a6.o];simp only[TT.st,lev];rw[bc9 b8]
  ·rw[aH m2,aH m1];exact R.o.1
  ·rw[aH m3];exact aY b0.o
  ·exact aY (x:=(TT.leaf j l d).nd) (by rw[aH m3.symm];exact b3.o)
theorem Qt{w:World}{p:Nat}{C:Nat->Prop}{A:Ar}{q:List Nd}{t a:Int}(h:Head w p C A q t a)(L:q.length=A.T.length)(g5:0<=a)(hv:a<=100000000000){k i l r m s:Nat}{f d:List Bool}{c:TT}(hS:rQ w q (.pair k (.leaf i l f) (.pair r (.leaf m s d) c)))(hO:Own A (.pair k (.leaf i l f) (.pair r (.leaf m s d) c)))(hf:(TT.leaf i l f).st.few=true)(b0:Small (TT.pair r (.leaf m s d) c).st)(a8:f.length+d.length<=128):Calls prog 246 #[.pointer p,k] w λe y=>iO w y p C A q t a (.pair k (.leaf i l f) (.pair r (.leaf m s d) c)) e:=by
 obtain⟨x,hx,S,U,b1,hl,R⟩:=hS;obtain⟨g,rc,f0,H,f6,a6,_⟩:=h.row (by have :=(aO2.1 hx).1;omega);obtain⟨_,_,f8,_⟩:=h.node H hx;obtain⟨a0,a1,_⟩:=h.eight H hx;rw[S]at a0;rw[U]at a1;change w.cell? (g,k*8)=some (.int .i64 (i:Int))at a0;change w.cell? (g,k*8+1)=some (.int .i64 (r:Int))at a1;obtain⟨_,_,cv,fz⟩:=h.cells;have f3:=fz 3;have b8:Hid (∀n,Calls prog 257 #[.pointer p,i] (w.drewN n) λe y=>e= .returned (.bool (TT.leaf i l f).st.few)/\w.drewN n=y):=λn=>
  cV (T:=TT.leaf i l f) (h.drewN n) (hl.keep (w':=w.drewN n) (λ_ _=>rfl) (λ_ _=>rfl))
 have e7:Hid (∀n,Calls prog 257 #[.pointer p,r] (w.drewN n) λe y=>e= .returned (.bool (TT.pair r (TT.leaf m s d) c).st.few)/\w.drewN n=y):=λn=>
  cV (T:=TT.pair r (TT.leaf m s d) c) (h.drewN n) (R.keep (w':=w.drewN n) (λ_ _=>rfl) (λ_ _=>rfl))
 have h1:∀n,Head ((w.drewN n).setCell (p,3) (a+2:Int)) p C A q t (a+2):=λn=>(h.drewN n).set3 _;have g1:∀n,Chg C w ((w.drewN n).setCell (p,3) (a+2:Int)):=λn=>(Chg.refl.drewN n).setCell _ (Ei h.self) _;have a2:Hid (∀n,Sub ((w.drewN n).setCell (p,3) (a+2:Int)) q (TT.leaf i l f)):=λn=>hl.chgC h (g1 n) (λ_ _=>rfl);have M:Hid (∀n,Sub ((w.drewN n).setCell (p,3) (a+2:Int)) q (TT.pair r (TT.leaf m s d) c)):=λn=>R.chgC h (g1 n) (λ_ _=>rfl);have e6:Hid (∀n,((w.drewN n).setCell (p,3) (a+2:Int)).cell? (p,1)=some (.slice g q.length rc)):=λn=>by
  have :=H;go_simp
 have H1:=θ h1;have G1:=θ g1;have HO:=θ hO;have c4:=θ L;have HX:Hid (q[k]? =some x/\x.left=i/\x.right=r/\x.b=none):=⟨hx,S,U,b1⟩;obtain⟨_,_,d4,_⟩:=h.node H hl.root;obtain⟨_,_,d5,_⟩:=h.node H R.root;obtain⟨_,_,_,_,_,_,_,b7⟩:=h.eight H hl.root;obtain⟨d0,d1,_,_,_,_,_,d7⟩:=h.eight H R.root;change w.cell? (g,i*8+7)=some (.pointer l)at b7;change w.cell? (g,r*8)=some (.int .i64 (m:Int))at d0;change w.cell? (g,r*8+1)=some (.int .i64 (c.num:Int))at d1;change w.cell? (g,r*8+7)=some (.pointer none)at d7;change i<q.length at d4;change r<q.length at d5;have hD:k≠i/\k≠r/\k≠m/\k∉c.nums/\i≠r/\i≠m/\i∉c.nums/\r≠m/\r∉c.nums/\m∉c.nums/\c.nums.Nodup:=by
  obtain⟨I,u,_,e4,e5⟩:=TT.dis hO.nn;obtain⟨f1,f2,_,f4,f5⟩:=TT.dis e4;have D:=e5 i (by simp[TT.nums]);have d3:=f5 m (by simp[TT.nums]);simp only[TT.nums,aR1,aR0,aS5,bd7,bd5]at I u D f1;exact⟨I,u.1,u.2.1,u.2.2,D.1,D.2.1,D.2.2,f1,f2,d3,f4⟩
 have hB:l≠s/\l∉c.bl/\s∉c.bl/\c.bl.Nodup:=by
  have :=hO.bn;simp only[TT.bl,aS1,aS2,aS5,bd4,aS3,and_self,true_and,aR1,bd7,aR0,forall_eq]at this;refine⟨λe=>this.2 s (Ei rfl) e,λe=>this.2 l (Ej e) rfl,λe=>this.1.2 s e rfl,this.1.1⟩
 have HD:=θ hD;have B:=θ hB;have a9:cX (TT.pair k (.leaf i l f) (.pair r (.leaf m s d) c)).st=(if f.length+d.length<=128 then .pair (.leaf (f++d)) c.st else .pair (.leaf ((f++d).take ((f.length+d.length)/2))) (.pair (.leaf ((f++d).drop ((f.length+d.length)/2))) c.st)):=by
  simp only[TT.st,cX];rw[bc9 (by rintro⟨I,u⟩;simp only[TT.st]at hf;rw[hf]at I;cases I)]
 have c6:=θ a9;have g0:=h.lt p h.self;have f7:=h.lt g a6;have c9:Hid (q[i]? =some (TT.leaf i l f).nd):=hl.root;have d2:Hid (q[r]? =some (TT.pair r (.leaf m s d) c).nd):=R.1;have e9:Hid (q[m]? =some (TT.leaf m s d).nd):=R.2.1.1;have b9:Hid (∀n,Calls prog 257 #[.pointer p,i] ((w.drewN n).setCell (p,3) (a+2:Int)) λe y=>e= .returned (.bool true)/\(w.drewN n).setCell (p,3) (a+2:Int)=y):=λn=>by
  have :=cV (T:=TT.leaf i l f) (h1 n) (a2.o n);rw[hf]at this;exact this
 have e8:=θ b0;have c2:=θ hf;have c5:Hid (∀n,Calls prog 258 #[.pointer p,i,m] ((w.drewN n).setCell (p,3) (a+2:Int)) λe y=>e= .returned (.bool false)/\Head y p C A (q.set i (TT.leaf i l (f++d)).nd) t (a+2)/\IsBlock y l (f++d)/\Chg (λb=>C b\/b=l\/b=s) ((w.drewN n).setCell (p,3) (a+2:Int)) y):=
  λn=>yC (h1 n) (a2.o n) (M.o n).2.1 hB.1 a8
 clear h L hO hx S U b1 hl R fz h1 g1 hD a9 a6 hB hf b0;go_in;go_wp2;go_quiet (fail);obtain⟨V,rfl⟩:=Ez nq;go_wp2_with fail;refine Cq (b8.o V) ?_;rw[c2.o];go_wp2_with fail;refine Cq (b9.o V) ?_;go_wp2_with fail;refine(c5.o V).mono ?_;rintro e w2 ⟨rfl,F,q2,g2⟩;obtain⟨t1,t2,t3,t4,t5,t6,t7,t8,t9,W,X⟩:=HD.o;have a4:Chg (λb=>C b\/b∈(TT.pair k (.leaf i l f) (.pair r (.leaf m s d) c)).bl) w w2:=((G1.out V).mono (λb j=>Ei j)).trans g2 (λb j=>Ei (j.imp id (λh=>by rcases h with rfl | rfl<;>simp[TT.bl])));have Z:(q.set i (TT.leaf i l (f++d)).nd)[r]? =some (TT.pair r (.leaf m s d) c).nd:=by rw[aH t5.symm];exact d2.o
 have z:(q.set i (TT.leaf i l (f++d)).nd)[k]? =some x:=by rw[aH t1];exact HX.o.1
 have b5:(q.set i (TT.leaf i l (f++d)).nd)[i]? =some (TT.leaf i l (f++d)).nd:=aY c9.o;have b2:∀b:Nat,b≠i->(q.set i (TT.leaf i l (f++d)).nd)[b]? =q[b]? :=λb j=>aH j;have b3:(q.set i (TT.leaf i l (f++d)).nd).length=A.T.length:=by rw[aQ0];exact c4.o
 have b4:Sub w2 (q.set i (TT.leaf i l (f++d)).nd) c:=(M.o V).2.2.chg g2 (λb j e=>by
  rcases e with e | rfl | rfl
  ·exact(H1.o V).notBlk ((M.o V).2.2.type j) e
  ·exact B.o.2.1 j
  ·exact B.o.2.2.1 j) (bK t7)
 generalize q.set i (TT.leaf i l (f++d)).nd=xs2 at *;obtain⟨g3,d6,d8,r3,d9,_⟩:=F.row (by have :=(aO2.1 z).1;omega);obtain⟨_,a3,e0,_⟩:=F.node r3 z;obtain⟨_,_,e3,_⟩:=F.node r3 Z;obtain⟨_,I,_⟩:=F.eight r3 z;obtain⟨_,l1,_⟩:=F.eight r3 Z;change w2.cell? (g3,r*8+1)=some (.int .i64 (c.num:Int))at l1;have z1:=a3 (k*8+1);obtain⟨nc,Q⟩:=Ey c.num;rw[Q]at l1;have f9:¬(r*8+1=k*8+1):=E;obtain⟨h3,c3,r4⟩:=F.put r3 z (i:=1) (v:= .int .i64 nc) (x':=⟨x.left,nc,x.height,x.n,x.ones,x.ln,x.lones,x.b⟩) E rfl;have N:Chg C w2 _:=(c3.mono (λb e=>by subst e;exact F.rowC ⟨_,_,r3⟩)).drew;have Y:=HO.o.tk;obtain⟨W3,G⟩:∃W3,W3=(w2.setCell (g3,k*8+1) nc).drew:=⟨_,rfl⟩;rw[<-G]at N;have O:Head W3 p C A (xs2.set k ⟨x.left,nc,x.height,x.n,x.ones,x.ln,x.lones,x.b⟩) t (a+2):=by rw[G];exact h3.drew
 obtain⟨ap,p0,a7⟩:=Nt O (Y m (by simp[TT.nums])) (Y r (by simp[TT.nums])) t8.symm;have c0:=θ a7;have H2:=θ F;have H3:=θ O;have Q2:=θ q2;have b6:=θ a4;have C3:=θ N;have c8:=θ G;have XX:Hid (xs2[k]? =some x/\xs2[i]? =some (TT.leaf i l (f++d)).nd/\(∀b:Nat,b≠i->xs2[b]? =q[b]?)/\xs2.length=A.T.length/\Sub w2 xs2 c):=⟨z,b5,b2,b3,b4⟩;have c7:=θ Q;clear F h3 O q2 a4 g2 c3 N Y t1 t2 t3 t4 t5 t6 t7 t8 t9 W X a7 Z z b5 b2 b3 b4 a3 r4 Q G H a0 a1 d0 d1 d7 b7 cv;go_wp2_with fail;refine aG (λy=>y.cell? (p,1)=some (.slice g3 xs2.length d6)/\y.cell? (g3,r*8+1)=nc) Ek ?hilj (λK=>?_);case hilj=>(refine⟨?_,?_⟩<;>go_simp)
 refine rV 0 1 2 3 K ?_;refine rV 4 5 6 7 K ?_;refine rV 8 9 10 11 K ?_;refine rU 12 13 K ?_;refine rt 14 K ?_;refine rg 15 λκ hK=>?_;go_simp;refine hK.out _ _ ?kplj15 (λJ=>?_);case kplj15=>(refine⟨?_,?_⟩<;>go_simp)
 clear hK κ K;have K:=J;clear J;try simp only[pt]
 refine rz ?_;clear K;rw[<-c8.o];go_wp2_with fail;refine c0.o.mono ?_;rintro e w4 ⟨rfl,C4,h4,s4⟩;have H4:=θ h4;have S4:=θ s4;clear h4 s4;go_wp2;go_ret;obtain⟨t1,t2,t3,t4,t5,t6,t7,t8,t9,W,X⟩:=HD.o;obtain⟨y1,y2,y3,y4,y5⟩:=XX.out;have Y:=HO.o.tk;have a5:=b6.out.trans C3.out (λb j=>Ei (Ei j));have g4:=a5.size;refine⟨.pair k (.leaf i l (f++d)) c,C4,A.fr m r,_,_,rfl,H4.o,⟨⟨?_,?_,λb j=>?_⟩,?_,λb j=>(S4.out.new b j).imp id (λh=>E),λb j=>?_,λb I u=>?_,?_,rfl,a5.trans S4.out.chg (λb j=>Ei (Ei j))⟩,?_,E,E,⟨_,aY y1,HX.o.2.1,by rw[c7.o],HX.o.2.2.2,⟨?_,?_⟩,?_⟩,by simp[Ar.fr]⟩
 ·simp[TT.nums,t1,t4,t7,X]
 ·simp[TT.bl,B.o.2.1,B.o.2.2.2]
 ·have P:b≠m/\b≠r/\b∈(TT.pair k (.leaf i l f) (.pair r (.leaf m s d) c)).nums:=by
   simp only[TT.nums,aR1,aR0,aS5,bd7]at j⊢;rcases j with rfl | rfl | j
   ·exact⟨t3,t2,Ei rfl⟩
   ·exact⟨t6,t5,Ej (Ei rfl)⟩
   ·exact⟨λe=>W (e▸j),λe=>t9 (e▸j),Ej (Ej (Ej (Ej j)))⟩
  rw[Ar.fr_T P.1 P.2.1];exact Y _ P.2.2
 ·rw[aQ0,y4];simp[Ar.fr]
 ·simp only[TT.bl,aR0,aR1,aS5,bd7]at j⊢;rcases j with j | j
  ·exact Ei (Ei j)
  ·exact Ei (Ej (Ej j))
 ·simp only[TT.nums,aR1,aR0,aS5,bd7,bd5]at u;refine⟨by rw[aH u.1,y3 b u.2.1],by rw[Ar.fr_T u.2.2.2.1 u.2.2.1];exact I,by simp only[TT.nums,aR1,aR0,aS5,bd7,bd5];exact⟨u.1,u.2.1,u.2.2.2.2⟩⟩
 ·have :=Ar.fr_live (H3.o.arOk) (Y m (by simp[TT.nums])) (Y r (by simp[TT.nums])) t8.symm;simp only[TT.st,ST.size];omega
 ·rw[c6.o,bd0 a8];rfl
 ·rw[aH t1.symm];exact y2
 ·exact(Q2.out.chg C3.out (H2.o.notBlk Q2.out.type)).chg S4.out.chg (H3.o.notBlk (Q2.out.chg C3.out (H2.o.notBlk Q2.out.type)).type)
 ·exact(y5.chgC H2.o C3.out (bK t4)).chgC H3.o S4.out.chg (λ_ _=>rfl)
theorem Nz{w:World}{p:Nat}{C:Nat->Prop}{A:Ar}{l:List Nd}{D j:Int}(h:Head w p C A l D j)(I:l.length=A.T.length)(e8:0<=j)(hv:j<=100000000000){k i u r m s:Nat}{f d:List Bool}{c:TT}(hS:rQ w l (.pair k (.leaf i u f) (.pair r (.leaf m s d) c)))(hO:Own A (.pair k (.leaf i u f) (.pair r (.leaf m s d) c)))(hf:(TT.leaf i u f).st.few=true)(a4:Small (TT.pair r (.leaf m s d) c).st)(c9:¬f.length+d.length<=128):Calls prog 246 #[.pointer p,k] w λe S=>iO w S p C A l D j (.pair k (.leaf i u f) (.pair r (.leaf m s d) c)) e:=by
 obtain⟨x,hx,N,O,a5,X,M⟩:=hS;obtain⟨g,rc,d9,K,e0,a2,_⟩:=h.row (by have :=(aO2.1 hx).1;omega);obtain⟨_,_,e6,_⟩:=h.node K hx;obtain⟨a0,a1,_⟩:=h.eight K hx;rw[N]at a0;rw[O]at a1;change w.cell? (g,k*8)=some (.int .i64 (i:Int))at a0;change w.cell? (g,k*8+1)=some (.int .i64 (r:Int))at a1;obtain⟨_,_,cv,fz⟩:=h.cells;have f3:=fz 3;have b4:Hid (∀n,Calls prog 257 #[.pointer p,i] (w.drewN n) λe S=>e= .returned (.bool (TT.leaf i u f).st.few)/\w.drewN n=S):=λn=>
  cV (T:=TT.leaf i u f) (h.drewN n) (X.keep (w':=w.drewN n) (λ_ _=>rfl) (λ_ _=>rfl))
 have d8:Hid (∀n,Calls prog 257 #[.pointer p,r] (w.drewN n) λe S=>e= .returned (.bool (TT.pair r (TT.leaf m s d) c).st.few)/\w.drewN n=S):=λn=>
  cV (T:=TT.pair r (TT.leaf m s d) c) (h.drewN n) (M.keep (w':=w.drewN n) (λ_ _=>rfl) (λ_ _=>rfl))
 have h1:∀n,Head ((w.drewN n).setCell (p,3) (j+2:Int)) p C A l D (j+2):=λn=>(h.drewN n).set3 _;have g1:∀n,Chg C w ((w.drewN n).setCell (p,3) (j+2:Int)):=λn=>(Chg.refl.drewN n).setCell _ (Ei h.self) _;have J:Hid (∀n,Sub ((w.drewN n).setCell (p,3) (j+2:Int)) l (TT.leaf i u f)):=λn=>X.chgC h (g1 n) (λ_ _=>rfl);have F:Hid (∀n,Sub ((w.drewN n).setCell (p,3) (j+2:Int)) l (TT.pair r (TT.leaf m s d) c)):=λn=>M.chgC h (g1 n) (λ_ _=>rfl);have d6:Hid (∀n,((w.drewN n).setCell (p,3) (j+2:Int)).cell? (p,1)=some (.slice g l.length rc)):=λn=>by
  have :=K;go_simp
 have H1:=θ h1;have G1:=θ g1;have HO:=θ hO;have b8:=θ I;have HX:Hid (l[k]? =some x/\x.left=i/\x.right=r/\x.b=none):=⟨hx,N,O,a5⟩;obtain⟨_,_,c8,_⟩:=h.node K X.root;obtain⟨_,_,d3,_⟩:=h.node K M.root;obtain⟨_,_,_,_,_,_,_,b7⟩:=h.eight K X.root;obtain⟨d0,d1,_,_,_,_,_,d7⟩:=h.eight K M.root;change w.cell? (g,i*8+7)=some (.pointer u)at b7;change w.cell? (g,r*8)=some (.int .i64 (m:Int))at d0;change w.cell? (g,r*8+1)=some (.int .i64 (c.num:Int))at d1;change w.cell? (g,r*8+7)=some (.pointer none)at d7;change i<l.length at c8;change r<l.length at d3;have hD:k≠i/\k≠r/\k≠m/\k∉c.nums/\i≠r/\i≠m/\i∉c.nums/\r≠m/\r∉c.nums/\m∉c.nums/\c.nums.Nodup:=by
  obtain⟨L,z,_,e4,e5⟩:=TT.dis hO.nn;obtain⟨f1,f2,_,f4,f5⟩:=TT.dis e4;have G:=e5 i (by simp[TT.nums]);have c7:=f5 m (by simp[TT.nums]);simp only[TT.nums,aR1,aR0,aS5,bd7,bd5]at L z G f1;exact⟨L,z.1,z.2.1,z.2.2,G.1,G.2.1,G.2.2,f1,f2,c7,f4⟩
 have hB:u≠s/\u∉c.bl/\s∉c.bl/\c.bl.Nodup:=by
  have :=hO.bn;simp only[TT.bl,aS1,aS2,aS5,bd4,aS3,and_self,true_and,aR1,bd7,aR0,forall_eq]at this;refine⟨λe=>this.2 s (Ei rfl) e,λe=>this.2 u (Ej e) rfl,λe=>this.1.2 s e rfl,this.1.1⟩
 have HD:=θ hD;have b3:=θ hB;have v:cX (TT.pair k (.leaf i u f) (.pair r (.leaf m s d) c)).st=(if f.length+d.length<=128 then .pair (.leaf (f++d)) c.st else .pair (.leaf ((f++d).take ((f.length+d.length)/2))) (.pair (.leaf ((f++d).drop ((f.length+d.length)/2))) c.st)):=by
  simp only[TT.st,cX];rw[bc9 (by rintro⟨L,z⟩;simp only[TT.st]at hf;rw[hf]at L;cases L)]
 have c0:=θ v;have e7:=h.lt p h.self;have e3:=h.lt g a2;have c3:Hid (l[i]? =some (TT.leaf i u f).nd):=X.root;have c5:Hid (l[r]? =some (TT.pair r (.leaf m s d) c).nd):=M.1;have c4:Hid (l[m]? =some (TT.leaf m s d).nd):=M.2.1.1;have b5:Hid (∀n,Calls prog 257 #[.pointer p,i] ((w.drewN n).setCell (p,3) (j+2:Int)) λe S=>e= .returned (.bool true)/\(w.drewN n).setCell (p,3) (j+2:Int)=S):=λn=>by
  have :=cV (T:=TT.leaf i u f) (h1 n) (J.o n);rw[hf]at this;exact this
 have c2:=θ a4;have b6:=θ hf;have b9:Hid (∀n,Calls prog 258 #[.pointer p,i,m] ((w.drewN n).setCell (p,3) (j+2:Int)) _):=
  λn=>vJ (h1 n) (J.o n) (F.o n).2.1 hD.2.2.2.2.2.1 hB.1 E
 clear h I hO hx N O a5 X M fz h1 g1 hD v a2 hB hf a4;go_in;go_wp2;go_quiet (fail);obtain⟨B,rfl⟩:=Ez nq;go_wp2_with fail;refine Cq (b4.o B) ?_;rw[b6.o];go_wp2_with fail;refine Cq (b5.o B) ?_;go_wp2_with fail;refine(b9.o B).mono ?_;rintro e w2 ⟨rfl,y,t,u1,u2,u3,h2,b1,b2,g2⟩;obtain⟨t1,t2,t3,t4,t5,t6,t7,t8,t9,H,R⟩:=HD.o;have d2:((f++d).take ((f.length+d.length)/2)).length+((f++d).drop ((f.length+d.length)/2)).length=f.length+d.length:=by simp;omega
 have d4:f.length<=128/\d.length<=128:=⟨(J.o B).2.1,(F.o B).2.1.2.1⟩;have v:=c0.o;rw[bc9 c9]at v;have Y:=θ v;generalize (f++d).take ((f.length+d.length)/2)=lo at *;generalize (f++d).drop ((f.length+d.length)/2)=hi at *;have U:Hid (w<=y/\w<=t/\y≠t):=⟨aV4 (G1.out B).size u1,aV4 (G1.out B).size u2,u3⟩;have Z:Chg C w w2:=(G1.out B).trans g2 (λb q=>Ei q);have W:((l.set i (TT.leaf i y lo).nd).set m (TT.leaf m t hi).nd)[r]? =some (TT.pair r (.leaf m s d) c).nd:=by rw[aH t8,aH t5.symm];exact c5.o
 have a8:((l.set i (TT.leaf i y lo).nd).set m (TT.leaf m t hi).nd)[k]? =some x:=by rw[aH t3,aH t1];exact HX.o.1
 have a7:((l.set i (TT.leaf i y lo).nd).set m (TT.leaf m t hi).nd)[i]? =some (TT.leaf i y lo).nd:=by rw[aH t6];exact aY c3.o
 have V:((l.set i (TT.leaf i y lo).nd).set m (TT.leaf m t hi).nd)[m]? =some (TT.leaf m t hi).nd:=aY (x:=(TT.leaf m s d).nd) (by rw[aH t6.symm];exact c4.o);have P:∀b:Nat,b≠i->b≠m->((l.set i (TT.leaf i y lo).nd).set m (TT.leaf m t hi).nd)[b]? =l[b]? :=λb q hc=>by rw[aH hc,aH q]
 have a6:((l.set i (TT.leaf i y lo).nd).set m (TT.leaf m t hi).nd).length=A.T.length:=by rw[aQ0,aQ0];exact b8.o
 have Q:Sub w2 ((l.set i (TT.leaf i y lo).nd).set m (TT.leaf m t hi).nd) c:=(F.o B).2.2.chgC (H1.o B) g2 (λb q=>P b (by rintro rfl;exact t7 q) (by rintro rfl;exact H q));generalize (l.set i (TT.leaf i y lo).nd).set m (TT.leaf m t hi).nd=xs2 at *;have a3:=c2.o.r;have HF:=θ (kY (a:= .leaf m t hi) (b:=c) h2 W rfl rfl rfl ⟨V,b2⟩ Q ⟨by simp only[TT.st,ST.bits];omega,by simp[TT.st,ST.high]⟩ a3);have H2:=θ h2;have B1:=θ b1;have B2:=θ b2;have b0:=θ Z;have XX:Hid (xs2[k]? =some x/\xs2[i]? =some (TT.leaf i y lo).nd/\xs2[m]? =some (TT.leaf m t hi).nd/\xs2[r]? =some (TT.pair r (.leaf m s d) c).nd/\(∀b:Nat,b≠i->b≠m->xs2[b]? =l[b]?)/\xs2.length=A.T.length/\Sub w2 xs2 c):=⟨a8,a7,V,W,P,a6,Q⟩;clear h2 b1 b2 g2 Z u1 u2 u3 t1 t2 t3 t4 t5 t6 t7 t8 t9 H R W a8 a7 V P a6 Q v d2 a3 d4;go_wp2_with fail;refine HF.o.mono ?_;rintro e w3 ⟨rfl,h3,g3⟩;have H3:=θ h3;have G3:=θ (H2.o.chgRow g3);clear h3 g3;go_wp2;go_ret;obtain⟨t1,t2,t3,t4,t5,t6,t7,t8,t9,H,R⟩:=HD.o;obtain⟨u1,u2,u3⟩:=U.out;obtain⟨y1,y2,d5,a9,y3,y4,y5⟩:=XX.out;have tk:=HO.o.tk;have cb:∀b∈c.bl,b<w:=λb q=>by
  have :=((F.o B).2.2.type q).lt;simpa[World.setCell]using this
 refine⟨.pair k (.leaf i y lo) (.pair r (.leaf m t hi) c),C,A,_,_,rfl,H3.o,⟨⟨?_,?_,λb q=>tk b (by simpa[TT.nums]using q)⟩,?_,λb q=>Ei q,λb q=>?_,λb L z=>?_,?_,rfl,(b0.out.trans G3.out (λb q=>Ei q)).mono (λb q=>Ei q)⟩,?_,E,E,⟨x,?_,HX.o.2.1,HX.o.2.2.1,HX.o.2.2.2,⟨?_,?_⟩,?_,⟨?_,?_⟩,?_⟩,rfl⟩
 ·simp[TT.nums,t1,t2,t3,t4,t5,t6,t7,t8,t9,H,R]
 ·simp[TT.bl,b3.o.2.2.2,u3];exact⟨λh=>by have :=cb _ h;omega,λh=>by have :=cb _ h;omega⟩
 ·rw[aQ0,y4]
 ·simp only[TT.bl,aR0,aR1,aS5,bd7]at q⊢;rcases q with rfl | rfl | q
  ·exact Ej u1
  ·exact Ej u2
  ·exact Ei (Ej (Ej q))
 ·have c6:=z;simp only[TT.nums,aR1,aR0,aS5,bd7,bd5]at z;refine⟨by rw[aH z.2.2.1,y3 b z.2.1 z.2.2.2.1],L,by simpa[TT.nums]using c6⟩
 ·simp only[TT.st,ST.size]
 ·exact Y.o.symm
 ·rw[aH t2];exact y1
 ·rw[aH t5];exact y2
 ·exact B1.out.chg G3.out (H2.o.notBlk B1.out.type)
 ·exact aY a9
 ·rw[aH t8.symm];exact d5
 ·exact B2.out.chg G3.out (H2.o.notBlk B2.out.type)
 ·exact y5.chgC H2.o G3.out (bK t9)
end
end Go.Proofs.YtchinbgemenenaaGreatDoor
