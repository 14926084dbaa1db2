/- Lemmas and contracts under the claims of this seat. No condition. -/
import Derived.Test.YtchinbgemenenaaGreatDoorZs3
namespace Go.Proofs.YtchinbgemenenaaGreatDoor
open Go.Proofs.Tryz
set_option linter.unusedVariables false
set_option linter.unusedSimpArgs false
set_option maxRecDepth 100000
set_option maxHeartbeats 12800000
section
open Go.RowKit
theorem aY{b:Type}{a:List b}{k:Nat}{x y:b}(h:a[k]? =some x):(a.set k y)[k]? =some y:=by
 rw[aO5,bd0 rfl,bd0 (aO2.1 h).1]
theorem aH{b:Type}{a:List b}{k j:Nat}{y:b}(h:j≠k):(a.set k y)[j]? =a[j]? :=by
 rw[aO5,bc9 (λe=>h e.symm)]
theorem bK{a:List Nd}{k:Nat}{y:Nd}{T:TT}(c:k∉T.nums):∀j∈T.nums,(a.set k y)[j]? =a[j]? :=λj b=>aH (by rintro rfl;exact c b)
def Small(t:ST):Prop:=t.bits.length<=8589934592/\t.high<=1000000000
theorem Small.l {a b:ST}(h:Small (.pair a b)):Small a:=by
 obtain⟨c,d⟩:=h;simp only[ST.bits,ST.high,aP3]at c d;exact⟨E,E⟩
theorem Small.r {a b:ST}(h:Small (.pair a b)):Small b:=by
 obtain⟨c,d⟩:=h;simp only[ST.bits,ST.high,aP3]at c d;exact⟨E,E⟩
theorem kY{w:World}{p:Nat}{C:Nat->Prop}{A:Ar}{f:List Nd}{c d:Int}(h:Head w p C A f c d){k:Nat}{x:Nd}{a b:TT}(r:f[k]? =some x)(n:x.b=none)(o:x.left=a.num)(q:x.right=b.num)(m:Sub w f a)(g:Sub w f b)(s:Small a.st)(t:Small b.st):Calls prog 245 #[.pointer p,k] w λe i=>e= .returned (.tuple #[])/\Head i p C A (f.set k (TT.pair k a b).nd) c d/\Chg (RowB w p) w i:=by
 have u:=count_le a.st.bits true;have v:=count_le b.st.bits true;obtain⟨B,y⟩:=s;obtain⟨D,z⟩:=t;refine(ag4 h r n o q m.root g.root ?_ ?_ ?_ ?_ ?_ ?_).mono ?_
 ·rw[a.nd_high];omega
 ·rw[b.nd_high];omega
 ·rw[a.nd_n];omega
 ·rw[b.nd_n];omega
 ·rw[a.nd_ones];omega
 ·rw[b.nd_ones];omega
 ·rintro e i ⟨rfl,j,l⟩;refine⟨rfl,?_,l⟩;rw[a.nd_high,b.nd_high,a.nd_n,b.nd_n,a.nd_ones,b.nd_ones]at j;have e:(TT.pair k a b).nd=⟨a.num,b.num,max (a.st.high:Int) b.st.high+1,a.st.bits.length+b.st.bits.length,a.st.bits.count true+b.st.bits.count true,a.st.bits.length,a.st.bits.count true,none⟩:=by
   simp only[TT.nd,ST.high];congr 1;omega
  rw[e];exact j
theorem fL{w:World}{p:Nat}{C:Nat->Prop}{A:Ar}{f:List Nd}{a v:Int}(h:Head w p C A f a v)(m:0<=v)(s:v<=1000000000000){k:Nat}{x:Nd}(b:f[k]? =some x):Calls prog 259 #[.pointer p,k] w λe n=>e= .returned x.height/\w.setCell (p,3) (v+1:Int)=n:=by
 obtain⟨g,rc,i,c,j,_⟩:=h.row (by have :=(aO2.1 b).1;omega);obtain⟨_,_,l,_⟩:=h.node c b;obtain⟨_,_,o,_⟩:=h.eight c b;obtain⟨_,_,q,d⟩:=h.cells;have r:=d 3;clear h d b;go_in;go_wp2;go_ret;exact Er
theorem vK{w:World}{p:Nat}{C:Nat->Prop}{A:Ar}{q:List Nd}{D a2:Int}(h:Head w p C A q D a2){k l:Nat}{x y:Nd}{a b c:TT}(hx:q[k]? =some x)(a8:x.b=none)(a9:x.left=l)(b0:x.right=c.num)(hy:q[l]? =some y)(b4:y.b=none)(b5:y.left=a.num)(a1:y.right=b.num)(ha:Sub w q a)(d:Sub w q b)(hc:Sub w q c)(I:k≠l)(ka:k∉a.nums)(kb:k∉b.nums)(kc:k∉c.nums)(la:l∉a.nums)(lb:l∉b.nums)(lc:l∉c.nums)(s1:Small a.st)(s2:Small (.pair b.st c.st)):Calls prog 261 #[.pointer (some ⟨p,0,none⟩), .int .i64 k] w λe w'=>e= .returned (.int .i64 l)/\∃K,Head w' p C A K D a2/\Chg (RowB w p) w w'/\Sub w' K (.pair l a (.pair k b c))/\(∀j,j≠k->j≠l->K[j]? =q[j]?)/\K.length=q.length:=by
 obtain⟨m,hm⟩:∃m,b.num=m:=⟨_,rfl⟩;rw[hm]at a1;obtain⟨g,rc,d6,L,d7,_⟩:=h.row (by have :=(aO2.1 hx).1;omega);obtain⟨_,fz,d8,_⟩:=h.node L hx;obtain⟨_,_,d9,_⟩:=h.node L hy;obtain⟨a0,_⟩:=h.eight L hx;obtain⟨_,b1,_⟩:=h.eight L hy;have f0:=fz (k*8);have f1:=fz (l*8+1);rw[a9]at a0;rw[a1]at b1;obtain⟨R,g1,r1⟩:=h.put L hx (i:=0) (v:= .int .i64 m) (x':=⟨m,x.right,x.height,x.n,x.ones,x.ln,x.lones,x.b⟩) E rfl;have Y:(q.set k ⟨m,x.right,x.height,x.n,x.ones,x.ln,x.lones,x.b⟩)[l]? =some y:=by rw[aH I.symm];exact hy
 obtain⟨M,g2,r2⟩:=R.put r1 Y (i:=1) (v:= .int .i64 k) (x':=⟨y.left,k,y.height,y.n,y.ones,y.ln,y.lones,y.b⟩) E rfl;generalize t:(q.set k ⟨m,x.right,x.height,x.n,x.ones,x.ln,x.lones,x.b⟩).set l ⟨y.left,k,y.height,y.n,y.ones,y.ln,y.lones,y.b⟩=xs1 at M;have X:xs1[k]? =some ⟨m,x.right,x.height,x.n,x.ones,x.ln,x.lones,x.b⟩:=by rw[<-t,aH I];exact aY hx
 have b2:xs1[l]? =some ⟨y.left,k,y.height,y.n,y.ones,y.ln,y.lones,y.b⟩:=by rw[<-t];exact aY Y
 have f:∀j,j≠k->j≠l->xs1[j]? =q[j]? :=λj R M=>by rw[<-t,aH M,aH R]
 have O:xs1.length=q.length:=by rw[<-t];simp
 obtain⟨F,H⟩:∃F,F=((w.setCell ⟨g,k*8,none⟩ (.int .i64 m)).setCell ⟨g,l*8+1,none⟩ (.int .i64 k)).drew:=⟨_,rfl⟩;have S:Head F p C A xs1 D a2:=by rw[H];exact M.drew
 have a7:Chg (λb=>b=g) w F:=by rw[H];exact(g1.trans g2 (λ_ h=>Ei h)).drew
 have z:Chg (RowB w p) w F:=a7.mono (λb e=>by subst e;exact⟨_,_,L⟩);have W:=h.chgRow z;have u:∀J,Chg (RowB F p) F J->Chg (RowB w p) w J:=λJ hc=>z.trans hc (λb d=>Ei (by obtain⟨n,c,d⟩:=d;exact⟨n,c,(h.rowKeep z 1).symm.trans d⟩));have b7:=θ u;have c8:Hid (∀b,RowB F p b->RowB w p b):=λb d=>by obtain⟨n,c,d⟩:=d;exact⟨n,c,(h.rowKeep z 1).symm.trans d⟩
 have mk:∀(T:TT),Sub w q T->k∉T.nums->l∉T.nums->Sub F xs1 T:=
  λT hT e1 e2=>hT.chgC h W (λj N=>f j (by rintro rfl;exact e1 N) (by rintro rfl;exact e2 N))
 have a6:=mk a ha ka la;have U:=mk b d kb lb;have V:=mk c hc kc lc;have b9:=θ (kY S X a8 (by rw[hm]) b0 U V s2.l s2.r);have s:=θ S;have d5:=θ W;have HA:=θ a6;have HB:=θ U;have HC:=θ V;have d1:=θ X;have d2:=θ b2;have c6:=θ f;have c9:=θ O;have d0:=θ H;have a5:Hid (y.b=none/\y.left=a.num):=⟨b4,b5⟩;have HN:Hid (k≠l/\k∉a.nums/\k∉b.nums/\k∉c.nums/\l∉a.nums/\l∉b.nums/\l∉c.nums):=⟨I,ka,kb,kc,la,lb,lc⟩;clear h fz hx hy a8 a9 b0 b4 b5 a1 ha d hc I ka kb kc la lb lc R g1 r1 Y M S g2 r2 t X b2 W a7 z u f O mk a6 U V hm H;go_enter func261,ntmps261;go_wp2_with fail;refine aG (λw'=>w'.cell? ⟨p,1,none⟩=some (.slice (some ⟨g,0,none⟩) q.length rc)) Ek (L) (λB=>?_);refine rV 0 1 2 3 B ?_;refine rV 4 5 6 7 B ?_;refine rV 8 9 10 11 B ?_;refine rV 12 13 14 15 B ?_;refine rU 16 18 B ?_;refine rg 17 λκ hK=>?_;go_simp;refine hK.out _ _ (L) ?_;intro B;try simp only[pt]
 refine rU 19 20 B ?_;refine rg 21 λκ hK=>?_;go_simp;refine hK.out _ _ (by go_simp) ?_;intro B;try simp only[pt]
 refine rU 22 23 B ?_;refine rg 24 λκ hK=>?_;go_simp;refine hK.out _ _ (by go_simp) ?_;intro B;try simp only[pt]
 refine rz ?_;go_wp2_with fail;rw[<-d0.o];refine b9.o.mono ?_;rintro e J ⟨rfl,h3,G⟩;have g3:=s.o.chgRow G;obtain⟨n1,n2,n3,n4,n5,n6,n7⟩:=HN.o;have Z:(xs1.set k (TT.pair k b c).nd)[l]? =some ⟨y.left,k,y.height,y.n,y.ones,y.ln,y.lones,y.b⟩:=by rw[aH n1.symm];exact d2.o
 have a3:Sub J (xs1.set k (TT.pair k b c).nd) a:=HA.o.chgC s.o g3 (bK n2);have b3:Sub J (xs1.set k (TT.pair k b c).nd) b:=HB.o.chgC s.o g3 (bK n3);have c3:Sub J (xs1.set k (TT.pair k b c).nd) c:=HC.o.chgC s.o g3 (bK n4);have d3:Sub J (xs1.set k (TT.pair k b c).nd) (.pair k b c):=⟨aY d1.o,b3,c3⟩;have c0:=θ (kY (b:= .pair k b c) h3 Z a5.o.1 a5.o.2 rfl a3 d3 s1 s2);have b6:=θ a3;have b8:=θ d3;have P:=θ h3;have c2:=θ (b7.o _ G);have c7:Hid (∀b,RowB J p b->RowB w p b):=λb d=>by obtain⟨n,c,d⟩:=d;exact(c8.o b ⟨n,c,(s.o.rowKeep G 1).symm.trans d⟩)
 have d4:=θ Z;clear Z a3 b3 c3 d3 h3 g3 G n1 n2 n3 n4 n5 n6 n7 B;go_wp2_with fail;refine c0.o.mono ?_;rintro e w3 ⟨rfl,h4,Q⟩;have g4:=P.o.chgRow Q;have c5:=θ h4;have a4:=θ g4;have c4:=θ (c2.o.trans Q (λb d=>Ei (c7.o b d)));clear h4 g4 Q;go_wp2_with fail;go_ret;obtain⟨n1,n2,n3,n4,n5,n6,n7⟩:=HN.o;refine⟨rfl,_,c5.o,c4.o,⟨aY d4.o,?_,?_⟩,λj R M=>?_,?_⟩
 ·exact b6.o.chgC P.o a4.o (bK n5)
 ·refine b8.o.chgC P.o a4.o (bK ?_);simp only[TT.nums,aR1,aR0];rintro(N | N | N)
  ·exact n1 N.symm
  ·exact n6 N
  ·exact n7 N
 ·rw[aH M,aH R];exact c6.o j R M
 ·simpa using c9.o
theorem yF{w:World}{p:Nat}{C:Nat->Prop}{A:Ar}{q:List Nd}{D a2:Int}(h:Head w p C A q D a2){k l:Nat}{x y:Nd}{a b c:TT}(hx:q[k]? =some x)(a8:x.b=none)(a9:x.left=a.num)(b0:x.right=l)(hy:q[l]? =some y)(b4:y.b=none)(a1:y.left=b.num)(b5:y.right=c.num)(ha:Sub w q a)(d:Sub w q b)(hc:Sub w q c)(I:k≠l)(ka:k∉a.nums)(kb:k∉b.nums)(kc:k∉c.nums)(la:l∉a.nums)(lb:l∉b.nums)(lc:l∉c.nums)(s1:Small (.pair a.st b.st))(s2:Small c.st):Calls prog 260 #[.pointer (some ⟨p,0,none⟩), .int .i64 k] w λe w'=>e= .returned (.int .i64 l)/\∃K,Head w' p C A K D a2/\Chg (RowB w p) w w'/\Sub w' K (.pair l (.pair k a b) c)/\(∀j,j≠k->j≠l->K[j]? =q[j]?)/\K.length=q.length:=by
 obtain⟨m,hm⟩:∃m,b.num=m:=⟨_,rfl⟩;rw[hm]at a1;obtain⟨g,rc,d6,L,d7,_⟩:=h.row (by have :=(aO2.1 hx).1;omega);obtain⟨_,fz,d8,_⟩:=h.node L hx;obtain⟨_,_,d9,_⟩:=h.node L hy;obtain⟨_,a0,_⟩:=h.eight L hx;obtain⟨b1,_⟩:=h.eight L hy;have f0:=fz (k*8+1);have f1:=fz (l*8);rw[b0]at a0;rw[a1]at b1;obtain⟨R,g1,r1⟩:=h.put L hx (i:=1) (v:= .int .i64 m) (x':=⟨x.left,m,x.height,x.n,x.ones,x.ln,x.lones,x.b⟩) E rfl;have Y:(q.set k ⟨x.left,m,x.height,x.n,x.ones,x.ln,x.lones,x.b⟩)[l]? =some y:=by rw[aH I.symm];exact hy
 obtain⟨M,g2,r2⟩:=R.put r1 Y (i:=0) (v:= .int .i64 k) (x':=⟨k,y.right,y.height,y.n,y.ones,y.ln,y.lones,y.b⟩) E rfl;generalize t:(q.set k ⟨x.left,m,x.height,x.n,x.ones,x.ln,x.lones,x.b⟩).set l ⟨k,y.right,y.height,y.n,y.ones,y.ln,y.lones,y.b⟩=xs1 at M;have X:xs1[k]? =some ⟨x.left,m,x.height,x.n,x.ones,x.ln,x.lones,x.b⟩:=by rw[<-t,aH I];exact aY hx
 have b2:xs1[l]? =some ⟨k,y.right,y.height,y.n,y.ones,y.ln,y.lones,y.b⟩:=by rw[<-t];exact aY Y
 have f:∀j,j≠k->j≠l->xs1[j]? =q[j]? :=λj R M=>by rw[<-t,aH M,aH R]
 have O:xs1.length=q.length:=by rw[<-t];simp
 obtain⟨F,H⟩:∃F,F=((w.setCell ⟨g,k*8+1,none⟩ (.int .i64 m)).setCell ⟨g,l*8,none⟩ (.int .i64 k)).drew:=⟨_,rfl⟩;have S:Head F p C A xs1 D a2:=by rw[H];exact M.drew
 have a7:Chg (λb=>b=g) w F:=by rw[H];exact(g1.trans g2 (λ_ h=>Ei h)).drew
 have z:Chg (RowB w p) w F:=a7.mono (λb e=>by subst e;exact⟨_,_,L⟩);have W:=h.chgRow z;have u:∀J,Chg (RowB F p) F J->Chg (RowB w p) w J:=λJ hc=>z.trans hc (λb d=>Ei (by obtain⟨n,c,d⟩:=d;exact⟨n,c,(h.rowKeep z 1).symm.trans d⟩));have b7:=θ u;have c8:Hid (∀b,RowB F p b->RowB w p b):=λb d=>by obtain⟨n,c,d⟩:=d;exact⟨n,c,(h.rowKeep z 1).symm.trans d⟩
 have mk:∀(T:TT),Sub w q T->k∉T.nums->l∉T.nums->Sub F xs1 T:=
  λT hT e1 e2=>hT.chgC h W (λj N=>f j (by rintro rfl;exact e1 N) (by rintro rfl;exact e2 N))
 have U:=mk a ha ka la;have V:=mk b d kb lb;have a6:=mk c hc kc lc;have b9:=θ (kY S X a8 a9 (by rw[hm]) U V s1.l s1.r);have s:=θ S;have d5:=θ W;have HA:=θ U;have HB:=θ V;have HC:=θ a6;have d1:=θ X;have d2:=θ b2;have c6:=θ f;have c9:=θ O;have d0:=θ H;have a5:Hid (y.b=none/\y.right=c.num):=⟨b4,b5⟩;have HN:Hid (k≠l/\k∉a.nums/\k∉b.nums/\k∉c.nums/\l∉a.nums/\l∉b.nums/\l∉c.nums):=⟨I,ka,kb,kc,la,lb,lc⟩;clear h fz hx hy a8 a9 b0 b4 a1 b5 ha d hc I ka kb kc la lb lc R g1 r1 Y M S g2 r2 t X b2 W a7 z u f O mk U V a6 hm H;go_enter func260,ntmps260;go_wp2_with fail;refine aG (λw'=>w'.cell? ⟨p,1,none⟩=some (.slice (some ⟨g,0,none⟩) q.length rc)) Ek (L) (λB=>?_);refine rV 0 1 2 3 B ?_;refine rV 4 5 6 7 B ?_;refine rV 8 9 10 11 B ?_;refine rV 12 13 14 15 B ?_;refine rU 16 18 B ?_;refine rg 17 λκ hK=>?_;go_simp;refine hK.out _ _ (L) ?_;intro B;try simp only[pt]
 refine rU 19 20 B ?_;refine rg 21 λκ hK=>?_;go_simp;refine hK.out _ _ (by go_simp) ?_;intro B;try simp only[pt]
 refine rU 22 23 B ?_;refine rg 24 λκ hK=>?_;go_simp;refine hK.out _ _ (by go_simp) ?_;intro B;try simp only[pt]
 refine rz ?_;go_wp2_with fail;rw[<-d0.o];refine b9.o.mono ?_;rintro e J ⟨rfl,h3,G⟩;have g3:=s.o.chgRow G;obtain⟨n1,n2,n3,n4,n5,n6,n7⟩:=HN.o;have Z:(xs1.set k (TT.pair k a b).nd)[l]? =some ⟨k,y.right,y.height,y.n,y.ones,y.ln,y.lones,y.b⟩:=by rw[aH n1.symm];exact d2.o
 have a3:Sub J (xs1.set k (TT.pair k a b).nd) a:=HA.o.chgC s.o g3 (bK n2);have b3:Sub J (xs1.set k (TT.pair k a b).nd) b:=HB.o.chgC s.o g3 (bK n3);have c3:Sub J (xs1.set k (TT.pair k a b).nd) c:=HC.o.chgC s.o g3 (bK n4);have d3:Sub J (xs1.set k (TT.pair k a b).nd) (.pair k a b):=⟨aY d1.o,a3,b3⟩;have c0:=θ (kY (a:= .pair k a b) h3 Z a5.o.1 rfl a5.o.2 d3 c3 s1 s2);have b6:=θ c3;have b8:=θ d3;have P:=θ h3;have c2:=θ (b7.o _ G);have c7:Hid (∀b,RowB J p b->RowB w p b):=λb d=>by obtain⟨n,c,d⟩:=d;exact(c8.o b ⟨n,c,(s.o.rowKeep G 1).symm.trans d⟩)
 have d4:=θ Z;clear Z a3 b3 c3 d3 h3 g3 G n1 n2 n3 n4 n5 n6 n7 B;go_wp2_with fail;refine c0.o.mono ?_;rintro e w3 ⟨rfl,h4,Q⟩;have g4:=P.o.chgRow Q;have c5:=θ h4;have a4:=θ g4;have c4:=θ (c2.o.trans Q (λb d=>Ei (c7.o b d)));clear h4 g4 Q;go_wp2_with fail;go_ret;obtain⟨n1,n2,n3,n4,n5,n6,n7⟩:=HN.o;refine⟨rfl,_,c5.o,c4.o,⟨aY d4.o,?_,?_⟩,λj R M=>?_,?_⟩
 ·refine b8.o.chgC P.o a4.o (bK ?_);simp only[TT.nums,aR1,aR0];rintro(N | N | N)
  ·exact n1 N.symm
  ·exact n5 N
  ·exact n6 N
 ·exact b6.o.chgC P.o a4.o (bK n7)
 ·rw[aH M,aH R];exact c6.o j R M
 ·simpa using c9.o
theorem TT.dis {k:Nat}{a b:TT}(h:(TT.pair k a b).nums.Nodup):k∉a.nums/\k∉b.nums/\a.nums.Nodup/\b.nums.Nodup/\(∀j,j∈a.nums->j∉b.nums):=by
 simp only[TT.nums,aS2,aR0,bd5,aS1]at h;obtain⟨⟨c,d⟩,e,f,g⟩:=h;exact⟨c,d,e,f,λj i l=>g j i j l rfl⟩
theorem TT.mem_l {k j:Nat}{a b:TT}(h:j∈a.nums):j∈(TT.pair k a b).nums:=by simp[TT.nums,h]
theorem TT.mem_r {k j:Nat}{a b:TT}(h:j∈b.nums):j∈(TT.pair k a b).nums:=by simp[TT.nums,h]
theorem TT.mem_k {k:Nat}{a b:TT}:k∈(TT.pair k a b).nums:=by simp[TT.nums]
structure BalPost (w w':World) (p:Nat) (C:Nat->Prop) (A:Ar) (xs:List Nd) (root vis:Int) (k:Nat) (a c:TT) (e:Ending):Prop where
 ex:∃(T':TT) (xs':List Nd) (v':Int),e= .returned T'.num/\Head w' p C A xs' root v'/\Sub w' xs' T'/\T'.st=bal (.pair a.st c.st)/\T'.nums.Perm (TT.pair k a c).nums/\T'.bl=a.bl++c.bl/\
  (∀j,j∉(TT.pair k a c).nums->xs'[j]? =xs[j]?)/\xs'.length=xs.length/\vis<=v'/\v'<=vis+4
 chg:Chg C w w'
theorem vH{w:World}{p:Nat}{C:Nat->Prop}{A:Ar}{xs:List Nd}{g9 L:Int}(h:Head w p C A xs g9 L)(m4:0<=L)(hv:L<=100000000000){k:Nat}{x:Nd}{a c:TT}(hx:xs[k]? =some x)(k7:x.b=none)(k8:x.left=a.num)(k9:x.right=c.num)(ha:Sub w xs a)(hc:Sub w xs c)(hn:(TT.pair k a c).nums.Nodup)(hs:Small (.pair a.st c.st)):Calls prog 247 #[.pointer p,k] w λe Y=>BalPost w Y p C A xs g9 L k a c e:=by
 have hF:=kY h hx k7 k8 k9 ha hc hs.l hs.r;obtain⟨n1,n2,n3,n4,n5⟩:=TT.dis hn;have HF:=θ hF;have HH:=θ h;have HA:=θ ha;have HC:=θ hc;have HX:=θ hx;have HN:=θ hn;have j6:Hid (k∉a.nums/\k∉c.nums):=⟨n1,n2⟩;have k2:=hs.2;clear h hx k7 k8 k9 ha hc hn hF n1 n2 n3 n4 n5;go_enter func247,ntmps247;go_wp2_with fail;refine HF.o.mono ?_;rintro e w1 ⟨rfl,h1,U⟩;have g3:=HH.o.chgRow U;obtain⟨n1,n2⟩:=j6.o;have a1:Sub w1 (xs.set k (TT.pair k a c).nd) a:=HA.o.chgC HH.o g3 (bK n1);have c1:Sub w1 (xs.set k (TT.pair k a c).nd) c:=HC.o.chgC HH.o g3 (bK n2);have t1:Sub w1 (xs.set k (TT.pair k a c).nd) (.pair k a c):=⟨aY HX.o,a1,c1⟩;have l2:∀j,j≠k->(xs.set k (TT.pair k a c).nd)[j]? =xs[j]? :=λj d=>aH d;have l3:(xs.set k (TT.pair k a c).nd).length=xs.length:=Es;generalize xs.set k (TT.pair k a c).nd=xs1 at *;have hr:=t1.root;have k0:=a1.root;have k1:=c1.root;obtain⟨g,rc,m8,r1,m9,_⟩:=h1.row (by have :=(aO2.1 hr).1;omega);have m2:=(h1.node r1 hr).2.2.1;obtain⟨l0,l1,_⟩:=h1.eight r1 hr;change w1.cell? (g,k*8)=some (.int .i64 (a.num:Int))at l0;change w1.cell? (g,k*8+1)=some (.int .i64 (c.num:Int))at l1;change k<xs1.length at m2;have b0:=θ h1;have j0:=θ g3;have M:=θ t1;have d6:=θ l2;have d7:=θ l3;have j7:=θ k0;have j8:=θ k1;clear h1 U g3 n1 n2 a1 c1 t1 l2 l3 hr k0 k1 HF HA HC HX j6;obtain⟨na,i3⟩:∃na,a.num=na:=⟨_,rfl⟩;obtain⟨nc,i4⟩:∃nc,c.num=nc:=⟨_,rfl⟩;rw[i3]at l0 j7;rw[i4]at l1 j8;have l8:=θ i3;have l9:=θ i4;clear i3 i4;go_wp2_with fail;go_quiet (fail);obtain⟨c4,rfl⟩:∃n1,n1=nq:=⟨_,rfl⟩;go_wp2_with fail;refine(fL (b0.o.drewN _) m4 E j7.o).mono ?_;rintro e w2 ⟨rfl,rfl⟩;have h4:=θ ((b0.o.drewN c4).set3 (L+1));go_wp2_with fail;refine(fL h4.o E E j8.o).mono ?_;rintro e w3 ⟨rfl,rfl⟩;rw[a.nd_high,c.nd_high];have i2:=h4.o.set3 (L+1+1);have j9:Chg C w (((w1.drewN c4).setCell (p,3) (L+1:Int)).setCell (p,3) (L+1+1:Int)):=((j0.o.drewN c4).setCell _ (Ei b0.o.self) _).setCell _ (Ei b0.o.self) _;have k4:Sub (((w1.drewN c4).setCell (p,3) (L+1:Int)).setCell (p,3) (L+1+1:Int)) xs1 (.pair k a c):=
  M.o.chgC b0.o (((Chg.refl.drewN c4).setCell _ (Ei b0.o.self) _).setCell _ (Ei b0.o.self) _) (λ_ _=>rfl)
 have r3:(((w1.drewN c4).setCell (p,3) (L+1:Int)).setCell (p,3) (L+1+1:Int)).cell? (p,1)=some (.slice g xs1.length rc):=by go_simp
 generalize ((w1.drewN c4).setCell (p,3) (L+1:Int)).setCell (p,3) (L+1+1:Int)=W3 at *;obtain⟨H,i6⟩:∃H,H=L+1+1:=⟨_,rfl⟩;rw[<-i6]at i2;have g4:0<=H/\H<=200000000000:=E;obtain⟨g4,m7⟩:=g4;have X:=θ i6;clear i6;have s:=θ i2;have d5:=θ j9;have b8:=θ k4;have d4:=θ (TT.dis HN.o);clear i2 j9 k4 b0 j0 M h4 r1 l0 l1;obtain⟨a7,e6⟩:∃h,a.st.high=h:=⟨_,rfl⟩;obtain⟨a8,e7⟩:∃h,c.st.high=h:=⟨_,rfl⟩;have k3:a7<=1000000000/\a8<=1000000000:=by simp only[ST.high]at k2;omega
 obtain⟨m5,m6⟩:=k3;rw[e6,e7];have W:=θ e6;have b3:=θ e7;clear e6 e7 k2;by_cases hr:a8+1<a7
 ·have t:decide ((1:Int)<(a7:Int)-(a8:Int))=true:=bc2 E;cases a with
  | leaf ka q l=>exfalso;have :=W.o;simp only[TT.st,ST.high]at this;omega
  | pair l D B=>
   have h9:Hid (l=na):=l8.o;obtain rfl:=h9.o;obtain⟨e8,⟨a3,f8,f9⟩,g0⟩:=b8.o;obtain⟨m0,m1,_⟩:=s.o.eight r3 a3;have m3:=(s.o.node r3 a3).2.2.1;change W3.cell? (g,l*8)=some (.int .i64 (D.num:Int))at m0;change W3.cell? (g,l*8+1)=some (.int .i64 (B.num:Int))at m1;have h0:=θ f8;have h3:=θ f9;have l4:=θ g0;have l6:=θ e8;have l7:=θ a3;clear e8 a3 f8 f9 g0;obtain⟨n1,a5⟩:∃n,D.num=n:=⟨_,rfl⟩;obtain⟨n2,a6⟩:∃n,B.num=n:=⟨_,rfl⟩;rw[a5]at m0;rw[a6]at m1;have d8:Hid (xs1[n1]? =some D.nd):=by rw[<-a5];exact h0.o.root
   have d9:Hid (xs1[n2]? =some B.nd):=by rw[<-a6];exact h3.o.root
   have j4:=θ a5;have j5:=θ a6;obtain⟨t1,c0⟩:∃h,D.st.high=h:=⟨_,rfl⟩;obtain⟨t2,c2⟩:∃h,B.st.high=h:=⟨_,rfl⟩;have i5:t1<=1000000000/\t2<=1000000000:=by have :=W.o;simp only[TT.st,ST.high,c0,c2]at this;omega
   obtain⟨k5,k6⟩:=i5;have M:=θ c0;have V:=θ c2;clear a5 a6 c0 c2;by_cases hd:t1<t2
   ·have d3:decide (t1<t2)=true:=bc2 hd;go_wp2_with fail;refine aG (λY=>Y.cell? (p,1)=some (.slice g xs1.length rc)/\Y.cell? (g,l*8)=some (.int .i64 n1)/\Y.cell? (g,l*8+1)=n2) Ek ?hira (λz=>?_);case hira=>(refine⟨?_,?_,?_⟩<;>go_simp)
    refine rV 0 1 2 3 z ?_;refine rV 4 5 6 7 z ?_;refine rV 8 10 11 12 z ?_;refine rV 13 14 15 16 z ?_;refine rU 17 18 z ?_;refine rg 9 λZ I=>?_;go_simp
    ((with_reducible refine(fL s.o.drew E E d8.o).mono ?_))
    rintro e w2 ⟨rfl,rfl⟩;rw[D.nd_high,M.o];refine I.out _ _ ?kpra9 (λf=>?_);case kpra9=>(refine⟨?_,?_,?_⟩<;>go_simp)
    clear I Z z;have z:=f;clear f;try simp only[pt]
    refine rg 19 λZ I=>?_;go_simp
    ((with_reducible refine(fL (s.o.set3 (H+1)).drew E E d9.o).mono ?_))
    rintro e w2 ⟨rfl,rfl⟩;rw[B.nd_high,V.o];refine I.out _ _ ?kpra19 (λf=>?_);case kpra19=>(refine⟨?_,?_,?_⟩<;>go_simp)
    clear I Z z;have z:=f;clear f;try simp only[pt]
    refine rt 20 z ?_;refine rz ?_;have J:=(s.o.set3 (H+1)).drew.set3 (H+1+1);have O:Chg C w (((W3.setCell (p,3) (H+1:Int)).drew.setCell (p,3) (H+1+1:Int))):=((d5.o.setCell _ (Ei s.o.self) _).drew).setCell _ (Ei s.o.self) _;have G:Sub (((W3.setCell (p,3) (H+1:Int)).drew.setCell (p,3) (H+1+1:Int))) xs1 (.pair k (.pair l D B) c):=b8.o.chgC s.o (((Chg.refl.setCell _ (Ei s.o.self) _).drew).setCell _ (Ei s.o.self) _) (λ_ _=>rfl);have r4:=z.1;clear z;generalize (((W3.setCell (p,3) (H+1:Int)).drew.setCell (p,3) (H+1+1:Int)))=W4 at *;go_wp2_with fail;have HD:=θ hd;cases B with
    | leaf kb qb lb=>exfalso;have :=V.o;simp only[TT.st,ST.high]at this;omega
    | pair m t u=>
    obtain rfl:m=n2:=j5.o;have P:=J.drew;have F:Sub W4.drew xs1 (.pair k (.pair l D (.pair m t u)) c):=G.keep (λ_ _=>rfl) (λ_ _=>rfl);obtain⟨S,q2,q3,q4,q5⟩:=d4.o;obtain⟨q6,q7,q8,q9,T⟩:=TT.dis q3;obtain⟨c7,c8,i7,i8,i9⟩:=TT.dis q9;have e9:k≠m:=by rintro rfl;exact S (TT.mem_r TT.mem_k)
    have N:k≠l:=by rintro rfl;exact S TT.mem_k
    have a4:l≠m:=by rintro rfl;exact q7 TT.mem_k
    have i1:=θ (yF P (k:=l) (l:=m) (x:=(TT.pair l D (.pair m t u)).nd) (y:=(TT.pair m t u).nd) (a:=D) (b:=t) (c:=u) F.2.1.1 rfl rfl rfl F.2.1.2.2.1 rfl rfl rfl F.2.1.2.1 F.2.1.2.2.2.1 F.2.1.2.2.2.2 a4
     q6 (λd=>q7 (TT.mem_l d)) (λd=>q7 (TT.mem_r d)) (λd=>T _ d TT.mem_k) c7 c8 (by
      obtain⟨U,g2⟩:=hs;simp only[TT.st,ST.bits,ST.high,aP3]at U g2;refine⟨?_,?_⟩<;>simp only[ST.bits,ST.high,aP3]<;>omega) (by
      obtain⟨U,g2⟩:=hs;simp only[TT.st,ST.bits,ST.high,aP3]at U g2;exact⟨E,E⟩))
    have b4:=θ P;have e5:Hid (W4.drew.cell? (p,1)=some (.slice g xs1.length rc)):=r4;have e0:=θ G;have e4:=θ F;have H4:=θ J;have b6:=θ O;have b5:Hid (k≠m/\k≠l/\l≠m):=⟨e9,N,a4⟩;have HQ:Hid (k∉(TT.pair l D t).nums/\k∉u.nums/\k∉c.nums/\m∉(TT.pair l D t).nums/\m∉u.nums/\m∉c.nums):=by
     refine⟨λd=>?_,λd=>S (TT.mem_r (TT.mem_r d)),q2,λd=>?_,c8,q5 _ (TT.mem_r TT.mem_k)⟩
     ·simp only[TT.nums,aR1,aR0]at d;rcases d with rfl | d | d
      ·exact N rfl
      ·exact S (TT.mem_l d)
      ·exact S (TT.mem_r (TT.mem_l d))
     ·simp only[TT.nums,aR1,aR0]at d;rcases d with rfl | d | d
      ·exact a4 rfl
      ·exact T _ d TT.mem_k
      ·exact c7 d
    clear J O G P F S q2 q3 q4 q5 q6 q7 q8 q9 T c7 c8 i7 i8 i9 e9 N a4 m0 m1 r3 hd;refine aG (λY=>Y.cell? (p,1)=some (.slice g xs1.length rc)) Ek ?hirc (λz=>?_);case hirc=>(exact e5.out)
    refine rV 0 1 2 3 z ?_;refine rU 4 5 z ?_;refine rt 6 z ?_;refine rg 7 λZ I=>?_;go_simp
    ((with_reducible refine i1.o.mono ?_))
    rintro e w5 ⟨rfl,c9,h5,g5,t5,c3,f0⟩;have r5:=(b4.o.rowKeep g5 1).trans e5.out;have K:c9[k]? =some (TT.pair k (.pair l D (.pair m t u)) c).nd:=by rw[c3 k b5.o.2.1 b5.o.1];exact e0.o.1
    have l5:=(h5.eight r5 K).1;have z5:=(h5.node r5 K).2.1 (k*8);have a0:=θ h5;have a9:=θ (b4.o.chgRow g5);have i0:=θ t5;have b7:=θ c3;have h8:=θ f0;clear h5 g5 t5 c3 f0 K;refine I.out _ _ (r5) ?_;intro z;try simp only[pt]
    refine rU 8 9 z ?_;refine rg 10 λZ I=>?_;go_simp;refine I.out _ _ ?kprc10 (λf=>?_);case kprc10=>(go_simp)
    clear I Z z;have z:=f;clear f;try simp only[pt]
    refine rz ?_;go_wp2_with fail;obtain⟨e1,e2,e3⟩:=b5.o;have K:c9[k]? =some (TT.pair k (.pair l D (.pair m t u)) c).nd:=by rw[b7.o k e2 e1];exact e0.o.1
    obtain⟨h6,g6,r6⟩:=a0.o.put r5 K (i:=0) (v:= .int .i64 m) (x':=⟨m,c.num,(TT.pair k (.pair l D (.pair m t u)) c).nd.height,(TT.pair k (.pair l D (.pair m t u)) c).nd.n,(TT.pair k (.pair l D (.pair m t u)) c).nd.ones,(TT.pair k (.pair l D (.pair m t u)) c).nd.ln,(TT.pair k (.pair l D (.pair m t u)) c).nd.lones,none⟩) E rfl;have a2:Chg C w5 _:=g6.mono (λb hb=>by subst hb;exact a0.o.rowC ⟨_,_,r5⟩);obtain⟨f1,f2,f3,f4,f5,f6⟩:=HQ.o;have t6:=i0.o.chgC a0.o a2 (bK (y:=⟨m,c.num,(TT.pair k (.pair l D (.pair m t u)) c).nd.height,(TT.pair k (.pair l D (.pair m t u)) c).nd.n,(TT.pair k (.pair l D (.pair m t u)) c).nd.ones,(TT.pair k (.pair l D (.pair m t u)) c).nd.ln,(TT.pair k (.pair l D (.pair m t u)) c).nd.lones,none⟩) (k:=k) (λd=>by
     simp only[TT.nums,aR1,aR0]at d f1
     rcases d with rfl | (rfl | d | d) | d
     ·exact e1 rfl
     ·exact e2 rfl
     ·exact f1 (Ej (Ei d))
     ·exact f1 (Ej (Ej d))
     ·exact f2 d))
    have c5:Sub w5 c9 c:=e4.o.2.2.chgC b4.o a9.o (λj d=>b7.o j (by rintro rfl;exact d4.o.2.2.2.2 _ TT.mem_k d) (by rintro rfl;exact f6 d));have c6:=c5.chgC a0.o a2 (bK (y:=⟨m,c.num,(TT.pair k (.pair l D (.pair m t u)) c).nd.height,(TT.pair k (.pair l D (.pair m t u)) c).nd.n,(TT.pair k (.pair l D (.pair m t u)) c).nd.ones,(TT.pair k (.pair l D (.pair m t u)) c).nd.ln,(TT.pair k (.pair l D (.pair m t u)) c).nd.lones,none⟩) f3);have b9:=θ (vK h6 (k:=k) (l:=m) (y:=(TT.pair m (.pair l D t) u).nd) (a:= .pair l D t) (b:=u) (c:=c) (aY K) rfl rfl rfl t6.1 rfl rfl rfl t6.2.1 t6.2.2 c6 e1 f1 f2 f3 f4 f5 f6 (by
      obtain⟨U,g2⟩:=hs;simp only[TT.st,ST.bits,ST.high,aP3]at U g2;refine⟨?_,?_⟩<;>simp only[TT.st,ST.bits,ST.high,aP3]<;>omega) (by
      obtain⟨U,g2⟩:=hs;simp only[TT.st,ST.bits,ST.high,aP3]at U g2;refine⟨?_,?_⟩<;>simp only[ST.bits,ST.high,aP3]<;>omega))
    have H6:=θ h6;have G6:=θ a2;clear h6 g6 r6 a2 f1 f2 f3 f4 f5 f6 t6 c5 c6 K e1 e2 e3;refine b9.o.mono ?_;rintro e w7 ⟨rfl,d0,h7,g7,t7,Q,R⟩;have hb:bal (.pair (TT.pair l D (.pair m t u)).st c.st)= .pair (.pair D.st t.st) (.pair u.st c.st):=by
     have e1:(TT.pair l D (.pair m t u)).st.high=a7:=W.o;have e2:(TT.pair m t u).st.high=t2:=V.o;simp only[bal];rw[bd0 (by rw[e1,b3.o];exact hr),bd0 (by show D.st.high<(TT.pair m t u).st.high;rw[M.o,e2];exact HD.o)];rfl
    have H7:=θ h7;have G7:=θ g7;have T7:=θ t7;have K7:=θ Q;have L7:=θ R;have HB:=θ hb;clear h7 g7 t7 Q R hb;go_wp2_with fail;go_ret;refine⟨⟨.pair m (.pair l D t) (.pair k u c),d0,_,rfl,H7.o,T7.out,HB.o.symm,?_,?_,λj d=>?_,?_,by have :=X.o;omega,by have :=X.o;omega⟩,?_⟩
    ·rw[List.perm_iff_count];intro j;simp only[TT.nums,aM1,aM2];omega
    ·simp[TT.bl]
    ·have j1:j≠k:=λe=>d (e▸TT.mem_k);have j2:j≠l:=λe=>d (e▸TT.mem_l TT.mem_k);have j3:j≠m:=λe=>d (e▸TT.mem_l (TT.mem_r TT.mem_k));rw[K7.out j j1 j3,aH j1,b7.o j j2 j3,d6.o j j1]
    ·rw[L7.out,aQ0,h8.o,d7.o]
    ·exact(((b6.o.drew).trans a9.o (λ_ h=>Ei h)).trans G6.out (λ_ h=>Ei h)).trans (H6.o.chgRow G7.out) (λ_ h=>Ei h)
   ·have d3:decide (t1<t2)=false:=bc0 hd;go_wp2_with fail;refine aG (λY=>Y.cell? (p,1)=some (.slice g xs1.length rc)/\Y.cell? (g,l*8)=n1/\Y.cell? (g,l*8+1)=n2) Ek ?hirb (λz=>?_);case hirb=>(refine⟨?_,?_,?_⟩<;>go_simp)
    refine rV 0 1 2 3 z ?_;refine rV 4 5 6 7 z ?_;refine rV 8 10 11 12 z ?_;refine rV 13 14 15 16 z ?_;refine rU 17 18 z ?_;refine rg 9 λZ I=>?_;go_simp
    ((with_reducible refine(fL s.o.drew E E d8.o).mono ?_))
    rintro e w2 ⟨rfl,rfl⟩;rw[D.nd_high,M.o];refine I.out _ _ ?kprb9 (λf=>?_);case kprb9=>(refine⟨?_,?_,?_⟩<;>go_simp)
    clear I Z z;have z:=f;clear f;try simp only[pt]
    refine rg 19 λZ I=>?_;go_simp
    ((with_reducible refine(fL (s.o.set3 (H+1)).drew E E d9.o).mono ?_))
    rintro e w2 ⟨rfl,rfl⟩;rw[B.nd_high,V.o];refine I.out _ _ ?kprb19 (λf=>?_);case kprb19=>(refine⟨?_,?_,?_⟩<;>go_simp)
    clear I Z z;have z:=f;clear f;try simp only[pt]
    refine rt 20 z ?_;refine rz ?_;have J:=(s.o.set3 (H+1)).drew.set3 (H+1+1);have O:Chg C w (((W3.setCell (p,3) (H+1:Int)).drew.setCell (p,3) (H+1+1:Int))):=((d5.o.setCell _ (Ei s.o.self) _).drew).setCell _ (Ei s.o.self) _;have G:Sub (((W3.setCell (p,3) (H+1:Int)).drew.setCell (p,3) (H+1+1:Int))) xs1 (.pair k (.pair l D B) c):=b8.o.chgC s.o (((Chg.refl.setCell _ (Ei s.o.self) _).drew).setCell _ (Ei s.o.self) _) (λ_ _=>rfl);have r4:=z.1;clear z;generalize (((W3.setCell (p,3) (H+1:Int)).drew.setCell (p,3) (H+1+1:Int)))=W4 at *;go_wp2_with fail;obtain⟨S,q2,q3,q4,q5⟩:=d4.o;obtain⟨q6,q7,q8,q9,T⟩:=TT.dis q3;have N:k≠l:=by rintro rfl;exact S TT.mem_k
    have b9:=θ (vK J (k:=k) (l:=l) (x:=(TT.pair k (.pair l D B) c).nd) (y:=(TT.pair l D B).nd) (a:=D) (b:=B) (c:=c) G.1 rfl rfl rfl G.2.1.1 rfl rfl rfl G.2.1.2.1 G.2.1.2.2 G.2.2 N (λd=>S (TT.mem_l d)) (λd=>S (TT.mem_r d)) q2 q6 q7 (q5 _ TT.mem_k) hs.l.l (by
      obtain⟨U,g2⟩:=hs;simp only[TT.st,ST.bits,ST.high,aP3]at U g2;refine⟨?_,?_⟩<;>simp only[ST.bits,ST.high,aP3]<;>omega))
    have H4:=θ J;have b6:=θ O;have HD:=θ hd;clear J O G S q2 q3 q4 q5 q6 q7 q8 q9 T N m0 m1 r3 hd;refine b9.o.mono ?_;rintro e w7 ⟨rfl,d0,h7,g7,t7,Q,R⟩;have hb:bal (.pair (TT.pair l D B).st c.st)= .pair D.st (.pair B.st c.st):=by
     have e1:(TT.pair l D B).st.high=a7:=W.o;simp only[bal];rw[bd0 (by rw[e1,b3.o];exact hr),bc9 (by show ¬D.st.high<B.st.high;rw[M.o,V.o];exact HD.o)];rfl
    have H7:=θ h7;have G7:=θ g7;have T7:=θ t7;have K7:=θ Q;have L7:=θ R;have HB:=θ hb;clear h7 g7 t7 Q R hb;go_wp2_with fail;go_ret;refine⟨⟨.pair l D (.pair k B c),d0,_,rfl,H7.o,T7.out,HB.o.symm,?_,?_,λj d=>?_,?_,by have :=X.o;omega,by have :=X.o;omega⟩,?_⟩
    ·rw[List.perm_iff_count];intro j;simp only[TT.nums,aM1,aM2];omega
    ·simp[TT.bl]
    ·have j1:j≠k:=λe=>d (e▸TT.mem_k);have j2:j≠l:=λe=>d (e▸TT.mem_l TT.mem_k);rw[K7.out j j1 j2,d6.o j j1]
    ·rw[L7.out,d7.o]
    ·exact b6.o.trans (H4.o.chgRow G7.out) (λ_ h=>Ei h)
 ·have t:decide ((1:Int)<(a7:Int)-(a8:Int))=false:=bc0 E;by_cases hl:a7+1<a8
  ·have u:decide ((a7:Int)-(a8:Int)< -1)=true:=bc2 E;cases c with
   | leaf ka q l=>exfalso;have :=b3.o;simp only[TT.st,ST.high]at this;omega
   | pair l D B=>
    have h9:Hid (l=nc):=l9.o;obtain rfl:=h9.o;obtain⟨e8,g0,a3,f8,f9⟩:=b8.o;obtain⟨m0,m1,_⟩:=s.o.eight r3 a3;have m3:=(s.o.node r3 a3).2.2.1;change W3.cell? (g,l*8)=some (.int .i64 (D.num:Int))at m0;change W3.cell? (g,l*8+1)=some (.int .i64 (B.num:Int))at m1;have h0:=θ f8;have h3:=θ f9;have l4:=θ g0;have l6:=θ e8;have l7:=θ a3;clear e8 a3 f8 f9 g0;obtain⟨n1,a5⟩:∃n,D.num=n:=⟨_,rfl⟩;obtain⟨n2,a6⟩:∃n,B.num=n:=⟨_,rfl⟩;rw[a5]at m0;rw[a6]at m1;have d8:Hid (xs1[n1]? =some D.nd):=by rw[<-a5];exact h0.o.root
    have d9:Hid (xs1[n2]? =some B.nd):=by rw[<-a6];exact h3.o.root
    have j4:=θ a5;have j5:=θ a6;obtain⟨t1,c0⟩:∃h,D.st.high=h:=⟨_,rfl⟩;obtain⟨t2,c2⟩:∃h,B.st.high=h:=⟨_,rfl⟩;have i5:t1<=1000000000/\t2<=1000000000:=by have :=b3.o;simp only[TT.st,ST.high,c0,c2]at this;omega
    obtain⟨k5,k6⟩:=i5;have M:=θ c0;have V:=θ c2;clear a5 a6 c0 c2;by_cases hd:t2<t1
    ·have d3:decide (t2<t1)=true:=bc2 hd;go_wp2_with fail;refine aG (λY=>Y.cell? (p,1)=some (.slice g xs1.length rc)/\Y.cell? (g,l*8)=n1/\Y.cell? (g,l*8+1)=n2) Ek ?hila (λz=>?_);case hila=>(refine⟨?_,?_,?_⟩<;>go_simp)
     refine rV 0 1 2 3 z ?_;refine rV 4 5 6 7 z ?_;refine rV 8 10 11 12 z ?_;refine rV 13 14 15 16 z ?_;refine rU 17 18 z ?_;refine rg 9 λZ I=>?_;go_simp
     ((with_reducible refine(fL s.o.drew E E d9.o).mono ?_))
     rintro e w2 ⟨rfl,rfl⟩;rw[B.nd_high,V.o];refine I.out _ _ ?kpla9 (λf=>?_);case kpla9=>(refine⟨?_,?_,?_⟩<;>go_simp)
     clear I Z z;have z:=f;clear f;try simp only[pt]
     refine rg 19 λZ I=>?_;go_simp
     ((with_reducible refine(fL (s.o.set3 (H+1)).drew E E d8.o).mono ?_))
     rintro e w2 ⟨rfl,rfl⟩;rw[D.nd_high,M.o];refine I.out _ _ ?kpla19 (λf=>?_);case kpla19=>(refine⟨?_,?_,?_⟩<;>go_simp)
     clear I Z z;have z:=f;clear f;try simp only[pt]
     refine rt 20 z ?_;refine rz ?_;have J:=(s.o.set3 (H+1)).drew.set3 (H+1+1);have O:Chg C w (((W3.setCell (p,3) (H+1:Int)).drew.setCell (p,3) (H+1+1:Int))):=((d5.o.setCell _ (Ei s.o.self) _).drew).setCell _ (Ei s.o.self) _;have G:Sub (((W3.setCell (p,3) (H+1:Int)).drew.setCell (p,3) (H+1+1:Int))) xs1 (.pair k a (.pair l D B)):=b8.o.chgC s.o (((Chg.refl.setCell _ (Ei s.o.self) _).drew).setCell _ (Ei s.o.self) _) (λ_ _=>rfl);have r4:=z.1;clear z;generalize (((W3.setCell (p,3) (H+1:Int)).drew.setCell (p,3) (H+1+1:Int)))=W4 at *;go_wp2_with fail;have HD:=θ hd;cases D with
     | leaf kb qb lb=>exfalso;have :=M.o;simp only[TT.st,ST.high]at this;omega
     | pair m t u=>
     obtain rfl:m=n1:=j4.o;have P:=J.drew;have F:Sub W4.drew xs1 (.pair k a (.pair l (.pair m t u) B)):=G.keep (λ_ _=>rfl) (λ_ _=>rfl);obtain⟨q2,S,q4,q3,f7⟩:=d4.o;have q5:∀j,j∈(TT.pair l (.pair m t u) B).nums->j∉a.nums:=λj h1 h2=>f7 j h2 h1;obtain⟨q7,q6,q9,q8,g8⟩:=TT.dis q3;have T:∀j,j∈B.nums->j∉(TT.pair m t u).nums:=λj h1 h2=>g8 j h2 h1;obtain⟨c7,c8,i7,i8,i9⟩:=TT.dis q9;have e9:k≠m:=by rintro rfl;exact S (TT.mem_l TT.mem_k)
     have N:k≠l:=by rintro rfl;exact S TT.mem_k
     have a4:l≠m:=by rintro rfl;exact q7 TT.mem_k
     have i1:=θ (vK P (k:=l) (l:=m) (x:=(TT.pair l (.pair m t u) B).nd) (y:=(TT.pair m t u).nd) (a:=t) (b:=u) (c:=B) F.2.2.1 rfl rfl rfl F.2.2.2.1.1 rfl rfl rfl F.2.2.2.1.2.1 F.2.2.2.1.2.2 F.2.2.2.2 a4
      (λd=>q7 (TT.mem_l d)) (λd=>q7 (TT.mem_r d)) q6 c7 c8 (λd=>T _ d TT.mem_k) (by
       obtain⟨U,g2⟩:=hs;simp only[TT.st,ST.bits,ST.high,aP3]at U g2;exact⟨E,E⟩) (by
       obtain⟨U,g2⟩:=hs;simp only[TT.st,ST.bits,ST.high,aP3]at U g2;refine⟨?_,?_⟩<;>simp only[ST.bits,ST.high,aP3]<;>omega))
     have b4:=θ P;have e5:Hid (W4.drew.cell? (p,1)=some (.slice g xs1.length rc)):=r4;have e0:=θ G;have e4:=θ F;have H4:=θ J;have b6:=θ O;have b5:Hid (k≠m/\k≠l/\l≠m):=⟨e9,N,a4⟩;have HQ:Hid (k∉a.nums/\k∉t.nums/\k∉(TT.pair l u B).nums/\m∉a.nums/\m∉t.nums/\m∉(TT.pair l u B).nums):=by
      refine⟨q2,λd=>S (TT.mem_l (TT.mem_l d)),λd=>?_,q5 _ (TT.mem_l TT.mem_k),c7,λd=>?_⟩
      ·simp only[TT.nums,aR1,aR0]at d;rcases d with rfl | d | d
       ·exact N rfl
       ·exact S (TT.mem_l (TT.mem_r d))
       ·exact S (TT.mem_r d)
      ·simp only[TT.nums,aR1,aR0]at d;rcases d with rfl | d | d
       ·exact a4 rfl
       ·exact c8 d
       ·exact T _ d TT.mem_k
     clear J O G P F S q2 q3 q4 q5 f7 q6 q7 q8 q9 T g8 c7 c8 i7 i8 i9 e9 N a4 m0 m1 r3 hd;refine aG (λY=>Y.cell? (p,1)=some (.slice g xs1.length rc)) Ek ?hilc (λz=>?_);case hilc=>(exact e5.out)
     refine rV 0 1 2 3 z ?_;refine rU 4 5 z ?_;refine rt 6 z ?_;refine rg 7 λZ I=>?_;go_simp
     ((with_reducible refine i1.o.mono ?_))
     rintro e w5 ⟨rfl,c9,h5,g5,t5,c3,f0⟩;have r5:=(b4.o.rowKeep g5 1).trans e5.out;have K:c9[k]? =some (TT.pair k a (.pair l (.pair m t u) B)).nd:=by rw[c3 k b5.o.2.1 b5.o.1];exact e0.o.1
     have l5:=(h5.eight r5 K).2.1;have z5:=(h5.node r5 K).2.1 (k*8+1);have a0:=θ h5;have a9:=θ (b4.o.chgRow g5);have i0:=θ t5;have b7:=θ c3;have h8:=θ f0;clear h5 g5 t5 c3 f0 K;refine I.out _ _ (r5) ?_;intro z;try simp only[pt]
     refine rU 8 9 z ?_;refine rg 10 λZ I=>?_;go_simp;refine I.out _ _ ?kplc10 (λf=>?_);case kplc10=>(go_simp)
     clear I Z z;have z:=f;clear f;try simp only[pt]
     refine rz ?_;go_wp2_with fail;obtain⟨e1,e2,e3⟩:=b5.o;have K:c9[k]? =some (TT.pair k a (.pair l (.pair m t u) B)).nd:=by rw[b7.o k e2 e1];exact e0.o.1
     obtain⟨h6,g6,r6⟩:=a0.o.put r5 K (i:=1) (v:= .int .i64 m) (x':=⟨a.num,m,(TT.pair k a (.pair l (.pair m t u) B)).nd.height,(TT.pair k a (.pair l (.pair m t u) B)).nd.n,(TT.pair k a (.pair l (.pair m t u) B)).nd.ones,(TT.pair k a (.pair l (.pair m t u) B)).nd.ln,(TT.pair k a (.pair l (.pair m t u) B)).nd.lones,none⟩) E rfl;have a2:Chg C w5 _:=g6.mono (λb hb=>by subst hb;exact a0.o.rowC ⟨_,_,r5⟩);obtain⟨f1,f2,f3,f4,f5,f6⟩:=HQ.o;have t6:=i0.o.chgC a0.o a2 (bK (y:=⟨a.num,m,(TT.pair k a (.pair l (.pair m t u) B)).nd.height,(TT.pair k a (.pair l (.pair m t u) B)).nd.n,(TT.pair k a (.pair l (.pair m t u) B)).nd.ones,(TT.pair k a (.pair l (.pair m t u) B)).nd.ln,(TT.pair k a (.pair l (.pair m t u) B)).nd.lones,none⟩) (k:=k) (λd=>by
      simp only[TT.nums,aR1,aR0]at d f3
      rcases d with rfl | d | rfl | d | d
      ·exact e1 rfl
      ·exact f2 d
      ·exact e2 rfl
      ·exact f3 (Ej (Ei d))
      ·exact f3 (Ej (Ej d))))
     have c5:Sub w5 c9 a:=e4.o.2.1.chgC b4.o a9.o (λj d=>b7.o j (by rintro rfl;exact d4.o.2.2.2.2 _ d TT.mem_k) (by rintro rfl;exact f4 d));have c6:=c5.chgC a0.o a2 (bK (y:=⟨a.num,m,(TT.pair k a (.pair l (.pair m t u) B)).nd.height,(TT.pair k a (.pair l (.pair m t u) B)).nd.n,(TT.pair k a (.pair l (.pair m t u) B)).nd.ones,(TT.pair k a (.pair l (.pair m t u) B)).nd.ln,(TT.pair k a (.pair l (.pair m t u) B)).nd.lones,none⟩) f1);have b9:=θ (yF h6 (k:=k) (l:=m) (y:=(TT.pair m t (.pair l u B)).nd) (a:=a) (b:=t) (c:= .pair l u B) (aY K) rfl rfl rfl t6.1 rfl rfl rfl c6 t6.2.1 t6.2.2 e1 f1 f2 f3 f4 f5 f6 (by
       obtain⟨U,g2⟩:=hs;simp only[TT.st,ST.bits,ST.high,aP3]at U g2;refine⟨?_,?_⟩<;>simp only[ST.bits,ST.high,aP3]<;>omega) (by
       obtain⟨U,g2⟩:=hs;simp only[TT.st,ST.bits,ST.high,aP3]at U g2;refine⟨?_,?_⟩<;>simp only[TT.st,ST.bits,ST.high,aP3]<;>omega))
     have H6:=θ h6;have G6:=θ a2;clear h6 g6 r6 a2 f1 f2 f3 f4 f5 f6 t6 c5 c6 K e1 e2 e3;refine b9.o.mono ?_;rintro e w7 ⟨rfl,d0,h7,g7,t7,Q,R⟩;have hb:bal (.pair a.st (TT.pair l (.pair m t u) B).st)= .pair (.pair a.st t.st) (.pair u.st B.st):=by
      have e1:(TT.pair l (.pair m t u) B).st.high=a8:=b3.o;have e2:(TT.pair m t u).st.high=t1:=M.o;simp only[bal];rw[bc9 (by rw[e1,W.o];exact hr),bd0 (by rw[e1,W.o];exact hl),bd0 (by show B.st.high<(TT.pair m t u).st.high;rw[V.o,e2];exact HD.o)];rfl
     have H7:=θ h7;have G7:=θ g7;have T7:=θ t7;have K7:=θ Q;have L7:=θ R;have HB:=θ hb;clear h7 g7 t7 Q R hb;go_wp2_with fail;go_ret;refine⟨⟨.pair m (.pair k a t) (.pair l u B),d0,_,rfl,H7.o,T7.out,HB.o.symm,?_,?_,λj d=>?_,?_,by have :=X.o;omega,by have :=X.o;omega⟩,?_⟩
     ·rw[List.perm_iff_count];intro j;simp only[TT.nums,aM1,aM2];omega
     ·simp[TT.bl]
     ·have j1:j≠k:=λe=>d (e▸TT.mem_k);have j2:j≠l:=λe=>d (e▸TT.mem_r TT.mem_k);have j3:j≠m:=λe=>d (e▸TT.mem_r (TT.mem_l TT.mem_k));rw[K7.out j j1 j3,aH j1,b7.o j j2 j3,d6.o j j1]
     ·rw[L7.out,aQ0,h8.o,d7.o]
     ·exact(((b6.o.drew).trans a9.o (λ_ h=>Ei h)).trans G6.out (λ_ h=>Ei h)).trans (H6.o.chgRow G7.out) (λ_ h=>Ei h)
    ·have d3:decide (t2<t1)=false:=bc0 hd;go_wp2_with fail;refine aG (λY=>Y.cell? (p,1)=some (.slice g xs1.length rc)/\Y.cell? (g,l*8)=n1/\Y.cell? (g,l*8+1)=n2) Ek ?hilb (λz=>?_);case hilb=>(refine⟨?_,?_,?_⟩<;>go_simp)
     refine rV 0 1 2 3 z ?_;refine rV 4 5 6 7 z ?_;refine rV 8 10 11 12 z ?_;refine rV 13 14 15 16 z ?_;refine rU 17 18 z ?_;refine rg 9 λZ I=>?_;go_simp
     ((with_reducible refine(fL s.o.drew E E d9.o).mono ?_))
     rintro e w2 ⟨rfl,rfl⟩;rw[B.nd_high,V.o];refine I.out _ _ ?kplb9 (λf=>?_);case kplb9=>(refine⟨?_,?_,?_⟩<;>go_simp)
     clear I Z z;have z:=f;clear f;try simp only[pt]
     refine rg 19 λZ I=>?_;go_simp
     ((with_reducible refine(fL (s.o.set3 (H+1)).drew E E d8.o).mono ?_))
     rintro e w2 ⟨rfl,rfl⟩;rw[D.nd_high,M.o];refine I.out _ _ ?kplb19 (λf=>?_);case kplb19=>(refine⟨?_,?_,?_⟩<;>go_simp)
     clear I Z z;have z:=f;clear f;try simp only[pt]
     refine rt 20 z ?_;refine rz ?_;have J:=(s.o.set3 (H+1)).drew.set3 (H+1+1);have O:Chg C w (((W3.setCell (p,3) (H+1:Int)).drew.setCell (p,3) (H+1+1:Int))):=((d5.o.setCell _ (Ei s.o.self) _).drew).setCell _ (Ei s.o.self) _;have G:Sub (((W3.setCell (p,3) (H+1:Int)).drew.setCell (p,3) (H+1+1:Int))) xs1 (.pair k a (.pair l D B)):=b8.o.chgC s.o (((Chg.refl.setCell _ (Ei s.o.self) _).drew).setCell _ (Ei s.o.self) _) (λ_ _=>rfl);have r4:=z.1;clear z;generalize (((W3.setCell (p,3) (H+1:Int)).drew.setCell (p,3) (H+1+1:Int)))=W4 at *;go_wp2_with fail;obtain⟨q2,S,q4,q3,f7⟩:=d4.o;have q5:∀j,j∈(TT.pair l D B).nums->j∉a.nums:=λj h1 h2=>f7 j h2 h1;obtain⟨q6,q7,q8,q9,T⟩:=TT.dis q3;have N:k≠l:=by rintro rfl;exact S TT.mem_k
     have b9:=θ (yF J (k:=k) (l:=l) (x:=(TT.pair k a (.pair l D B)).nd) (y:=(TT.pair l D B).nd) (a:=a) (b:=D) (c:=B) G.1 rfl rfl rfl G.2.2.1 rfl rfl rfl G.2.1 G.2.2.2.1 G.2.2.2.2 N q2 (λd=>S (TT.mem_l d)) (λd=>S (TT.mem_r d)) (q5 _ TT.mem_k) q6 q7 (by
       obtain⟨U,g2⟩:=hs;simp only[TT.st,ST.bits,ST.high,aP3]at U g2;refine⟨?_,?_⟩<;>simp only[ST.bits,ST.high,aP3]<;>omega) hs.r.r)
     have H4:=θ J;have b6:=θ O;have HD:=θ hd;clear J O G S q2 q3 q4 q5 f7 q6 q7 q8 q9 T N m0 m1 r3 hd;refine b9.o.mono ?_;rintro e w7 ⟨rfl,d0,h7,g7,t7,Q,R⟩;have hb:bal (.pair a.st (TT.pair l D B).st)= .pair (.pair a.st D.st) B.st:=by
      have e1:(TT.pair l D B).st.high=a8:=b3.o;simp only[bal];rw[bc9 (by rw[e1,W.o];exact hr),bd0 (by rw[e1,W.o];exact hl),bc9 (by show ¬B.st.high<D.st.high;rw[M.o,V.o];exact HD.o)];rfl
     have H7:=θ h7;have G7:=θ g7;have T7:=θ t7;have K7:=θ Q;have L7:=θ R;have HB:=θ hb;clear h7 g7 t7 Q R hb;go_wp2_with fail;go_ret;refine⟨⟨.pair l (.pair k a D) B,d0,_,rfl,H7.o,T7.out,HB.o.symm,?_,?_,λj d=>?_,?_,by have :=X.o;omega,by have :=X.o;omega⟩,?_⟩
     ·rw[List.perm_iff_count];intro j;simp only[TT.nums,aM1,aM2];omega
     ·simp[TT.bl]
     ·have j1:j≠k:=λe=>d (e▸TT.mem_k);have j2:j≠l:=λe=>d (e▸TT.mem_r TT.mem_k);rw[K7.out j j1 j2,d6.o j j1]
     ·rw[L7.out,d7.o]
     ·exact b6.o.trans (H4.o.chgRow G7.out) (λ_ h=>Ei h)
  ·have u:decide ((a7:Int)-(a8:Int)< -1)=false:=bc0 E;have hb:bal (.pair a.st c.st)= .pair a.st c.st:=by
    simp only[bal];rw[bc9 (by rw[W.o,b3.o];exact hr),bc9 (by rw[W.o,b3.o];exact hl)]
   have HB:=θ hb;clear hb;go_wp2_with fail;go_ret;exact⟨⟨.pair k a c,xs1,_,rfl,s.o,b8.o,HB.o.symm,aK9 _,rfl,λj d=>d6.o j (λe=>d (e▸TT.mem_k)),d7.o,by have :=X.o;omega,by have :=X.o;omega⟩,d5.o⟩
theorem Tryz.infoNode:(prog.info? 221).map (λi=>(i.zero,i.size,i.bytes))=some (some (.agg #[.int .i64 0, .int .i64 0, .int .i64 0, .int .i64 0, .int .i64 0, .int .i64 0, .int .i64 0, .pointer none]),8,64):=Ek
theorem Ox{P:Program}{w:World}{o:Oper}{a:Act}{K:Act->World->Prop}{Q:Exit->Act->World->Prop}{J:TypeId}{m:List Value}(s x:Operand)(t:TypeId)(S:o.op= .call {callee:= .builtin .append,args:=#[s,x],argTypes:=#[t,t]})(c:Nat)(e:TypeId){z:Value}{b:Nat}(l:(P.info? e).map (λi=>(i.zero,i.size,i.bytes))=some (some z,8,b))(U:P.underlying t=some (.slice e))(I:z.cells.size=8)(v:Value)(n:Nat)(xs:List Value)(T:a.eval s=v)(r:w.ownsRow c e 8 v n xs)(V:a.eval x= .slice w 1 1)(X:m.length=8)(y:∀u∈m,u.oneCell'=true)(B:n+1<=maxLen)(f:(n+1)*b<=140737488355328)(D:c<=w)(h:∀g d w',w'.ownsRow c e 8 (.slice (some ⟨g,0,none⟩) (n+1) d) (n+1) (xs++m)->w.grownBy w' v.ownBlock->(v.ownBlock=some g\/w.heap.size<=g)->g<w'.heap.size->K (a.put o.dst (.slice g (n+1) d)) w'):Oper.wp P o a (w.alloc (.cells m.toArray J)) K Q:=by
 obtain⟨i,N,W,H,F⟩:=bd2 l;refine wp_append_lies (w.alloc (.cells m.toArray J)) s x t S c e i z 8 b U N W H F I E v n xs T (r.alloc _) (w,0) 1 1 m V E ?_ y E B f ?_ _ rfl ?_
 ·intro j u O;rw[aI7,aY0,bb8 _ _ j _ _ _ (bc6 w _),aO7,O]
 ·simp;omega
 ·intro g d w' y q L M;exact h g d w' y ⟨q.os,q.tape,q.output,by have :=q.size;simp at this;omega,λk R G=>by
   rw[q.block k (by simp;omega) G];exact aJ5 w _ k R⟩ (L.imp id (λh=>by simp at h;omega)) M
section
variable {w w':World}{p:Nat}{C:Nat->Prop}{A:Ar}{xs:List Nd}{root vis:Int}
theorem HStep.of_below {C:Nat->Prop}(h:Below w w w'):HStep w w' C C:=⟨Chg.of_below h,λk a=>Ei a⟩
theorem Head.see1 (h:Head w p C A xs root vis):∃a rc,w.cell? (p,1)=some (.slice a xs.length rc)/\w.ownsRow 0 221 8 (.slice a xs.length rc) xs.length (dI xs):=by
 obtain⟨e,d,a,rc,c,g,b,f⟩:=h.ex;exact⟨a,rc,by rw[bb8 w p 1 _ _ _ c];rfl,b⟩
theorem Head.grow (h:Head w p C A xs root vis){r:Option Addr}{rc:Nat}(m:w.cell? (p,1)=some (.slice r xs.length rc)){g cap:Nat}{x:Nd}(f:w'.ownsRow 0 221 8 (.slice g (xs.length+1) cap) (xs.length+1) (dI xs++x.cells))(J:w.grownBy w' (Value.slice r xs.length rc).ownBlock)(q:(Value.slice r xs.length rc).ownBlock=some g\/w<=g):∃D,Head (w'.setCell (p,1) (.slice g (xs.length+1) cap)) p D A (xs++[x]) root vis/\HStep w (w'.setCell (p,1) (.slice g (xs.length+1) cap)) C D:=by
 obtain⟨F,s,b,d,z,u,y,o⟩:=h.ex;have G:b=r/\d=rc:=by
  rw[bb8 w p 1 _ _ _ z]at m;have m:some (Value.slice b xs.length d)=some (.slice r xs.length rc):=m;injection m with m
  injection m with H _ I
  exact⟨H,I⟩
 obtain⟨rfl,rfl⟩:=G;have n:TypeAt w p 218:=⟨_,z⟩;have c:∀k,(Value.slice b xs.length d).ownBlock=some k↔b=some ⟨k,0,none⟩:=λk=>eZ (iU y);have l:∀k T,TypeAt w k T->T≠221->(Value.slice b xs.length d).ownBlock≠some k:=by
  intro k T a n e;rw[(c k).1 e]at y;exact(gH y).ne a (λe=>n e.symm) rfl
 have i:Chg (λk=>b=some ⟨k,0,none⟩) w w':=Chg.refl.grown J (λk a=>Ei ((c k).1 a));have B:=i.heap z (λe=>l p _ n Ed ((c p).2 e));have v:IsArena w' F s A:=u.chg i (λk a e=>by
  rcases u.types a with t | t | t<;>exact l k _ t Ed ((c k).2 e))
 have L:g≠p:=by
  rcases q with e | e
  ·rintro rfl;exact l _ _ n Ed e
  ·have :=n.lt;omega
 have K:TypeAt w' g 221:=gH f;have j:Chg (λk=>k=p) w' (w'.setCell (p,1) (.slice g (xs.length+1) cap)):=Chg.refl.setCell (S:=λk=>k=p) (p,1) (Ei rfl) _;refine⟨λk=>k=p\/s k\/(some ((g,0):Addr))=some ⟨k,0,none⟩,⟨F,s,some (g,0),cap,?_,v.chg j (λk a e=>?_),?_,λk=>Iff.rfl⟩,?_,λk a=>?_⟩
 ·have :=bc7 w' p 1 _ _ (.slice g (xs.length+1) cap) B;rw[aP3];exact this
 ·subst e;rcases u.types a with t | t | t<;>exact t.ne n Ed rfl
 ·rw[aP3,Tq,show dI [x]=x.cells by simp[dI]];exact j.own f (λk a e=>by
   simp[Value.ownBlock]at a
   omega)
 ·refine(i.mono (λk e=>(o k).2 (Ej (Ej e)))).trans j (λk e=>Ei (by subst e;exact(o _).2 (Ei rfl)))
 ·rcases a with rfl | a | a
  ·exact Ei ((o _).2 (Ei rfl))
  ·exact Ei ((o _).2 (Ej (Ei a)))
  ·injection a with a
   injection a with a _ _
   subst a;rcases q with e | e
   ·exact Ei ((o _).2 (Ej (Ej ((c _).1 e))))
   ·exact Ej e
end
theorem Nd.one (x:Nd):∀u∈x.cells,u.oneCell'=true:=by
 intro u a;simp only[Nd.cells,aR1,aS5,bd7]at a;rcases a with rfl | rfl | rfl | rfl | rfl | rfl | rfl | rfl<;>first | rfl | (unfold fO;rfl)
theorem Head.puts8 {w:World}{p:Nat}{C:Nat->Prop}{A:Ar}{xs:List Nd}{root vis:Int}(h:Head w p C A xs root vis){g n rc:Nat}(r:w.cell? (p,1)=some (.slice g n rc)){k:Nat}{a:Nd}(s:xs[k]? =some a)(x:Nd){pb:Option Addr}(d:fO x.b= .pointer pb):Head ((((((((w.setCell (g,k*8) x.left).setCell (g,k*8+1) x.right).setCell (g,k*8+2) x.height).setCell (g,k*8+3) x.n).setCell (g,k*8+4) x.ones).setCell (g,k*8+5) x.ln).setCell (g,k*8+6) x.lones).setCell (g,k*8+7) (.pointer pb)) p C A (xs.set k x) root vis/\Chg (λb=>b=g) w ((((((((w.setCell (g,k*8) x.left).setCell (g,k*8+1) x.right).setCell (g,k*8+2) x.height).setCell (g,k*8+3) x.n).setCell (g,k*8+4) x.ones).setCell (g,k*8+5) x.ln).setCell (g,k*8+6) x.lones).setCell (g,k*8+7) (.pointer pb)):=by
 rw[<-d];obtain⟨_,_,Q,_⟩:=h.node r s;have c:∀y:Nd,(xs.set k y)[k]? =some y:=λy=>by rw[aO5,bd0 rfl,bd0 Q]
 obtain⟨P,t,I⟩:=h.put r s (i:=0) (v:= .int .i64 x.left) (x':=⟨x.left,a.right,a.height,a.n,a.ones,a.ln,a.lones,a.b⟩) E rfl;obtain⟨e,u,J⟩:=P.put I (c _) (i:=1) (v:= .int .i64 x.right) (x':=⟨x.left,x.right,a.height,a.n,a.ones,a.ln,a.lones,a.b⟩) E rfl;rw[aT2]at e;obtain⟨f,z,K⟩:=e.put J (c _) (i:=2) (v:= .int .i64 x.height) (x':=⟨x.left,x.right,x.height,a.n,a.ones,a.ln,a.lones,a.b⟩) E rfl;rw[aT2]at f;obtain⟨j,B,L⟩:=f.put K (c _) (i:=3) (v:= .int .i64 x.n) (x':=⟨x.left,x.right,x.height,x.n,a.ones,a.ln,a.lones,a.b⟩) E rfl;rw[aT2]at j;obtain⟨l,D,M⟩:=j.put L (c _) (i:=4) (v:= .int .i64 x.ones) (x':=⟨x.left,x.right,x.height,x.n,x.ones,a.ln,a.lones,a.b⟩) E rfl;rw[aT2]at l;obtain⟨m,F,N⟩:=l.put M (c _) (i:=5) (v:= .int .i64 x.ln) (x':=⟨x.left,x.right,x.height,x.n,x.ones,x.ln,a.lones,a.b⟩) E rfl;rw[aT2]at m;obtain⟨o,G,O⟩:=m.put N (c _) (i:=6) (v:= .int .i64 x.lones) (x':=⟨x.left,x.right,x.height,x.n,x.ones,x.ln,x.lones,a.b⟩) E rfl;rw[aT2]at o;obtain⟨q,H,R⟩:=o.put O (c _) (i:=7) (v:=fO x.b) (x':=x) E rfl;rw[aT2]at q;exact⟨q,((((((t.trans u (λ_ h=>Ei h)).trans z (λ_ h=>Ei h)).trans B (λ_ h=>Ei h)).trans D (λ_ h=>Ei h)).trans F (λ_ h=>Ei h)).trans G (λ_ h=>Ei h)).trans H (λ_ h=>Ei h)⟩
structure NodePost (w w':World) (p:Nat) (C:Nat->Prop) (A:Ar) (xs:List Nd) (root vis:Int) (y:Nd) (e:Ending):Prop where
 ex:∃(k:Nat) (C':Nat->Prop) (A':Ar) (xs':List Nd),e= .returned k/\Head w' p C' A' xs' root vis/\HStep w w' C C'/\xs'.length=A'.T.length/\xs'[k]? =some y/\A.T[k]? ≠some true/\
  (∀j:Nat,A.T[j]? =some true->xs'[j]? =xs[j]? /\A'.T[j]? =some true)/\A'.T[k]? =some true/\A'.live=A.live+1/\A'.M=A.M/\(A.F=[]->A'.F=[])
def lF(x:Nd):Obj:= .cells x.cells.toArray 221
theorem ai0{w:World}{p:Nat}{C:Nat->Prop}{A:Ar}{xs:List Nd}{root vis:Int}(h:Head w p C A xs root vis)(D:xs.length=A.T.length)(i:A.live<A.M)(x y:Nd){k:Nat}(hk:A.F.getLast?=some k)(B:∀(a:World) (u:Nat->Prop) (t:List Nd),Head a p u (A.pop k) t root vis->HStep w a C u->t[k]? =some x->(∀j:Nat,A.T[j]? =some true->t[j]? =xs[j]?)->Calls prog 245 #[.pointer p,k] a λe w'=>e= .returned (.tuple #[])/\Head w' p u (A.pop k) (t.set k y) root vis/\Chg (RowB a p) a w'):Calls prog 248 #[.pointer p, .agg x.cells.toArray] w λe w'=>NodePost w w' p C A xs root vis y e:=by
 have h0:=h.below (aR w (lF x));obtain⟨ap,SA,p0,hA,H,l⟩:=h0.arena;have s:=hA.ok;have a9:=s.last_lt hk;have a0:A.T[k]? =some false:=(s.iff k).2 (List.mem_of_getLast? hk);have d:=θ (Bv hA E hk);have W:=θ l;have z:(w.alloc (lF x)).heap[w.heap.size]? =some (lF x):=bc6 w _;have a1:¬SA w:=λhs=>by have :=h.lt _ (H _ hs);omega
 have S:Hid (∀a A',ArStep (w.alloc (lF x)) a ap SA A'->a.heap[w.heap.size]? =some (lF x)):=λa A' ⟨_,_,hc,_⟩=>hc.heap z a1;have V:Hid (HStep w (w.alloc (lF x)) C C):=HStep.of_below (aR w _);have HF:=θ B;have HL:=θ D;have I:=θ a0;have a4:=θ s;have b8:k<xs.length:=E;have b9:=θ i;have HK:=θ hk;have U:Hid (∀j,C j->j<w.heap.size):=h.lt;clear h h0 hA H l z a1 B D a9 a0 s i hk;unfold lF at *;go_in;go_wp2_with fail;refine d.out.mono ?_;rintro e a ⟨rfl,P⟩;obtain⟨u,Y,s1⟩:=W.o _ _ P;have m:=S.o _ _ P;clear P d W S p0;obtain⟨g,rc,c0,r1,c4,Z,_⟩:=Y.row E;obtain⟨xk,c⟩:∃xk,xs[k]? =some xk:=⟨_,aO0 b8⟩;obtain⟨e0,e1,e2,e3,e4,e5,e6,e7⟩:=Y.eight r1 c;obtain⟨_,q,_⟩:=Y.node r1 c;have G:=V.o.trans s1;have c1:g≠w.heap.size:=by
  rcases s1.new g Z with e | e
  ·have :=U.o g e;omega
  ·simp at e;omega
 obtain⟨Q,N⟩:∃Q,fO x.b= .pointer Q:=⟨_,rfl⟩;obtain⟨pk,a2⟩:∃Q,fO xk.b= .pointer Q:=⟨_,rfl⟩;have b0:a.cell? w=x.left:=by rw[bb8 a _ 0 _ _ _ m];rfl
 have b1:a.cell? (w,1)=x.right:=by rw[bb8 a _ 1 _ _ _ m];rfl
 have b2:a.cell? (w,2)=x.height:=by rw[bb8 a _ 2 _ _ _ m];rfl
 have b3:a.cell? (w,3)=x.n:=by rw[bb8 a _ 3 _ _ _ m];rfl
 have b4:a.cell? (w,4)=x.ones:=by rw[bb8 a _ 4 _ _ _ m];rfl
 have b5:a.cell? (w,5)=x.ln:=by rw[bb8 a _ 5 _ _ _ m];rfl
 have b6:a.cell? (w,6)=x.lones:=by rw[bb8 a _ 6 _ _ _ m];rfl
 have b7:a.cell? (w,7)=some (.pointer Q):=by rw[bb8 a _ 7 _ _ _ m,<-N];rfl
 rw[a2]at e7;have z0:=q (k*8);have z1:=q (k*8+1);have z2:=q (k*8+2);have z3:=q (k*8+3);have z4:=q (k*8+4);have z5:=q (k*8+5);have z6:=q (k*8+6);have z7:=q (k*8+7);have H1:=θ Y;have a8:=θ G;have K:=θ c;have a5:=θ N;have dk:((k:Int)==(xs.length:Int))=false:=by rw[bb6];omega
 clear Y s1 m c q G N a2 V U Z;generalize w.heap.size=B0 at *;obtain⟨X,r⟩:∃X,X=((((((((a.setCell (g,k*8) x.left).setCell (g,k*8+1) x.right).setCell (g,k*8+2) x.height).setCell (g,k*8+3) x.n).setCell (g,k*8+4) x.ones).setCell (g,k*8+5) x.ln).setCell (g,k*8+6) x.lones).setCell (g,k*8+7) (.pointer Q)).drew:=⟨_,rfl⟩;have L:=H1.o.puts8 r1 K.o x a5.o;have h2:Head X p u (A.pop k) (xs.set k x) root vis:=by rw[r];exact L.1.drew
 have c2:Chg u a X:=by rw[r];exact(L.2.mono (λb e=>by subst e;exact H1.o.rowC ⟨_,_,r1⟩)).drew
 have O:=a8.out.trans ⟨c2,λj f=>Ei f⟩;have d:∀j:Nat,A.T[j]? =some true->j≠k:=by
  rintro j f rfl;have :=I.o;rw[f]at this;cases this
 have a3:=θ (HF.o X u (xs.set k x) h2 O (aY K.o) (λj f=>aH (d j f)));have a7:=θ r;have H2:=θ h2;have a6:=θ O;have J:=θ d;clear r L h2 c2 O d HF;go_wp2_with fail;refine aG (λw'=>w'.cell? (p,1)=some (.slice g xs.length rc)/\w'.cell? B0=x.left/\w'.cell? (B0,1)=x.right/\w'.cell? (B0,2)=x.height/\w'.cell? (B0,3)=x.n/\w'.cell? (B0,4)=x.ones/\w'.cell? (B0,5)=x.ln/\w'.cell? (B0,6)=x.lones/\w'.cell? (B0,7)=some (.pointer Q)) Ek ?hiq (λR=>?_);case hiq=>(refine⟨?_,?_,?_,?_,?_,?_,?_,?_,?_⟩<;>go_simp)
 refine rV 0 1 2 3 R ?_;refine rU 4 5 R ?_;refine rt 6 R ?_;refine rg 7 λκ hK=>?_;go_simp;refine hK.out _ _ ?kpq7 (λv=>?_);case kpq7=>(refine⟨?_,?_,?_,?_,?_,?_,?_,?_,?_⟩<;>go_simp)
 clear hK κ R;have R:=v;clear v;try simp only[pt]
 refine rz ?_;go_wp2_with fail;rw[<-a7.o];refine a3.o.mono ?_;rintro e w3 ⟨rfl,h3,c3⟩;have H3:=θ h3;have C3:=θ c3;clear h3 c3 R;go_wp2;go_ret;refine⟨⟨k,u,A.pop k,_,rfl,H3.o,a6.o.trans ⟨H2.o.chgRow C3.out,λj f=>Ei f⟩,?_,aY (aY K.o),?_,λj f=>⟨?_,?_⟩,?_,?_,rfl,λhF=>by first | exact hF | (show A.F.dropLast=[];rw[hF];rfl)⟩⟩
 ·rw[aQ0,aQ0,HL.o];simp[Ar.pop]
 ·rw[I.o];simp
 ·rw[aH (J.o j f),aH (J.o j f)]
 ·show (A.T.set k true)[j]? =some true;rw[aH (J.o j f)];exact f
 ·exact aY I.o
 ·have e1:=a4.o.fle;have e2:0<A.F.length:=List.length_pos_iff.2 (by intro e;have :=HK.o;rw[e]at this;cases this);show (A.T.set k true).length-A.F.dropLast.length=A.T.length-A.F.length+1;rw[aQ0,List.length_dropLast];omega
theorem Xg{w:World}{p:Nat}{C:Nat->Prop}{A:Ar}{xs:List Nd}{root vis:Int}(h:Head w p C A xs root vis)(s:xs.length=A.T.length)(G:A.live<A.M)(x y:Nd)(hk:A.F=[])(c1:A.T.length<=268435456)(S:∀(d:World) (W:Nat->Prop) (P:List Nd),Head d p W (A.more) P root vis->HStep w d C W->P[xs.length]? =some x->(∀j:Nat,A.T[j]? =some true->P[j]? =xs[j]?)->Calls prog 245 #[.pointer p,xs.length] d λe w'=>e= .returned (.tuple #[])/\Head w' p W (A.more) (P.set xs.length y) root vis/\Chg (RowB d p) d w'):Calls prog 248 #[.pointer p, .agg x.cells.toArray] w λe w'=>NodePost w w' p C A xs root vis y e:=by
 have h0:=h.below (aR w (lF x));obtain⟨ap,SA,p0,hA,V,I⟩:=h0.arena;have a8:=hA.ok;have B:=zD hA E hk;rw[<-s]at B;have a6:=θ B;have a5:=θ I;have R:(w.alloc (lF x)).heap[w.heap.size]? =some (lF x):=bc6 w _;have a7:¬SA w:=λhs=>by have :=h.lt _ (V _ hs);omega
 have a2:Hid (∀d A',ArStep (w.alloc (lF x)) d ap SA A'->d.heap[w.heap.size]? =some (lF x)):=λd A' ⟨_,_,hc,_⟩=>hc.heap R a7;have a4:Hid (HStep w (w.alloc (lF x)) C C):=HStep.of_below (aR w _);have HF:=θ S;have HL:=θ s;have c5:=θ a8;have c4:=θ G;have HK:=θ hk;have z:Hid (∀j,C j->j<w.heap.size):=h.lt;rw[<-s]at c1;clear h h0 hA V I R a7 S s a8 G hk B;unfold lF at *;go_in;go_wp2_with fail;refine a6.out.mono ?_;rintro e d ⟨rfl,a1⟩;obtain⟨W,N,s1⟩:=a5.o _ _ a1;have K:=a2.o _ _ a1;clear a1 a6 a5 a2 p0;obtain⟨ra,rc,r1,t⟩:=N.see1;have U:=a4.o.trans s1;have c0:w<d.heap.size:=(aJ2.1 K).1;have hp:=N.lt p N.self;have fz:=(N.cells).2.2.2 1;obtain⟨pb,O⟩:∃pb,fO x.b= .pointer pb:=⟨_,rfl⟩;have b0:d.cell? w=x.left:=by rw[bb8 d _ 0 _ _ _ K];rfl
 have b1:d.cell? (w,1)=x.right:=by rw[bb8 d _ 1 _ _ _ K];rfl
 have b2:d.cell? (w,2)=x.height:=by rw[bb8 d _ 2 _ _ _ K];rfl
 have b3:d.cell? (w,3)=x.n:=by rw[bb8 d _ 3 _ _ _ K];rfl
 have b4:d.cell? (w,4)=x.ones:=by rw[bb8 d _ 4 _ _ _ K];rfl
 have b5:d.cell? (w,5)=x.ln:=by rw[bb8 d _ 5 _ _ _ K];rfl
 have b6:d.cell? (w,6)=x.lones:=by rw[bb8 d _ 6 _ _ _ K];rfl
 have b7:d.cell? (w,7)=some (.pointer pb):=by rw[bb8 d _ 7 _ _ _ K,<-O];rfl
 have H1:=θ N;have b9:=θ U;have a3:=θ O;have HO:Hid (d.drew.ownsRow 0 221 8 (.slice ra xs.length rc) xs.length (dI xs)):=t;have Q:Hid (∀u∈[Value.int .i64 x.left, .int .i64 x.right, .int .i64 x.height, .int .i64 x.n, .int .i64 x.ones, .int .i64 x.ln, .int .i64 x.lones, .pointer pb],u.oneCell'=true):=by
  have h:=x.one;simp only[Nd.cells,O]at h;exact h
 have f:Hid (some p≠(Value.slice ra xs.length rc).ownBlock/\some w.heap.size≠(Value.slice ra xs.length rc).ownBlock):=by
  refine⟨λe=>?_,λe=>?_⟩
  ·exact N.rowNe ⟨_,_,by rw[r1,(eZ (iU t)).1 e.symm]⟩
  ·have :=N.rowC ⟨_,_,by rw[r1,(eZ (iU t)).1 e.symm]⟩;rcases s1.new _ this with e | e
   ·have :=z.o _ e;omega
   ·simp at e;omega
 have c2:¬p=w.heap.size:=by
  rcases s1.new p N.self with e | e
  ·have :=z.o p e;omega
  ·simp at e;omega
 clear N s1 K U O a4 z t;generalize w.heap.size=B0 at *;go_upto_region 3 with fail
 go_cut [5] (λv wx=>v= .int .i64 xs.length/\∃m,Head wx p m A.more (xs++[x]) root vis/\HStep d wx W m);case first=>
  refine aG (λw'=>w'.cell? B0=x.left/\w'.cell? (B0,1)=x.right/\w'.cell? (B0,2)=x.height/\w'.cell? (B0,3)=x.n/\w'.cell? (B0,4)=x.ones/\w'.cell? (B0,5)=x.ln/\w'.cell? (B0,6)=x.lones/\w'.cell? (B0,7)=some (.pointer pb)) Ek ?hia (λl=>?_);case hia=>(refine⟨?_,?_,?_,?_,?_,?_,?_,?_⟩<;>go_simp)
  refine rV 0 1 2 3 l ?_;refine rt 5 l ?_;refine be2 (rs:=[4,6]) Ek Es (iP rfl rfl (λr i=>?_) (iP rfl rfl (λr i=>?_) aI9))
  ·go_simp;refine i.out _ _ ?k1p (λc=>?_);case k1p=>(refine⟨?_,?_,?_,?_,?_,?_,?_,?_⟩<;>go_simp)
   clear i r l;have l:=c;clear c;try simp only[pt]
   refine rg 6 λr i=>?_;go_simp;refine i.out _ _ ?k2p (λc=>?_);case k2p=>(refine⟨?_,?_,?_,?_,?_,?_,?_,?_⟩<;>go_simp)
   clear i r l;have l:=c;clear c;try simp only[pt]
   refine rg 7 λr i=>?_;refine Ox (w:=d.drew) _ _ 216 rfl 0 221 Tryz.infoNode Tryz.underlying216 rfl _ _ _ rfl HO.o rfl rfl Q.o (by unfold maxLen;omega) E (aY1 _) ?_;intro g q J k a H Y;have u1:J.cell? (p,1)=some (.slice ra xs.length rc):=a.cell (w:=d.drew) r1 f.o.1;have u2:J.frozen? (p,1)=false:=(World.frozen?_of_block (a.block p hp f.o.1)).trans fz;have v0:=a.cell (w:=d.drew) b0 f.o.2;have v1:=a.cell (w:=d.drew) b1 f.o.2;have v2:=a.cell (w:=d.drew) b2 f.o.2;have v3:=a.cell (w:=d.drew) b3 f.o.2;have v4:=a.cell (w:=d.drew) b4 f.o.2;have v5:=a.cell (w:=d.drew) b5 f.o.2;have v6:=a.cell (w:=d.drew) b6 f.o.2;have v7:=a.cell (w:=d.drew) b7 f.o.2;have D:∃m,Head (J.setCell (p,1) (.slice g (xs.length+1) q)) p m A.more (xs++[x]) root vis/\HStep d (J.setCell (p,1) (.slice g (xs.length+1) q)) W m:=by
    obtain⟨m,q1,q2⟩:=H1.o.drew.grow (x:=x) (w':=J) (g:=g) (cap:=q) r1 (by rw[show x.cells=[Value.int .i64 x.left, .int .i64 x.right, .int .i64 x.height, .int .i64 x.n, .int .i64 x.ones, .int .i64 x.ln, .int .i64 x.lones, .pointer pb] by simp only[Nd.cells,a3.o]];exact k) a H;exact⟨m,q1,⟨(Chg.refl.drew).trans q2.chg (λb hb=>Ei hb),q2.new⟩⟩
   have X:=θ D;clear D k a H Y;refine i.out _ _ ?k3p (λc=>?_);case k3p=>exact⟨v0,v1,v2,v3,v4,v5,v6,v7⟩
   clear i r l;have l:=c;clear c;try simp only[pt]
   refine rU 8 9 l ?_;refine rg 10 λr i=>?_;go_simp;refine i.out _ _ ?k4p (λc=>?_);case k4p=>(refine⟨?_,?_,?_,?_,?_,?_,?_,?_⟩<;>go_simp)
   clear i r l;have l:=c;clear c;try simp only[pt]
   refine rz ?_;go_wp2_with fail;go_meet;case rel=>exact⟨rfl,X.o⟩
  ·go_simp;refine i.out _ _ ?k1q (λc=>?_);case k1q=>(refine⟨?_,?_,?_,?_,?_,?_,?_,?_⟩<;>go_simp)
   clear i r l;have l:=c;clear c;try simp only[pt]
   refine rg 4 λr i=>?_;go_simp;refine i.out _ _ ?k2q (λc=>?_);case k2q=>(refine⟨?_,?_,?_,?_,?_,?_,?_,?_⟩<;>go_simp)
   clear i r l;have l:=c;clear c;try simp only[pt]
   refine rg 7 λr i=>?_;refine Ox (w:=d.drew) _ _ 216 rfl 0 221 Tryz.infoNode Tryz.underlying216 rfl _ _ _ rfl HO.o rfl rfl Q.o (by unfold maxLen;omega) E (aY1 _) ?_;intro g q J k a H Y;have u1:J.cell? (p,1)=some (.slice ra xs.length rc):=a.cell (w:=d.drew) r1 f.o.1;have u2:J.frozen? (p,1)=false:=(World.frozen?_of_block (a.block p hp f.o.1)).trans fz;have v0:=a.cell (w:=d.drew) b0 f.o.2;have v1:=a.cell (w:=d.drew) b1 f.o.2;have v2:=a.cell (w:=d.drew) b2 f.o.2;have v3:=a.cell (w:=d.drew) b3 f.o.2;have v4:=a.cell (w:=d.drew) b4 f.o.2;have v5:=a.cell (w:=d.drew) b5 f.o.2;have v6:=a.cell (w:=d.drew) b6 f.o.2;have v7:=a.cell (w:=d.drew) b7 f.o.2;have D:∃m,Head (J.setCell (p,1) (.slice g (xs.length+1) q)) p m A.more (xs++[x]) root vis/\HStep d (J.setCell (p,1) (.slice g (xs.length+1) q)) W m:=by
    obtain⟨m,q1,q2⟩:=H1.o.drew.grow (x:=x) (w':=J) (g:=g) (cap:=q) r1 (by rw[show x.cells=[Value.int .i64 x.left, .int .i64 x.right, .int .i64 x.height, .int .i64 x.n, .int .i64 x.ones, .int .i64 x.ln, .int .i64 x.lones, .pointer pb] by simp only[Nd.cells,a3.o]];exact k) a H;exact⟨m,q1,⟨(Chg.refl.drew).trans q2.chg (λb hb=>Ei hb),q2.new⟩⟩
   have X:=θ D;clear D k a H Y;refine i.out _ _ ?k3q (λc=>?_);case k3q=>exact⟨v0,v1,v2,v3,v4,v5,v6,v7⟩
   clear i r l;have l:=c;clear c;try simp only[pt]
   refine rU 8 9 l ?_;refine rg 10 λr i=>?_;go_simp;refine i.out _ _ ?k4q (λc=>?_);case k4q=>(refine⟨?_,?_,?_,?_,?_,?_,?_,?_⟩<;>go_simp)
   clear i r l;have l:=c;clear c;try simp only[pt]
   refine rz ?_;go_wp2_with fail;go_meet;case rel=>exact⟨rfl,X.o⟩
 case rest=>
  obtain⟨rfl,m,h2,s2⟩:=hcut;have a0:=b9.out.trans s2;have Z:∀j:Nat,A.T[j]? =some true->j<xs.length:=λj L=>by rw[HL.o];exact(aO2.1 L).1
  have z:=θ Z;have a9:=θ (HF.o wc m (xs++[x]) h2 a0 Es (λj L=>aN6 (Z j L)));have H2:=θ h2;have b8:=θ a0;clear h2 s2 a0 HF Z b0 b1 b2 b3 b4 b5 b6 b7 c0 c2 r1 hp fz;go_wp2_with fail;refine a9.o.mono ?_;rintro e w3 ⟨rfl,h3,c3⟩;have H3:=θ h3;have C3:=θ c3;clear h3 c3;go_wp2;go_ret;refine⟨⟨xs.length,m,A.more,_,rfl,H3.o,b8.o.trans ⟨H2.o.chgRow C3.out,λj L=>Ei L⟩,?_,aY (x:=x) Es,?_,λj L=>⟨?_,?_⟩,?_,?_,rfl,λhF=>by first | exact hF | (show A.F.dropLast=[];rw[hF];rfl)⟩⟩
  ·rw[aQ0,aP3,HL.o];simp[Ar.more]
  ·rw[aO1 (by rw[HL.o];exact aV3 _)];simp
  ·rw[aH (by have :=z.o j L;omega),aN6 (z.o j L)]
  ·show (A.T++[true])[j]? =some true;rw[aN6 (aO2.1 L).1];exact L
  ·show (A.T++[true])[xs.length]? =some true;rw[HL.o];simp
  ·have e2:=HK.o;show (A.T++[true]).length-A.F.length=A.T.length-A.F.length+1;rw[e2];simp
theorem Ar.Ok.live_len {a:Ar}(h:a.Ok):a.T.length<=268435456:=aV4 h.le h.max
theorem Head.arOk {w:World}{p:Nat}{C:Nat->Prop}{A:Ar}{d:List Nd}{a b:Int}(h:Head w p C A d a b):A.Ok:=by
 obtain⟨f,e,_,c,_,_⟩:=h.arena;exact c.ok
theorem Io{w:World}{p:Nat}{C:Nat->Prop}{A:Ar}{r:List Nd}{g l:Int}(h:Head w p C A r g l)(o:r.length=A.T.length)(i:A.live<A.M)(x y:Nd)(n:∀(m:World) (q:Nat->Prop) (t:Ar) (f:List Nd) (k:Nat),Head m p q t f g l->HStep w m C q->f[k]? =some x->(∀j:Nat,A.T[j]? =some true->f[j]? =r[j]?)->Calls prog 245 #[.pointer p,k] m λe s=>e= .returned (.tuple #[])/\Head s p q t (f.set k y) g l/\Chg (RowB m p) m s):Calls prog 248 #[.pointer p, .agg x.cells.toArray] w λe s=>NodePost w s p C A r g l y e:=by
 cases hF:A.F.getLast? with
 | some k=>exact ai0 h o i x y hF (λm q f a b c d=>n m q _ f k a b c d)
 | none=>exact Xg h o i x y (List.getLast?_eq_none_iff.1 hF) h.arOk.live_len (λm q f a b c d=>n m q _ f r.length a b c d)
theorem rN{w:World}{p:Nat}{C:Nat->Prop}{A:Ar}{j:List Nd}{d f:Int}(h:Head w p C A j d f)(b:j.length=A.T.length)(a:A.live<A.M){q:Nat}{l:List Bool}(g:IsBlock w q l):Calls prog 236 #[.pointer p, .pointer q] w λe r=>NodePost w r p C A j d f (TT.leaf 0 q l).nd e:=by
 have u:=θ (Io h b a ⟨-1,-1,0,0,0,0,0,some q⟩ (TT.leaf 0 q l).nd (λB G F D k x z y _=>by
  have i:IsBlock B q l:=g.chg z.chg (h.notBlk g.type)
  exact gY x y rfl i))
 clear h b a g;go_in;go_wp2_with fail;refine u.o.mono ?_;rintro e r n;obtain⟨k,t,s,m,rfl,c⟩:=n.ex;have v:=θ c;clear c n;go_wp2;go_ret;exact⟨⟨k,t,s,m,rfl,v.o⟩⟩
theorem yE{w:World}{p:Nat}{C:Nat->Prop}{A:Ar}{q:List Nd}{i n:Int}(h:Head w p C A q i n)(f:q.length=A.T.length)(d:A.live<A.M){a b:TT}(y:Sub w q a)(z:Sub w q b)(F:∀j∈a.nums,A.T[j]? =some true)(G:∀j∈b.nums,A.T[j]? =some true)(B:Small a.st)(D:Small b.st):Calls prog 241 #[.pointer p,a.num,b.num] w λe H=>NodePost w H p C A q i n (TT.pair 0 a b).nd e:=by
 have t:=θ (Io h f d ⟨a.num,b.num,0,0,0,0,0,none⟩ (TT.pair 0 a b).nd (λU S R Q k L v N c=>
  kY (k:=k) L N rfl rfl rfl (y.chgC h v.chg (λj r=>c j (F j r))) (z.chgC h v.chg (λj r=>c j (G j r))) B D))
 obtain⟨O,l⟩:=Ey a.num;obtain⟨P,m⟩:=Ey b.num;have u:Hid ((⟨a.num,b.num,0,0,0,0,0,none⟩:Nd)=⟨O,P,0,0,0,0,0,none⟩):=by rw[l,m];rfl
 rw[u.o]at t;rw[l,m];clear h f d y z F G B D l m u;go_in;go_wp2_with fail;refine t.o.mono ?_;rintro e H x;obtain⟨k,J,I,s,rfl,g⟩:=x.ex;have K:=θ g;clear g x;go_wp2;go_ret;exact⟨⟨k,J,I,s,rfl,K.o⟩⟩
structure Own (A:Ar) (T:TT):Prop where
 nn:T.nums.Nodup
 bn:T.bl.Nodup
 tk:∀j∈T.nums,A.T[j]? =some true
theorem Own.l {A:Ar}{k:Nat}{a b:TT}(h:Own A (.pair k a b)):Own A a:=by
 obtain⟨_,_,c,_,_⟩:=TT.dis h.nn;have :=h.bn;simp only[TT.bl,aS1]at this;exact⟨c,this.1,λj d=>h.tk j (TT.mem_l d)⟩
theorem Own.r {A:Ar}{k:Nat}{a b:TT}(h:Own A (.pair k a b)):Own A b:=by
 obtain⟨_,_,_,c,_⟩:=TT.dis h.nn;have :=h.bn;simp only[TT.bl,aS1]at this;exact⟨c,this.2.1,λj d=>h.tk j (TT.mem_r d)⟩
structure SubPost (w w':World) (p:Nat) (C:Nat->Prop) (A:Ar) (xs:List Nd) (root vis:Int) (T T':TT) (C':Nat->Prop) (A':Ar) (xs':List Nd) (v':Int):Prop where
 head:Head w' p C' A' xs' root v'
 sub:Sub w' xs' T'
 own:Own A' T'
 len:xs'.length=A'.T.length
 newC:∀j,C' j->C j\/w.heap.size<=j
 newB:∀q∈T'.bl,q∈T.bl\/w<=q
 keep:∀j:Nat,A.T[j]? =some true->j∉T.nums->xs'[j]? =xs[j]? /\A'.T[j]? =some true/\j∉T'.nums
 live:A'.live+T.st.size=A.live+T'.st.size
 max:A'.M=A.M
 vis:vis<=v'/\v'<=vis+7*T.st.high+2
 chg:Chg (λj=>C j\/j∈T.bl) w w'
def yK(w w':World)(p:Nat)(C:Nat->Prop)(A:Ar)(xs:List Nd)(root vis:Int)(T:TT)(k:Nat)(b:Bool)(e:Ending):Prop:=
 ∃T' C' A' xs' v',e= .returned (.int .i64 T'.num)/\SubPost w w' p C A xs root vis T T' C' A' xs' v'/\T'.st=dK T.st k b
theorem ag6{w:World}{p:Nat}{C:Nat->Prop}{A:Ar}{s:List Nd}{c a:Int}(h:Head w p C A s c a)(f:s.length=A.T.length)(b1:0<=a)(hv:a<=100000000000){i q:Nat}{l:List Bool}(F:Sub w s (.leaf i q l))(R:Own A (.leaf i q l))(hl:l.length<128)(k:Nat)(hk:k<=l.length)(b:Bool):Calls prog 237 #[.pointer p,i,k, .bool b] w λe w'=>yK w w' p C A s c a (.leaf i q l) k b e:=by
 have r:=F.root;change s[i]? =some (TT.leaf i q l).nd at r;obtain⟨g,rc,a8,L,a9,_⟩:=h.row (by have :=(aO2.1 r).1;omega);obtain⟨_,_,b0,_⟩:=h.node L r;obtain⟨K,Y,Z,a3,a4,a5,a6,a7⟩:=h.eight L r;obtain⟨_,_,cv,M⟩:=h.cells;have f3:=M 3;have hp:=h.lt p h.self;have hg:=ba8 w _ K;simp only[TT.nd,fO,aY6]at K Y Z a3 a4 a5 a6 a7;have G:=F.2;have n:¬C q:=h.notBlk G.type;have I:Hid (∀v o,IsBlock ((w.setCell (p,3) v).alloc o) q l):=λv o=>G.chg ((Chg.refl.setCell (p,3) (Ei h.self) v).alloc o) n;have x:Hid (∀o,Head ((w.setCell (p,3) (a+1:Int)).alloc o) p C A s c (a+1)):=λo=>(h.set3 (a+1)).below (aR _ _);have W:Hid (∀o,Chg C w ((w.setCell (p,3) (a+1:Int)).alloc o)):=λo=>(h.chg3 _ 3).alloc o;have d1:((l.length:Int)==128)=false:=by rw[bb6];omega
 have J:=θ r;have z:=θ n;have y:=θ R;have X:=θ f;clear h M r F G n R f;go_in;go_wp2_with fail;refine Cq (Ca (I.o _ _)) ?_;go_wp2_with fail;refine(vV (I.o _ _) hl k hk b).mono ?_;rintro e w3 ⟨rfl,m,B⟩;have D:=(x.o _).chg B (λj d e=>z.o (e▸d));have N:Chg (λj=>C j\/j∈(TT.leaf i q l).bl) w w3:=((W.o _).mono (λj d=>Ei d)).trans B (λj e=>Ei (Ej (by simp[TT.bl,e])));have V:=θ (gY D J.o rfl m);have u:=θ D;have S:=θ N;have t:=θ m;clear D N m B;go_wp2_with fail;refine V.o.mono ?_;rintro e w4 ⟨rfl,Q,O⟩;have U:=θ Q;have H:=θ O;clear Q O;go_wp2;go_ret;refine⟨.leaf i q (inL l k b),C,A,_,_,rfl,⟨U.o,⟨aY J.o,?_⟩,⟨y.o.nn,y.o.bn,y.o.tk⟩,?_,λj d=>Ei d,λj d=>Ei d,λj h1 P=>⟨?_,h1,P⟩,rfl,rfl,?_,?_⟩,?_⟩
 ·exact t.o.chg (u.o.chgRow H.out) (u.o.notBlk t.o.type)
 ·rw[aQ0];exact X.o
 ·exact aH (by rintro rfl;exact P (by simp[TT.nums]))
 ·exact⟨E,by simp only[TT.st,ST.high];omega⟩
 ·exact S.out.trans (u.o.chgRow H.out) (λj d=>Ei (Ei d))
 ·simp only[TT.st,dK];rw[bc9 E]
theorem Xe{w:World}{p:Nat}{C:Nat->Prop}{A:Ar}{u:List Nd}{x t:Int}(h:Head w p C A u x t)(b6:u.length=A.T.length)(g7:0<=t)(hv:t<=100000000000){c q:Nat}{l:List Bool}(hS:Sub w u (.leaf c q l))(hO:Own A (.leaf c q l))(hl:l.length=128)(e5:A.live+2<=A.M)(k:Nat)(hk:k<=128)(b:Bool):Calls prog 237 #[.pointer p,c,k, .bool b] w λe w'=>yK w w' p C A u x t (.leaf c q l) k b e:=by
 have hx:=hS.root;change u[c]? =some (TT.leaf c q l).nd at hx;obtain⟨g,rc,g0,c1,g1,_⟩:=h.row (by have :=(aO2.1 hx).1;omega);obtain⟨_,_,g4,_⟩:=h.node c1 hx;obtain⟨a0,a1,a2,a3,a4,a5,a6,a7⟩:=h.eight c1 hx;obtain⟨_,_,cv,fz⟩:=h.cells;have f3:=fz 3;have hp:=h.lt p h.self;have hg:=ba8 w _ a0;simp only[TT.nd,fO,aY6]at a0 a1 a2 a3 a4 a5 a6 a7;have hq:=hS.2;have d5:¬C q:=h.notBlk hq.type;have HW:Hid (∀v o,IsBlock ((w.setCell (p,3) v).alloc o) q l):=λv o=>hq.chg ((Chg.refl.setCell (p,3) (Ei h.self) v).alloc o) d5;have d8:Hid (∀o,Head ((w.setCell (p,3) (t+1:Int)).alloc o) p C A u x (t+1)):=λo=>(h.set3 (t+1)).below (aR _ _);have HG:Hid (∀o,Chg C w ((w.setCell (p,3) (t+1:Int)).alloc o)):=λo=>(h.chg3 _ 3).alloc o;have d1:((l.length:Int)==128)=true:=by rw[bb7];omega
 have HX:=θ hx;have c5:=θ d5;have HO:=θ hO;have HL:=θ b6;have b2:=θ e5;have e7:=θ hq.lt;have f1:¬w.heap.size=q:=by have :=hq.lt;omega
 clear h fz hx hS hq d5 hO b6 e5;go_in;go_wp2_with fail;refine Cq (Ca (HW.o _ _)) ?_;go_wp2_with fail;refine(ak4 (HW.o _ _)).mono ?_;rintro e w3 ⟨K,rfl,e6,n,d,c3⟩;rw[hl]at n d;have x7:w3.cell? (w,7)=some (.pointer q):=c3.cell (p:=(w,7)) (by go_simp) f1;have h3:=(d8.o _).chg c3 (λj a e=>c5.o (e▸a));have g3:Chg (λj=>C j\/j∈(TT.leaf c q l).bl) w w3:=((HG.o _).mono (λj a=>Ei a)).trans c3 (λj e=>Ei (Ej (by simp[TT.bl,e])));have b7:w<=K:=by simp at e6;omega
 have b4:=θ b7;have b3:Hid (q≠K):=by have :=e7.o;show q≠K;omega
 have H3:=θ h3;have G3:=θ g3;have e4:(l.take (128/2)).length=64:=by rw[aQ1];omega
 have f2:(l.drop (128/2)).length=64:=by rw[aP5];omega
 obtain⟨r,U⟩:∃r,r=l.take (128/2):=⟨_,rfl⟩;obtain⟨hi,R⟩:∃hi,hi=l.drop (128/2):=⟨_,rfl⟩;rw[<-U]at d e4;rw[<-R]at n f2;have b5:Hid (r=l.take 64/\hi=l.drop 64):=⟨U,R⟩;clear U R;have b9:=θ d;have b1:=θ n;obtain⟨v1,d6⟩:∃v1,v1=t+1:=⟨_,rfl⟩;have d9:=θ d6;rw[<-d6]at H3;have b8:0<=v1/\v1<=200000000000:=E;obtain⟨b8,f8⟩:=b8;clear h3 g3 d n c3 e6 b7 d8 HG HW a0 a1 a2 a3 a4 a5 a6 a7 c1 d6 d1;go_wp2_with fail;refine Cq (Ca b9.o) ?_;rw[e4];by_cases g2:64<k
 ·have d2:decide ((64:Int)<(k:Int))=true:=bc2 E;have e9:decide (64<k)=true:=bc2 E;obtain⟨k',e0⟩:∃k',k=64+k':=⟨k-64,E⟩;have f9:=θ e0;subst e0;go_wp2_with fail;rw[show (64+(k':Int)-64)=(k':Int) by omega];refine(vV b1.o E k' E b).mono ?_;rintro e w4 ⟨rfl,n,B⟩;have d:=b9.o.chg B (λe=>b3.o e);have c4:Chg (λj=>j=q\/j=K) w3 w4:=B.mono (λj e=>Ej e);clear B;have h4:=H3.o.chg c4 (λj a e=>e.elim (λe=>c5.o (e▸a)) (λe=>H3.o.notBlk b1.o.type (e▸a)));have HF:=θ (gY h4 HX.o rfl d);have H4:=θ h4;have G4:=θ c4;have N:=θ d;have L:=θ n;clear h4 c4 d n x7;go_wp2_with fail;refine HF.o.mono ?_;rintro e w5 ⟨rfl,D,g5⟩;change Head w5 p C A (u.set c (TT.leaf c q r).nd) x v1 at D;have s:=H4.o.chgRow g5;have H:=N.o.chg s (H4.o.notBlk N.o.type);have F:=L.o.chg s (H4.o.notBlk L.o.type);have a9:(u.set c (TT.leaf c q r).nd)[c]? =some (TT.leaf c q r).nd:=aY HX.o;have V:∀j:Nat,j≠c->(u.set c (TT.leaf c q r).nd)[j]? =u[j]? :=λj a=>aH a;have X:(u.set c (TT.leaf c q r).nd).length=A.T.length:=by rw[aQ0];exact HL.o
  generalize u.set c (TT.leaf c q r).nd=xs5 at *;obtain⟨_,_,e8,O⟩:=D.cells;have f0:=O 3;have h6:=D.set3 (v1+1);have g6:=D.chg3 (v1+1:Int) 3;have Y:=H.chg g6 (D.notBlk H.type);have G:=F.chg g6 (D.notBlk F.type);have c0:=θ (rN h6 X (by have :=b2.o;omega) G);have H6:=θ h6;have G6:=θ (s.trans g6 (λj a=>Ei a));have z:=θ Y;have y:=θ G;have d3:=θ a9;have c6:=θ V;clear O D g5 s H F a9 V X h6 g6 Y G;go_wp2_with fail;refine c0.o.mono ?_;rintro e w7 Q;obtain⟨J,C7,A7,b0,rfl,h7,s7,l7,x7,n7,i,t7,Z,m7,_⟩:=Q.ex;have m:=HO.o.tk c (by simp[TT.nums]);have sa:Sub w7 b0 (.leaf c q r):=⟨(i c m).1.trans d3.out,z.out.chg s7.chg (H6.o.notBlk z.out.type)⟩;have sb:Sub w7 b0 (.leaf J K (inL hi k' b)):=⟨x7,y.o.chg s7.chg (H6.o.notBlk y.o.type)⟩;have ta:∀j∈(TT.leaf c q r).nums,A7.T[j]? =some true:=by
   intro j a;simp[TT.nums]at a;subst a;exact(i _ m).2
  have tb:∀j∈(TT.leaf J K (inL hi k' b)).nums,A7.T[j]? =some true:=by
   intro j a;simp[TT.nums]at a;subst a;exact t7
  have c2:=θ (yE h7 l7 (by have :=b2.o;omega) sa sb ta tb ⟨by have :=z.out.1;simp only[TT.st,ST.bits];omega,by simp[TT.st,ST.high]⟩ ⟨by have :=y.o.1;simp only[TT.st,ST.bits];omega,by simp[TT.st,ST.high]⟩);have H7:=θ h7;have S7:=θ s7;have SA:=θ sa;have SB:=θ sb;have N7:=θ n7;have c7:=θ i;have I:Hid (A7.T[c]? =some true/\A7.T[J]? =some true):=⟨(i _ m).2,t7⟩;have c8:=θ Z;have M7:=θ m7;have d0:=θ m;clear Q h7 s7 l7 x7 n7 i t7 Z m7 m sa sb ta tb;go_wp2_with fail;refine c2.o.mono ?_;rintro e w8 Q;obtain⟨k3,C8,A8,d7,rfl,h8,s8,l8,x8,n8,W,t8,a8,m8,_⟩:=Q.ex;have H8:=θ h8;have S8:=θ s8;have L8:=θ l8;have X8:=θ x8;have N8:=θ n8;have f:=θ W;have T8:=θ t8;have c9:=θ a8;have M8:=θ m8;clear Q h8 s8 l8 x8 n8 W t8 a8 m8;go_wp2;go_ret;have d4:q≠K:=b3.o;have e1:c≠J:=by rintro rfl;exact N7.out d0.out
  have e2:k3≠c:=by rintro rfl;exact N8.out I.out.1
  have e3:k3≠J:=by rintro rfl;exact N8.out I.out.2
  have P:Chg (λj=>C j\/j∈(TT.leaf c q l).bl) w w7:=((G3.out.trans G4.out (λj e=>by
   rcases e with e | e
   ·exact Ei (Ej (by simp[TT.bl,e]))
   ·subst e;exact Ej b4.o)).trans G6.out (λj a=>Ei (Ei a))).trans S7.out.chg (λj a=>Ei (Ei a))
  have f4:=G3.out.size;have f5:=G4.out.size;have f6:=G6.out.size;have f7:=S7.out.chg.size;refine⟨.pair k3 (.leaf c q r) (.leaf J K (inL hi k' b)),C8,A8,d7,_,rfl,⟨H8.o,⟨X8.out,?_,?_⟩,⟨?_,?_,?_⟩,L8.out,λj a=>?_,λj a=>?_,λj h1 h2=>?_,?_,?_,?_,?_⟩,?_⟩
  ·exact SA.out.chgC H7.o S8.out.chg (λj a=>by simp[TT.nums]at a;subst a;exact(f.out _ I.out.1).1)
  ·exact SB.out.chgC H7.o S8.out.chg (λj a=>by simp[TT.nums]at a;subst a;exact(f.out _ I.out.2).1)
  ·simp[TT.nums,e1,e2,e3]
  ·simp[TT.bl,d4]
  ·intro j a;simp[TT.nums]at a;rcases a with rfl | rfl | rfl
   ·exact T8.out
   ·exact(f.out _ I.out.1).2
   ·exact(f.out _ I.out.2).2
  ·rcases S8.out.new j a with h | h
   ·rcases S7.out.new j h with h | h
    ·exact Ei h
    ·right;omega
   ·right;omega
  ·simp[TT.bl]at a;rcases a with rfl | rfl
   ·exact Ei (by simp[TT.bl])
   ·exact Ej b4.o
  ·have S:j≠c:=by rintro rfl;exact h2 (by simp[TT.nums])
   have k7:=c7.out j h1;have k8:=f.out j k7.2;refine⟨k8.1.trans (k7.1.trans (c6.out j S)),k8.2,?_⟩;simp only[TT.nums,aR1,aL4,aS0,aS5,bd7];rintro(rfl | rfl | rfl)
   ·exact N8.out k7.2
   ·exact S rfl
   ·exact N7.out h1
  ·have :=c8.out;have :=c9.out;simp only[TT.st,ST.size];omega
  ·exact M8.out.trans M7.out
  ·have :=d9.o;exact⟨E,by simp only[TT.st,ST.high];omega⟩
  ·exact P.trans S8.out.chg (λj a=>(S7.out.new j a).elim (λh=>Ei (Ei h)) (λh=>Ej E))
  ·simp only[TT.st,dK];rw[bd0 hl,bd0 E,b5.o.1,b5.o.2,aU6]
 ·have d2:decide ((64:Int)<(k:Int))=false:=bc0 E;have e9:decide (64<k)=false:=bc0 E;go_wp2_with fail;refine(vV b9.o E k E b).mono ?_;rintro e w4 ⟨rfl,d,B⟩;have n:=b1.o.chg B (λe=>b3.o e.symm);have c4:Chg (λj=>j=q\/j=K) w3 w4:=B.mono (λj e=>Ei e);clear B;have h4:=H3.o.chg c4 (λj a e=>e.elim (λe=>c5.o (e▸a)) (λe=>H3.o.notBlk b1.o.type (e▸a)));have HF:=θ (gY h4 HX.o rfl d);have H4:=θ h4;have G4:=θ c4;have N:=θ d;have L:=θ n;clear h4 c4 d n x7;go_wp2_with fail;refine HF.o.mono ?_;rintro e w5 ⟨rfl,D,g5⟩;change Head w5 p C A (u.set c (TT.leaf c q (inL r k b)).nd) x v1 at D;have s:=H4.o.chgRow g5;have H:=N.o.chg s (H4.o.notBlk N.o.type);have F:=L.o.chg s (H4.o.notBlk L.o.type);have a9:(u.set c (TT.leaf c q (inL r k b)).nd)[c]? =some (TT.leaf c q (inL r k b)).nd:=aY HX.o;have V:∀j:Nat,j≠c->(u.set c (TT.leaf c q (inL r k b)).nd)[j]? =u[j]? :=λj a=>aH a;have X:(u.set c (TT.leaf c q (inL r k b)).nd).length=A.T.length:=by rw[aQ0];exact HL.o
  generalize u.set c (TT.leaf c q (inL r k b)).nd=xs5 at *;obtain⟨_,_,e8,O⟩:=D.cells;have f0:=O 3;have h6:=D.set3 (v1+1);have g6:=D.chg3 (v1+1:Int) 3;have Y:=H.chg g6 (D.notBlk H.type);have G:=F.chg g6 (D.notBlk F.type);have c0:=θ (rN h6 X (by have :=b2.o;omega) G);have H6:=θ h6;have G6:=θ (s.trans g6 (λj a=>Ei a));have z:=θ Y;have y:=θ G;have d3:=θ a9;have c6:=θ V;clear O D g5 s H F a9 V X h6 g6 Y G;go_wp2_with fail;refine c0.o.mono ?_;rintro e w7 Q;obtain⟨J,C7,A7,b0,rfl,h7,s7,l7,x7,n7,i,t7,Z,m7,_⟩:=Q.ex;have m:=HO.o.tk c (by simp[TT.nums]);have sa:Sub w7 b0 (.leaf c q (inL r k b)):=⟨(i c m).1.trans d3.out,z.out.chg s7.chg (H6.o.notBlk z.out.type)⟩;have sb:Sub w7 b0 (.leaf J K hi):=⟨x7,y.o.chg s7.chg (H6.o.notBlk y.o.type)⟩;have ta:∀j∈(TT.leaf c q (inL r k b)).nums,A7.T[j]? =some true:=by
   intro j a;simp[TT.nums]at a;subst a;exact(i _ m).2
  have tb:∀j∈(TT.leaf J K hi).nums,A7.T[j]? =some true:=by
   intro j a;simp[TT.nums]at a;subst a;exact t7
  have c2:=θ (yE h7 l7 (by have :=b2.o;omega) sa sb ta tb ⟨by have :=z.out.1;simp only[TT.st,ST.bits];omega,by simp[TT.st,ST.high]⟩ ⟨by have :=y.o.1;simp only[TT.st,ST.bits];omega,by simp[TT.st,ST.high]⟩);have H7:=θ h7;have S7:=θ s7;have SA:=θ sa;have SB:=θ sb;have N7:=θ n7;have c7:=θ i;have I:Hid (A7.T[c]? =some true/\A7.T[J]? =some true):=⟨(i _ m).2,t7⟩;have c8:=θ Z;have M7:=θ m7;have d0:=θ m;clear Q h7 s7 l7 x7 n7 i t7 Z m7 m sa sb ta tb;go_wp2_with fail;refine c2.o.mono ?_;rintro e w8 Q;obtain⟨k3,C8,A8,d7,rfl,h8,s8,l8,x8,n8,W,t8,a8,m8,_⟩:=Q.ex;have H8:=θ h8;have S8:=θ s8;have L8:=θ l8;have X8:=θ x8;have N8:=θ n8;have f:=θ W;have T8:=θ t8;have c9:=θ a8;have M8:=θ m8;clear Q h8 s8 l8 x8 n8 W t8 a8 m8;go_wp2;go_ret;have d4:q≠K:=b3.o;have e1:c≠J:=by rintro rfl;exact N7.out d0.out
  have e2:k3≠c:=by rintro rfl;exact N8.out I.out.1
  have e3:k3≠J:=by rintro rfl;exact N8.out I.out.2
  have P:Chg (λj=>C j\/j∈(TT.leaf c q l).bl) w w7:=((G3.out.trans G4.out (λj e=>by
   rcases e with e | e
   ·exact Ei (Ej (by simp[TT.bl,e]))
   ·subst e;exact Ej b4.o)).trans G6.out (λj a=>Ei (Ei a))).trans S7.out.chg (λj a=>Ei (Ei a))
  have f4:=G3.out.size;have f5:=G4.out.size;have f6:=G6.out.size;have f7:=S7.out.chg.size;refine⟨.pair k3 (.leaf c q (inL r k b)) (.leaf J K hi),C8,A8,d7,_,rfl,⟨H8.o,⟨X8.out,?_,?_⟩,⟨?_,?_,?_⟩,L8.out,λj a=>?_,λj a=>?_,λj h1 h2=>?_,?_,?_,?_,?_⟩,?_⟩
  ·exact SA.out.chgC H7.o S8.out.chg (λj a=>by simp[TT.nums]at a;subst a;exact(f.out _ I.out.1).1)
  ·exact SB.out.chgC H7.o S8.out.chg (λj a=>by simp[TT.nums]at a;subst a;exact(f.out _ I.out.2).1)
  ·simp[TT.nums,e1,e2,e3]
  ·simp[TT.bl,d4]
  ·intro j a;simp[TT.nums]at a;rcases a with rfl | rfl | rfl
   ·exact T8.out
   ·exact(f.out _ I.out.1).2
   ·exact(f.out _ I.out.2).2
  ·rcases S8.out.new j a with h | h
   ·rcases S7.out.new j h with h | h
    ·exact Ei h
    ·right;omega
   ·right;omega
  ·simp[TT.bl]at a;rcases a with rfl | rfl
   ·exact Ei (by simp[TT.bl])
   ·exact Ej b4.o
  ·have S:j≠c:=by rintro rfl;exact h2 (by simp[TT.nums])
   have k7:=c7.out j h1;have k8:=f.out j k7.2;refine⟨k8.1.trans (k7.1.trans (c6.out j S)),k8.2,?_⟩;simp only[TT.nums,aR1,aL4,aS0,aS5,bd7];rintro(rfl | rfl | rfl)
   ·exact N8.out k7.2
   ·exact S rfl
   ·exact N7.out h1
  ·have :=c8.out;have :=c9.out;simp only[TT.st,ST.size];omega
  ·exact M8.out.trans M7.out
  ·have :=d9.o;exact⟨E,by simp only[TT.st,ST.high];omega⟩
  ·exact P.trans S8.out.chg (λj a=>(S7.out.new j a).elim (λh=>Ei (Ei h)) (λh=>Ej E))
  ·simp only[TT.st,dK];rw[bd0 hl,bc9 E,b5.o.1,b5.o.2]
structure SubPre (w w':World) (C:Nat->Prop) (A:Ar) (xs:List Nd) (T T':TT) (C':Nat->Prop) (A':Ar) (xs':List Nd):Prop where
 own:Own A' T'
 len:xs'.length=A'.T.length
 newC:∀j,C' j->C j\/w.heap.size<=j
 newB:∀q∈T'.bl,q∈T.bl\/w<=q
 keep:∀j:Nat,A.T[j]? =some true->j∉T.nums->xs'[j]? =xs[j]? /\A'.T[j]? =some true/\j∉T'.nums
 live:A'.live+T.st.size=A.live+T'.st.size
 max:A'.M=A.M
 chg:Chg (λj=>C j\/j∈T.bl) w w'
section
variable {w w1 w2 w3 w':World}{p:Nat}{C C' C3:Nat->Prop}{A A' A3:Ar}{xs xs' xs3:List Nd}{root vis v':Int}{T T' T1 T2 a c:TT}{kn:Nat}
theorem SubPost.pre (h:SubPost w w' p C A xs root vis T T' C' A' xs' v'):SubPre w w' C A xs T T' C' A' xs':=⟨h.own,h.len,h.newC,h.newB,h.keep,h.live,h.max,h.chg⟩
theorem SubPost.of (b:Head w' p C' A' xs' root v')(d:Sub w' xs' T')(h:SubPre w w' C A xs T T' C' A' xs')(e:vis<=v'/\v'<=vis+7*T.st.high+2):SubPost w w' p C A xs root vis T T' C' A' xs' v':=
 ⟨b,d,h.own,h.len,h.newC,h.newB,h.keep,h.live,h.max,e,h.chg⟩
theorem SubPre.first (d:Chg C w w1)(h:SubPre w1 w' C A xs T T' C' A' xs'):SubPre w w' C A xs T T' C' A' xs':=
 ⟨h.own,h.len,λj b=>(h.newC j b).imp id (λh=>aV4 d.size h),λq e=>(h.newB q e).imp id (λh=>aV4 d.size h),h.keep,h.live,h.max,
  (d.mono (λj b=>Ei b)).trans h.chg (λj b=>Ei b)⟩
theorem SubPre.next (h:SubPre w w3 C A xs T T1 C3 A3 xs3)(m:Chg C3 w3 w')(n:∀j,j∉T1.nums->xs'[j]? =xs3[j]?)(o:xs'.length=xs3.length)(d:T2.nums.Perm T1.nums)(f:T2.bl=T1.bl)(q:T2.st.size=T1.st.size):SubPre w w' C A xs T T2 C3 A3 xs':=
 ⟨⟨d.nodup_iff.2 h.own.nn,by rw[f];exact h.own.bn,λj b=>h.own.tk j (d.mem_iff.1 b)⟩,o.trans h.len,h.newC,by rw[f];exact h.newB,λj k l=>by
  obtain⟨g,i,e⟩:=h.keep j k l
  exact⟨(n j e).trans g,i,λb=>e (d.mem_iff.1 b)⟩,by rw[q];exact h.live,h.max,
  h.chg.trans m (λj b=>(h.newC j b).imp Ei id)⟩
theorem SubPre.left (i:Own A (.pair kn a c))(h:SubPre w w3 C A xs a T' C3 A3 xs3)(D:Head w p C A xs root vis)(l:Sub w xs c):SubPre w w3 C A xs (.pair kn a c) (.pair kn T' c) C3 A3 xs3/\Sub w3 xs3 c/\xs3[kn]? =xs[kn]? :=by
 obtain⟨J,K,P,L,M⟩:=TT.dis i.nn;have g:=i.bn;simp only[TT.bl,aS1]at g;obtain⟨O,t,o⟩:=g;have N:=i.tk kn TT.mem_k;obtain⟨G,H,I⟩:=h.keep kn N J;have n:∀j∈c.nums,xs3[j]? =xs[j]? /\A3.T[j]? =some true/\j∉T'.nums:=λj b=>h.keep j (i.tk j (TT.mem_r b)) (λe=>M j e b);have r:∀q∈c.bl,q<w:=λq d=>(l.type d).lt;refine⟨⟨⟨?_,?_,λj b=>?_⟩,h.len,h.newC,λq d=>?_,λj B s=>?_,?_,h.max,h.chg.mono (λj b=>b.imp id (λh=>by simp[TT.bl,h]))⟩,?_,G⟩
 ·simp only[TT.nums,aS2,aR0,bd5,aS1];exact⟨⟨I,K⟩,h.own.nn,L,λx m y k e=>by subst e;exact(n x k).2.2 m⟩
 ·simp only[TT.bl,aS1];refine⟨h.own.bn,t,λx m y k e=>?_⟩;subst e;rcases h.newB x m with e | e
  ·exact o x e x k rfl
  ·have :=r x k;omega
 ·simp only[TT.nums,aR1,aR0]at b;rcases b with rfl | b | b
  ·exact H
  ·exact h.own.tk j b
  ·exact(n j b).2.1
 ·simp only[TT.bl,aR0]at d⊢;rcases d with d | d
  ·exact(h.newB q d).imp Ei id
  ·exact Ei (Ej d)
 ·have f:j≠kn/\j∉a.nums/\j∉c.nums:=by
   simp only[TT.nums,aR1,aR0,bd5]at s;exact s
  obtain⟨u,v,z⟩:=h.keep j B f.2.1;refine⟨u,v,?_⟩;simp only[TT.nums,aR1,aR0,bd5];exact⟨f.1,z,f.2.2⟩
 ·have :=h.live;simp only[TT.st,ST.size];omega
 ·exact l.keep (λj b=>(n j b).1) (λq d=>h.chg.block q (r q d) (λF=>F.elim (D.notBlk (l.type d)) (λe=>o q e q d rfl)))
theorem SubPre.right (i:Own A (.pair kn a c))(h:SubPre w w3 C A xs c T' C3 A3 xs3)(D:Head w p C A xs root vis)(l:Sub w xs a):SubPre w w3 C A xs (.pair kn a c) (.pair kn a T') C3 A3 xs3/\Sub w3 xs3 a/\xs3[kn]? =xs[kn]? :=by
 obtain⟨J,K,L,P,M⟩:=TT.dis i.nn;have g:=i.bn;simp only[TT.bl,aS1]at g;obtain⟨t,O,o⟩:=g;have N:=i.tk kn TT.mem_k;obtain⟨G,H,I⟩:=h.keep kn N K;have n:∀j∈a.nums,xs3[j]? =xs[j]? /\A3.T[j]? =some true/\j∉T'.nums:=λj b=>h.keep j (i.tk j (TT.mem_l b)) (λe=>M j b e);have r:∀q∈a.bl,q<w:=λq d=>(l.type d).lt;refine⟨⟨⟨?_,?_,λj b=>?_⟩,h.len,h.newC,λq d=>?_,λj B s=>?_,?_,h.max,h.chg.mono (λj b=>b.imp id (λh=>by simp[TT.bl,h]))⟩,?_,G⟩
 ·simp only[TT.nums,aS2,aR0,bd5,aS1];exact⟨⟨J,I⟩,L,h.own.nn,λx k y m e=>by subst e;exact(n x k).2.2 m⟩
 ·simp only[TT.bl,aS1];refine⟨t,h.own.bn,λx k y m e=>?_⟩;subst e;rcases h.newB x m with e | e
  ·exact o x k x e rfl
  ·have :=r x k;omega
 ·simp only[TT.nums,aR1,aR0]at b;rcases b with rfl | b | b
  ·exact H
  ·exact(n j b).2.1
  ·exact h.own.tk j b
 ·simp only[TT.bl,aR0]at d⊢;rcases d with d | d
  ·exact Ei (Ei d)
  ·exact(h.newB q d).imp Ej id
 ·have f:j≠kn/\j∉a.nums/\j∉c.nums:=by
   simp only[TT.nums,aR1,aR0,bd5]at s;exact s
  obtain⟨u,v,z⟩:=h.keep j B f.2.2;refine⟨u,v,?_⟩;simp only[TT.nums,aR1,aR0,bd5];exact⟨f.1,f.2.1,z⟩
 ·have :=h.live;simp only[TT.st,ST.size];omega
 ·exact l.keep (λj b=>(n j b).1) (λq d=>h.chg.block q (r q d) (λF=>F.elim (D.notBlk (l.type d)) (λe=>o q d q e rfl)))
end
theorem Jy(l r:ST):(bal (.pair l r)).high<=max l.high r.high+1:=by
 simp only[bal];by_cases f:r.high+1<l.high
 ·rw[bd0 f];cases l with
  | leaf x=>simp[ST.high]at f
  | pair a b=>
   simp only[ST.high]at f;by_cases e:a.high<b.high
   ·rw[bd0 (show (ST.pair a b).hl<(ST.pair a b).hr from e)];cases b with
    | leaf x=>simp[ST.high]at e
    | pair g h=>
     simp only[ST.high]at f e;simp only[kE,kF,ST.high];omega
   ·rw[bc9 (show ¬(ST.pair a b).hl<(ST.pair a b).hr from e)];simp only[kF,ST.high];omega
 ·rw[bc9 f];by_cases d:l.high+1<r.high
  ·rw[bd0 d];cases r with
   | leaf x=>simp[ST.high]at d
   | pair a b=>
    simp only[ST.high]at f d;by_cases e:b.high<a.high
    ·rw[bd0 (show (ST.pair a b).hr<(ST.pair a b).hl from e)];cases a with
     | leaf x=>simp[ST.high]at e
     | pair g h=>
      simp only[ST.high]at f d e;simp only[kE,kF,ST.high];omega
    ·rw[bc9 (show ¬(ST.pair a b).hr<(ST.pair a b).hl from e)];simp only[kE,ST.high];omega
  ·rw[bc9 d];exact aV3 _
theorem Hf(t:ST)(k:Nat)(b:Bool):(dK t k b).high<=t.high+1:=by
 induction t generalizing k with
 | leaf l=>
  simp only[dK];split
  ·split<;>simp[ST.high]
  ·simp[ST.high]
 | pair x y d e=>
  simp only[dK];split
  ·have :=Jy (dK x k b) y;have :=d k;simp only[ST.high];omega
  ·have :=Jy x (dK y (k-x.bits.length) b);have :=e (k-x.bits.length);simp only[ST.high];omega
theorem ay2(T:TT):∀(w:World) (p:Nat) (C:Nat->Prop) (A:Ar) (R:List Nd) (z t:Int) (k:Nat) (b:Bool),Head w p C A R z t->R.length=A.T.length->0<=t->t+7*T.st.high+10<=100000000000->Sub w R T->Own A T->A.live+2<=A.M->k<=T.st.bits.length->T.st.bits.length<8589934592->T.st.high<1000000000->Calls prog 237 #[.pointer p,T.num,k, .bool b] w λe w'=>yK w w' p C A R z t T k b e:=by
 induction T with
 | leaf d q l=>
  intro w p C A R z t k b h J d3 hv hS hO b7 hk c7 c8;simp only[TT.st,ST.bits]at hk;have hl:=hS.2.1;by_cases e2:l.length=128
  ·exact Xe h J d3 (by simp only[TT.st,ST.high]at hv;omega) hS hO e2 b7 k E b
  ·exact ag6 h J d3 (by simp only[TT.st,ST.high]at hv;omega) hS hO E k hk b
 | pair d a c e6 e7=>
  intro w p C A R z t k b h J d3 hv hS hO b7 hk c7 c8;change Calls prog _ #[.pointer p,(d:Int),k, .bool b] w _;have hx:=hS.root;change R[d]? =some (TT.pair d a c).nd at hx;obtain⟨g,rc,f7,c1,f8,_⟩:=h.row (by have :=(aO2.1 hx).1;omega);obtain⟨_,_,g0,_⟩:=h.node c1 hx;obtain⟨a0,a1,a2,a3,a4,a5,a6,a7⟩:=h.eight c1 hx;obtain⟨_,_,cv,fz⟩:=h.cells;have f3:=fz 3;have hp:=h.lt p h.self;have hg:=ba8 w _ a0;simp only[TT.st,ST.bits,ST.high,aP3]at hv hk c7 c8;obtain⟨na,b8⟩:=Ey a.num;obtain⟨nc,d2⟩:=Ey c.num;obtain⟨Q,b5⟩:=Ey a.st.bits.length;obtain⟨ha,c9⟩:=Ey a.st.high;obtain⟨hc,d0⟩:=Ey c.st.high;rw[b5]at hk c7;rw[c9,d0]at hv c8;simp only[TT.nd,fO,aY5]at a0 a1 a2 a3 a4 a5 a6 a7;rw[b5]at a3 a5;have e5:Hid (a.num=na):=b8;change w.cell? (g,d*8)=some (.int .i64 (a.num:Int))at a0;change w.cell? (g,d*8+1)=some (.int .i64 (c.num:Int))at a1;rw[b8]at a0;rw[d2]at a1;have f0:=θ b8;have f1:=θ d2;have F:=θ b5;have L:=θ c9;have N:=θ d0;have d5:Hid (∀o,Head ((w.setCell (p,3) (t+1:Int)).alloc o) p C A R z (t+1)):=λo=>(h.set3 (t+1)).below (aR _ _);have HG:Hid (∀o,Chg C w ((w.setCell (p,3) (t+1:Int)).alloc o)):=λo=>(h.chg3 _ 3).alloc o;have d7:Hid (∀w',Chg C w w'->Sub w' R a):=λw' hc=>hS.2.1.chgC h hc (λ_ _=>rfl);have d8:Hid (∀w',Chg C w w'->Sub w' R c):=λw' hc=>hS.2.2.chgC h hc (λ_ _=>rfl);have HX:=θ hx;have HO:=θ hO;have HL:=θ J;have e8:=θ e6;have e9:=θ e7;have d6:=θ b7;have f9:k<=8589934592:=E;clear h fz hx hS hO J e6 e7 b7 b8 d2 b5 c9 d0 e5;by_cases b6:k<=Q
  ·have d1:decide (k<=Q)=true:=bc2 b6;go_in;go_wp2_with fail;have h2:=d5.o (.cells #[na,nc, .int .i64 (ST.pair a.st c.st).high, .int .i64 (Q+c.st.bits.length), .int .i64 (a.st.bits.count true+c.st.bits.count true),Q, .int .i64 (a.st.bits.count true), .pointer none] 221);have O:=e8.o _ p C A R z (t+1) k b h2 HL.o E (by rw[L.o];omega) (d7.o _ (HG.o _)) HO.o.l d6.o (by rw[F.o];omega) (by rw[F.o];omega) (by rw[L.o];omega);rw[f0.o]at O;refine O.mono ?_;rintro e w3 ⟨B,C3,A3,f6,v3,rfl,U,H⟩;obtain⟨q1,q2,q3⟩:=SubPre.left HO.o U.pre h2 (d8.o _ (HG.o _));have s:=q3.trans HX.o;have Y:=HG.o (.cells #[na,nc, .int .i64 (ST.pair a.st c.st).high, .int .i64 (Q+c.st.bits.length), .int .i64 (a.st.bits.count true+c.st.bits.count true),Q, .int .i64 (a.st.bits.count true), .pointer none] 221);have f:=SubPre.first Y q1
   have D:=U.head;have s3:=U.sub;have P:=U.vis;rw[L.o]at P;obtain⟨g3,f5,d9,r3,e3,_⟩:=D.row (by have :=(aO2.1 s).1;omega);obtain⟨_,S,e4,_⟩:=D.node r3 s;obtain⟨e0,e1,_⟩:=D.eight r3 s;have z3:=S (d*8);have f4:=D.lt p D.self;obtain⟨h4,g4,_⟩:=D.put r3 s (i:=0) (v:= .int .i64 B.num) (x':=⟨B.num,c.num,(TT.pair d a c).nd.height,(TT.pair d a c).nd.n,(TT.pair d a c).nd.ones,(TT.pair d a c).nd.ln,(TT.pair d a c).nd.lones,none⟩) E rfl;have G:Chg C3 w3 _:=g4.mono (λj e=>by subst e;exact D.rowC ⟨_,_,r3⟩);have u:=TT.dis f.own.nn;have b3:=s3.chgC D G (bK (y:=⟨B.num,c.num,(TT.pair d a c).nd.height,(TT.pair d a c).nd.n,(TT.pair d a c).nd.ones,(TT.pair d a c).nd.ln,(TT.pair d a c).nd.lones,none⟩) u.1);have b2:=q2.chgC D G (bK (y:=⟨B.num,c.num,(TT.pair d a c).nd.height,(TT.pair d a c).nd.n,(TT.pair d a c).nd.ones,(TT.pair d a c).nd.ln,(TT.pair d a c).nd.lones,none⟩) u.2.1);have W:B.st.high<=ha+1:=by rw[H,<-L.o];exact Hf _ _ _
   have V:B.st.bits.length=Q+1:=by rw[H,xB (by rw[F.o];omega),iK (by rw[F.o];omega),F.o]
   have m:Small (.pair B.st c.st):=by
    refine⟨?_,?_⟩
    ·simp only[ST.bits,aP3,V];omega
    ·simp only[ST.high];rw[N.o];omega
   have HB:=θ (vH h4 E E (k:=d) (x:=⟨B.num,c.num,(TT.pair d a c).nd.height,(TT.pair d a c).nd.n,(TT.pair d a c).nd.ones,(TT.pair d a c).nd.ln,(TT.pair d a c).nd.lones,none⟩) (a:=B) (c:=c) (aY s) rfl rfl rfl b3 b2 f.own.nn m);have H4:=θ h4;have G4:=θ G;have HP:=θ f;have c2:=θ H;have f2:=θ W;have c3:=θ P;clear h2 O U H q1 q2 q3 s Y f D s3 S h4 g4 G u b3 b2 W V m P;obtain⟨nt,a8⟩:=Ey B.num;rw[a8];rw[a8]at HB G4 H4;go_wp2_with fail;refine HB.o.mono ?_;rintro e w5 hB;obtain⟨T2,b4,v5,rfl,h5,s5,K,Z,X,b0,b1,a9⟩:=hB.ex;have H5:=θ h5;have S5:=θ s5;have I:=θ K;have c0:=θ Z;have b9:=θ X;have c5:=θ b0;have c6:=θ b1;have c4:=θ a9;have C5:=θ hB.chg;clear hB h5 s5 K Z X b0 b1 a9;go_wp2;go_ret;have d4:=HP.o.next (T2:=T2) (xs':=b4) (G4.out.trans C5.out (λj hj=>Ei hj)) (λj hj=>by rw[c5.out j hj];exact aH (by rintro rfl;exact hj TT.mem_k)) (by rw[c6.out];simp) c0.o b9.o (by rw[I.o,tH];rfl);refine⟨T2,C3,A3,b4,v5,rfl,SubPost.of H5.o S5.out d4 ?_,?_⟩
   ·have :=c3.o;have :=c4.o;simp only[TT.st,ST.high];rw[L.o,N.o];exact⟨E,E⟩
   ·rw[I.o,c2.o];simp only[TT.st,dK];rw[bd0 (by rw[F.o];exact b6)]
  ·have d1:decide (k<=Q)=false:=bc0 b6;go_in;go_wp2_with fail;rw[show (k:Int)-(Q:Int)=((k-Q:Nat):Int) by omega];have h2:=d5.o (.cells #[na,nc, .int .i64 (ST.pair a.st c.st).high, .int .i64 (Q+c.st.bits.length), .int .i64 (a.st.bits.count true+c.st.bits.count true),Q, .int .i64 (a.st.bits.count true), .pointer none] 221);have O:=e9.o _ p C A R z (t+1) (k-Q) b h2 HL.o E (by rw[N.o];omega) (d8.o _ (HG.o _)) HO.o.r d6.o E E (by rw[N.o];omega);rw[f1.o]at O;refine O.mono ?_;rintro e w3 ⟨B,C3,A3,f6,v3,rfl,U,H⟩;obtain⟨q1,q2,q3⟩:=SubPre.right HO.o U.pre h2 (d7.o _ (HG.o _));have s:=q3.trans HX.o;have Y:=HG.o (.cells #[na,nc, .int .i64 (ST.pair a.st c.st).high, .int .i64 (Q+c.st.bits.length), .int .i64 (a.st.bits.count true+c.st.bits.count true),Q, .int .i64 (a.st.bits.count true), .pointer none] 221);have f:=SubPre.first Y q1
   have D:=U.head;have s3:=U.sub;have P:=U.vis;rw[N.o]at P;obtain⟨g3,f5,d9,r3,e3,_⟩:=D.row (by have :=(aO2.1 s).1;omega);obtain⟨_,S,e4,_⟩:=D.node r3 s;obtain⟨e0,e1,_⟩:=D.eight r3 s;have z3:=S (d*8+1);have f4:=D.lt p D.self;obtain⟨h4,g4,_⟩:=D.put r3 s (i:=1) (v:= .int .i64 B.num) (x':=⟨a.num,B.num,(TT.pair d a c).nd.height,(TT.pair d a c).nd.n,(TT.pair d a c).nd.ones,(TT.pair d a c).nd.ln,(TT.pair d a c).nd.lones,none⟩) E rfl;have G:Chg C3 w3 _:=g4.mono (λj e=>by subst e;exact D.rowC ⟨_,_,r3⟩);have u:=TT.dis f.own.nn;have b3:=s3.chgC D G (bK (y:=⟨a.num,B.num,(TT.pair d a c).nd.height,(TT.pair d a c).nd.n,(TT.pair d a c).nd.ones,(TT.pair d a c).nd.ln,(TT.pair d a c).nd.lones,none⟩) u.2.1);have b2:=q2.chgC D G (bK (y:=⟨a.num,B.num,(TT.pair d a c).nd.height,(TT.pair d a c).nd.n,(TT.pair d a c).nd.ones,(TT.pair d a c).nd.ln,(TT.pair d a c).nd.lones,none⟩) u.1);have W:B.st.high<=hc+1:=by rw[H,<-N.o];exact Hf _ _ _
   have V:B.st.bits.length=c.st.bits.length+1:=by rw[H,xB E,iK E]
   have m:Small (.pair a.st B.st):=by
    refine⟨?_,?_⟩
    ·simp only[ST.bits,aP3,V];rw[F.o];omega
    ·simp only[ST.high];rw[L.o];omega
   have HB:=θ (vH h4 E E (k:=d) (x:=⟨a.num,B.num,(TT.pair d a c).nd.height,(TT.pair d a c).nd.n,(TT.pair d a c).nd.ones,(TT.pair d a c).nd.ln,(TT.pair d a c).nd.lones,none⟩) (a:=a) (c:=B) (aY s) rfl rfl rfl b2 b3 f.own.nn m);have H4:=θ h4;have G4:=θ G;have HP:=θ f;have c2:=θ H;have f2:=θ W;have c3:=θ P;clear h2 O U H q1 q2 q3 s Y f D s3 S h4 g4 G u b3 b2 W V m P;obtain⟨nt,a8⟩:=Ey B.num;rw[a8];rw[a8]at HB G4 H4;go_wp2_with fail;refine HB.o.mono ?_;rintro e w5 hB;obtain⟨T2,b4,v5,rfl,h5,s5,K,Z,X,b0,b1,a9⟩:=hB.ex;have H5:=θ h5;have S5:=θ s5;have I:=θ K;have c0:=θ Z;have b9:=θ X;have c5:=θ b0;have c6:=θ b1;have c4:=θ a9;have C5:=θ hB.chg;clear hB h5 s5 K Z X b0 b1 a9;go_wp2;go_ret;have d4:=HP.o.next (T2:=T2) (xs':=b4) (G4.out.trans C5.out (λj hj=>Ei hj)) (λj hj=>by rw[c5.out j hj];exact aH (by rintro rfl;exact hj TT.mem_k)) (by rw[c6.out];simp) c0.o b9.o (by rw[I.o,tH];rfl);refine⟨T2,C3,A3,b4,v5,rfl,SubPost.of H5.o S5.out d4 ?_,?_⟩
   ·have :=c3.o;have :=c4.o;simp only[TT.st,ST.high];rw[L.o,N.o];exact⟨E,E⟩
   ·rw[I.o,c2.o];simp only[TT.st,dK];rw[bc9 (by rw[F.o];exact b6),F.o]
end
end Go.Proofs.YtchinbgemenenaaGreatDoor
