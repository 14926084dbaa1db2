/- Lemmas and contracts under the claims of this seat. No condition. -/
import Derived.Test.YtchinbgemenenaaGreatDoorZs13
namespace Go.Proofs.YtchinbgemenenaaGreatDoor
open Go.Proofs.Tryz
set_option linter.unusedVariables false
set_option linter.unusedSimpArgs false
set_option maxRecDepth 100000
set_option maxHeartbeats 12800000
section
open Go.RowKit
section
variable {B:Nat}{X:Nat->Prop}{w:World}{p pk pp:Nat}{rate mv:Int}{L:List Nat}{T:Tl}{c:Nat}{PL:List Int}{N:Nat}
theorem qBack(h:LvE B X w p pk pp rate mv L T c PL N){i s:Nat}(f:L[i]? =some s)(d:L.length<=1000000):w.cell? p=some (.pointer pk)/\Calls prog 121 #[.pointer pk,i] w λe w'=>e= .returned (cC T s+bB L i s:Int)/\LvE B X w' p pk pp rate mv L T c PL N/\Chg (exT B X) w w':=by
 obtain⟨Y,Z,h⟩:=h;refine⟨h.cells.1,(vN h.k f d).mono ?_⟩;rintro e w' ⟨rfl,b,a⟩;exact⟨rfl,h.stepK b a⟩
theorem qPut(h:LvE B X w p pk pp rate mv L T c PL N){k s:Nat}(a:k<=L.length)(f:s<257)(d:L.length<=1000000):w.cell? p=some (.pointer pk)/\Calls prog 113 #[.pointer pk,k,s] w λe w'=>e= .returned (.tuple #[])/\LvE B X w' p pk pp rate mv (inL L k s) T c PL N/\Chg (exT B X) w w':=by
 obtain⟨Y,Z,h⟩:=h;refine⟨h.cells.1,(wkPut h.k d a f).mono ?_⟩;rintro e w' ⟨rfl,a,b⟩;exact⟨rfl,h.stepK a b⟩
theorem qCut(h:LvE B X w p pk pp rate mv L T c PL N){k s:Nat}(a:L[k]? =some s)(d:L.length<=1000000):w.cell? p=some (.pointer pk)/\Calls prog 104 #[.pointer pk,k] w λe w'=>e= .returned s/\LvE B X w' p pk pp rate mv (bj0 L k) T c PL N/\Chg (exT B X) w w':=by
 obtain⟨Y,Z,h⟩:=h;refine⟨h.cells.1,(wkCut h.k d a).mono ?_⟩;rintro e w' ⟨rfl,a,b⟩;exact⟨rfl,h.stepK a b⟩
theorem Fs(h:LvE B X w p pk pp rate mv L T c PL N){k s:Nat}(a:k<L.length)(f:s<257)(d:L.length<=1000000):w.cell? p=some (.pointer pk)/\Calls prog 103 #[.pointer pk,k,s] w λe w'=>e= .returned (.tuple #[])/\LvE B X w' p pk pp rate mv (L.set k s) T c PL N/\Chg (exT B X) w w':=by
 obtain⟨Y,Z,h⟩:=h;refine⟨h.cells.1,(ay8 h.k d a f).mono ?_⟩;rintro e w' ⟨rfl,a,b⟩;exact⟨rfl,h.stepK a b⟩
theorem Dl(h:LvE B X w p pk pp rate mv L T c PL N){s:Nat}{n:Int}(g:s<257)(a: -T.N s<=n)(b:n<=2147483648-T.all):w.cell? p=some (.pointer pk)/\Calls prog 105 #[.pointer pk,s,n] w λe w'=>e= .returned (.tuple #[])/\LvE B X w' p pk pp rate mv L (T.add s n) c PL N/\Chg (exT B X) w w':=by
 obtain⟨Y,Z,h⟩:=h;refine⟨h.cells.1,(aI3 h.k g a b).mono ?_⟩;rintro e w' ⟨rfl,f,d⟩;exact⟨rfl,h.stepK f d⟩
theorem Ft(h:LvE B X w p pk pp rate mv L T c PL N){k s:Nat}(a:L[k]? =some s)(g:L.length<=1000000):∃pw,w.cell? p=some (.pointer pk)/\w.cell? pk=some (.pointer (some ⟨pw,0,none⟩))/\Calls prog 102 #[.pointer pw,k] w λe w'=>e= .returned (.tuple #[s, .int .i64 0])/\LvE B X w' p pk pp rate mv L T c PL N/\Chg (exT B X) w w':=by
 obtain⟨Y,Z,h⟩:=h;obtain⟨pw,b,f⟩:=wkGetQ h.k g a;refine⟨pw,h.cells.1,b,f.mono ?_⟩;rintro e w' ⟨rfl,a,d⟩;exact⟨rfl,h.stepK a d⟩
theorem qOn(h:LvE B X w p pk pp rate mv L T c PL N)(a:BitTab w)(b:0<B){i s:Nat}(g:i<L.length)(n:s<257)(d:IsWhich T i s)(l:L.length<=1000000):w.cell? p=some (.pointer pk)/\Calls prog 60 #[.pointer pk,i] w λe w'=>e= .returned (kG L ((i:Int)-cC T s) s:Int)/\LvE B X w' p pk pp rate mv L T c PL N/\Chg (exT B X) w w':=by
 obtain⟨Y,Z,h⟩:=h;refine⟨h.cells.1,(az0 h.k a b g n d l).mono ?_⟩;rintro e w' ⟨rfl,j,f⟩;exact⟨rfl,h.stepK j f⟩
theorem Vj(h:LvE B X w p pk pp rate mv L T c PL N)(x:Int):w.cell? (p,1)=some (.pointer pp)/\Calls prog 119 #[.pointer pp,x] w λe w'=>e= .returned (gJ x (prL 0 PL):Int)/\LvE B X w' p pk pp rate mv L T c PL N/\Chg (exT B X) w w':=by
 obtain⟨Y,Z,h⟩:=h;refine⟨h.cells.2.1,(next_e h.q rfl).mono ?_⟩;rintro e w' ⟨rfl,b,a⟩;exact⟨rfl,h.stepQ b a⟩
theorem qRow(h:LvE B X w p pk pp rate mv L T c PL N)(x:Int):w.cell? (p,1)=some (.pointer pp)/\Calls prog 120 #[.pointer pp,x] w λe w'=>e= .returned (aL PL x:Int)/\LvE B X w' p pk pp rate mv L T c PL N/\Chg (exT B X) w w':=by
 obtain⟨Y,Z,h⟩:=h;refine⟨h.cells.2.1,(row_e h.q rfl).mono ?_⟩;rintro e w' ⟨rfl,b,a⟩;exact⟨rfl,h.stepQ b a⟩
theorem qPos(h:LvE B X w p pk pp rate mv L T c PL N)(x:Int):w.cell? (p,1)=some (.pointer pp)/\Calls prog 129 #[.pointer pp,x] w λe w'=>e= .returned (gL PL x:Int)/\LvE B X w' p pk pp rate mv L T c PL N/\Chg (exT B X) w w':=by
 obtain⟨Y,Z,h⟩:=h;refine⟨h.cells.2.1,(pos_e h.q rfl).mono ?_⟩;rintro e w' ⟨rfl,b,a⟩;exact⟨rfl,h.stepQ b a⟩
theorem qAdd(h:LvE B X w p pk pp rate mv L T c PL N)(a:c<1000000)(x y:Int):w.cell? (p,1)=some (.pointer pp)/\Calls prog 50 #[.pointer pp,x,y] w λe w'=>e= .returned (gD PL N x y:Int)/\LvE B X w' p pk pp rate mv L T (c+1) (gZ PL N x y) N/\Chg (exT B X) w w':=by
 obtain⟨Y,Z,h⟩:=h;refine⟨h.cells.2.1,(add_e h.q a rfl rfl).mono ?_⟩;rintro e w' ⟨rfl,b,a⟩;exact⟨rfl,h.stepQ b a⟩
theorem qRowIn(h:LvE B X w p pk pp rate mv L T c PL N)(x:Int)(d:(qJ PL x).length<=1000000):w.cell? (p,1)=some (.pointer pp)/\Calls prog 116 #[.pointer pp,x] w λe w'=>e= .returned (okC (jQ PL x):Int)/\LvE B X w' p pk pp rate mv L T c (qJ PL x) N/\Chg (exT B X) w w':=by
 obtain⟨Y,Z,h⟩:=h;refine⟨h.cells.2.1,(aF6 h.q rfl rfl d).mono ?_⟩;rintro e w' ⟨rfl,b,a⟩;exact⟨rfl,h.stepQ b a⟩
theorem aF2(h:LvE B X w p pk pp rate mv L T c PL N)(x:Int):w.cell? (p,1)=some (.pointer pp)/\Calls prog 106 #[.pointer pp,x] w λe w'=>e= .returned (okC (dZ PL x):Int)/\LvE B X w' p pk pp rate mv L T c (kV PL x) N/\Chg (exT B X) w w':=by
 obtain⟨Y,Z,h⟩:=h;refine⟨h.cells.2.1,(as8 h.q rfl rfl).mono ?_⟩;rintro e w' ⟨rfl,b,a⟩;exact⟨rfl,h.stepQ b a⟩
theorem Mj(h:LvE B X w p pk pp rate mv L T c PL N)(x y:Int):w.cell? (p,1)=some (.pointer pp)/\Calls prog 114 #[.pointer pp,x,y] w λe w'=>e= .returned (okC (dZ PL x&&dZ PL y):Int)/\LvE B X w' p pk pp rate mv L T c (rE PL x y) N/\Chg (exT B X) w w':=by
 obtain⟨Y,Z,h⟩:=h;refine⟨h.cells.2.1,(ad3 h.q rfl rfl).mono ?_⟩;rintro e w' ⟨rfl,b,a⟩;exact⟨rfl,h.stepQ b a⟩
theorem qPosIn(h:LvE B X w p pk pp rate mv L T c PL N)(x:Int)(a:qE N x<=1000000):w.cell? (p,1)=some (.pointer pp)/\Calls prog 117 #[.pointer pp,x] w λe w'=>e= .returned (okC (iX N x):Int)/\LvE B X w' p pk pp rate mv L T c (qD PL N x) (qE N x)/\Chg (exT B X) w w':=by
 obtain⟨Y,Z,h⟩:=h;refine⟨h.cells.2.1,(aE7 h.q rfl rfl rfl a).mono ?_⟩;rintro e w' ⟨rfl,d,b⟩;exact⟨rfl,h.stepQ d b⟩
theorem aF1(h:LvE B X w p pk pp rate mv L T c PL N)(x:Int):w.cell? (p,1)=some (.pointer pp)/\Calls prog 107 #[.pointer pp,x] w λe w'=>e= .returned (okC (qC N x):Int)/\LvE B X w' p pk pp rate mv L T c (mF PL N x) (mG N x)/\Chg (exT B X) w w':=by
 obtain⟨Y,Z,h⟩:=h;refine⟨h.cells.2.1,(ar9 h.q rfl rfl rfl).mono ?_⟩;rintro e w' ⟨rfl,b,a⟩;exact⟨rfl,h.stepQ b a⟩
theorem LvE.cell2 (h:LvE B X w p pk pp rate mv L T c PL N):w.cell? (p,2)=rate:=by obtain⟨Y,Z,h⟩:=h;exact h.cells.2.2.1
theorem LvE.cell3 (h:LvE B X w p pk pp rate mv L T c PL N):w.cell? (p,3)=mv/\w.frozen? (p,3)=false:=by obtain⟨Y,Z,h⟩:=h;exact h.cells.2.2.2
theorem LvE.setM (h:LvE B X w p pk pp rate mv L T c PL N)(v:Int):LvE B X (w.setCell (p,3) v) p pk pp rate v L T c PL N/\Chg (exT B X) w (w.setCell (p,3) v):=by
 obtain⟨Y,Z,h⟩:=h;exact⟨⟨Y,Z,(h.setM v).1⟩,(h.setM v).2⟩
end
structure TxS (m:List Int):Prop where
 sy:IsSyms m
 rng:∀x∈m,0<=x/\x<257
 len:m.length<=900000
theorem TxS.pv {m:List Int}(h:TxS m)(q:Nat):((pvS m q).toNat:Int)=pvS m q/\(pvS m q).toNat<257:=by
 have d:=Mf h.sy q;have b:=h.sy.pos;have a:pvS m q∈m:=by
  unfold pvS;have :=aW2 (q+m.length-1) b;rw[gK this];exact aP0 _
 have :=h.rng _ a;omega
theorem Bp{m:List Int}(h:TxS m)(s:Nat)(b:s<257):cC (Tl.of m) s=(aN m (s:Int):Int):=by
 unfold cC;rw[show iM (s:Int)=s by unfold iM;omega];exact kM (λx a=>(h.rng x a).1) s
theorem Aj{l m:List Int}(h:l.Perm m)(s:Int):cnt l s=cnt m s:=h.countP_eq _
theorem Tl.of_perm {l m:List Int}(h:l.Perm m):Tl.of l=Tl.of m:=by
 unfold Tl.of;rw[h.length_eq];congr 1;funext s;rw[Aj h]
structure LvR (B:Nat) (X:Nat->Prop) (w:World) (p pk pp:Nat) (rate mv:Int) (m:List Int) (R:List Nat) (c:Nat) (M:Nat->Bool):Prop where
 e:LvE B X w p pk pp rate mv (lvR m R) (Tl.of m) c (plS M R) m.length
 perm:R.Perm (List.range m.length)
section
variable {B:Nat}{X:Nat->Prop}{w w':World}{p pk pp:Nat}{rate mv:Int}{m:List Int}{R:List Nat}{c:Nat}{M:Nat->Bool}
theorem LvR.rlen (h:LvR B X w p pk pp rate mv m R c M):R.length=m.length:=by have :=h.perm.length_eq;simpa using this
theorem LvR.get (h:LvR B X w p pk pp rate mv m R c M){i q:Nat}(a:R[i]? =some q):(lvR m R)[i]? =some (pvS m q).toNat:=yQ a
theorem LvR.lf (a:TxS m)(R:List Nat)(i q:Nat):cC (Tl.of m) (pvS m q).toNat+bB (lvR m R) i (pvS m q).toNat=((lfC m (R.take i) (pvS m q):Nat):Int):=by
 rw[Bp a _ (a.pv q).2];have :=Li a.sy R i (pvS m q).toNat;rw[(a.pv q).1]at this⊢;omega
theorem LvR.step (h:LvR B X w p pk pp rate mv m R c M)(a:LvE B X w' p pk pp rate mv (lvR m R) (Tl.of m) c (plS M R) m.length):LvR B X w' p pk pp rate mv m R c M:=⟨a,h.perm⟩
theorem LvR.below (h:LvR B X w p pk pp rate mv m R c M)(a:Below w w w'):LvR B X w' p pk pp rate mv m R c M:=⟨h.e.below a,h.perm⟩
theorem Lj(j:TxS m)(g:IsRows m R){i q:Nat}(h:R[i]? =some q):R[lfC m (R.take i) (pvS m q)]? =some ((q+m.length-1)%m.length):=by
 obtain⟨a,e⟩:=aO2.1 h;obtain⟨b,d⟩:=Fl j.sy g a;have f:lfL (aO m R) i=lfC m (R.take i) (pvS m q):=by
  unfold lfL lfC;rw[qB a,e];show aN (aO m R) (pvS m q)+cnt ((aO m R).take i) (pvS m q)=_;congr 1
  ·rw[<-rT];unfold aN;exact(oA g).countP_eq _
  ·unfold cnt aO;rw[<-aQ8,aM0];rfl
 rw[f]at b;rw[aO0 b];congr 1;rw[e]at d;simpa only[f]using d
theorem Aa{n q:Nat}(h:q+1<n):(q+1+n-1)%n=q:=by
 rw[show q+1+n-1=q+n by omega,aU4,aW1 E]
theorem yR(h:LvR B X w p pk pp rate mv m R c M)(hm:TxS m)(hr:IsRows m R){pos:Nat}(hp:pos<m.length):Calls prog 57 #[.pointer p,pos] w λe w'=>∃a:Nat,e= .returned a/\R[a]? =some pos/\LvR B X w' p pk pp rate mv m R c M/\Chg (exT B X) w w':=by
 obtain⟨n,hn⟩:∃n,m.length=n+1:=⟨m.length-1,E⟩;have S:=hm.len;have HM:=θ hm;have HR:=θ hr;have D:=θ hn;have H:=θ h;have i:=θ (λ(w':World) (h':LvR B X w' p pk pp rate mv m R c M)=>Jg h'.e (n:=n) (by rw[cP,h'.rlen,D.o]) (by have :=D.o;omega));have a2:pos<=n:=E;have b0:n<=900000:=E;clear hm hr h hn hp S;have d1:decide ((n:Int)<(pos:Int))=false:=bc0 E;have d2:decide ((pos:Int)<0)=false:=bc0 E;have d3:decide (n<pos)=false:=bc0 E;go_in;go_wp2_with fail;refine Cq (i.o _ H.o) ?_;go_wp2_with fail;refine Cq (i.o _ H.o) ?_;obtain⟨c1,G⟩:=Vj H.o.e (pos:Int);have O:=θ G;clear G;go_wp2_with fail;refine O.o.mono ?_;rintro e w1 ⟨rfl,Q,P⟩;have C:=As (M:=M) H.o.perm (pos:Int);have H1:Hid (LvR B X w1 p pk pp rate mv m R c M):=θ (H.o.step Q);have k:=θ P;obtain⟨v,hv⟩:=Ey (gJ (pos:Int) (prL 0 (plS M R)));rw[hv]at C⊢;have K:=θ C;clear C hv Q P c1 O;go_upto_if 29 with fail
 go_cut [5,6] (λu v Z=>∃x r:Nat,u= .int .i64 x/\v= .int .i64 r/\R[r]? =some x/\pos<=x/\x<=n/\LvR B X Z p pk pp rate mv m R c M/\Chg (exT B X) w Z);case first=>as_aux_lemma=>
  rcases K.o with ⟨rfl,_⟩ | ⟨q,rfl,a4,b1,V,a5⟩
  ·have W:=xP HM.o.sy HR.o;have a0:Hid (R[0]? =some n):=θ (by
    obtain⟨h0,e⟩:=W
    rw[aO0 h0,e,D.o];rfl)
   clear W;go_wp2_with fail;go_meet;case rel=>exact⟨n,0,rfl,rfl,a0.o,a2,aV3 _,H1.o,k.o⟩
  ·obtain⟨a,ha⟩:=aO4 (H.o.perm.mem_iff.2 (aR8.2 a4));have U:=H.o.perm.nodup_iff.2 aS4;have s:=Jq (M:=M) U ha;rw[V,bd0 rfl]at s;have a6:q<=n:=by have :=D.o;omega
   obtain⟨c1,G⟩:=qRow H1.o.e (q:Int);rw[s]at G;have O:=θ G;have HA:=θ ha;have d4:decide ((0:Int)<=(q:Int))=true:=bc2 E;clear s G ha U V a5;go_wp2_with fail;refine O.o.mono ?_;rintro e Y ⟨rfl,f,d⟩;have H2:Hid (LvR B X Y p pk pp rate mv m R c M):=θ (H1.o.step f);have l:Hid (Chg (exT B X) w Y):=θ (k.o.trans d (λb t=>Ei t));clear f d c1 O;go_wp2_with fail;go_meet;case rel=>exact⟨q,a,rfl,rfl,HA.o,E,a6,H2.o,l.o⟩
 case rest=>as_aux_lemma=>
  obtain⟨x,r,rfl,rfl,j,h2,h3,g,F⟩:=hcut;have HX:=θ j;have I:=θ g;have J:=θ F;clear j g F H1 k K;go_wp2;go_loopw [5,6] (λu v Z=>∃x r:Nat,u= .int .i64 x/\v= .int .i64 r/\R[r]? =some x/\pos<=x/\x<=n/\LvR B X Z p pk pp rate mv m R c M/\Chg (exT B X) w Z) (λu _ _=>(intOf u).toNat);exact⟨x,r,rfl,rfl,HX.o,h2,h3,I.o,J.o⟩;as_aux_lemma=>
   clear HX I J h2 h3;obtain⟨x,r,rfl,rfl,j,h2,h3,g,F⟩:=hrel;have HX:=θ j;have I:=θ g;have J:=θ F;have a1:=D.o;by_cases a9:pos<x
   ·obtain⟨y,rfl⟩:∃y,x=y+1:=⟨x-1,E⟩;have A:=Lj HM.o HR.o j;rw[Aa E]at A;obtain⟨c0,t⟩:=qBack g.e (g.get j) (by rw[cP,g.rlen,D.o];omega);rw[LvR.lf HM.o]at t;generalize lfC m (R.take r) (pvS m (y+1))=z at *;have HL:=θ A;have HB:=θ t;have hw:IntKind.i64.wrap (((y+1:Nat):Int)-1)=y:=by rw[aK8 _ E];omega
    have d4:decide ((pos:Int)<((y+1:Nat):Int))=true:=bc2 E;have d5:decide (pos<y+1)=true:=bc2 E;have a8:y<=n:=E;have a3:pos<=y:=E;obtain⟨x',a7⟩:∃x',y+1=x':=⟨_,rfl⟩;rw[a7]at hw d4 d5⊢;clear A t j g F a1;go_wp2_with fail;refine HB.o.mono ?_;rintro e Y ⟨rfl,f,d⟩;have H2:Hid (LvR B X Y p pk pp rate mv m R c M):=θ (I.o.step f);have l:Hid (Chg (exT B X) w Y):=θ (J.o.trans d (λb t=>Ei t));clear f d c0 HB;go_wp2;go_roundw;exact⟨y,z,by first | rfl | (congr 1),rfl,HL.o,a3,a8,H2.o,l.o⟩;simp[intOf];omega
   ·obtain rfl:x=pos:=E;have d4:decide ((x:Int)<(x:Int))=false:=bc0 E;clear j g F;go_wp2;go_ret;exact⟨r,rfl,HX.o,I.o,J.o⟩
end
section
variable {B:Nat}{X:Nat->Prop}{w w':World}{p pk pp:Nat}{rate mv:Int}{m:List Int}{R:List Nat}{c:Nat}{M:Nat->Bool}
theorem lvPos(h:LvR B X w p pk pp rate mv m R c M)(hm:TxS m)(hr:IsRows m R)(h0:M 0=true){a q:Nat}(T:R[a]? =some q):Calls prog 62 #[.pointer p,a] w λe w'=>e= .returned q/\LvR B X w' p pk pp rate mv m R c M/\Chg (exT B X) w w':=by
 have hq:q<m.length:=aR8.1 (h.perm.mem_iff.1 (aR5 T));obtain⟨n,hn⟩:∃n,m.length=n+1:=⟨m.length-1,E⟩;have a0:a<=n:=by have :=(aO2.1 T).1;have :=h.rlen;omega
 have K:=hm.len;have HM:=θ hm;have HR:=θ hr;have P:=θ hn;have H:=θ h;have HA:=θ T;have H0:=θ h0;have I:=θ (λ(w':World) (h':LvR B X w' p pk pp rate mv m R c M)=>Jg h'.e (n:=n) (by rw[cP,h'.rlen,P.o]) (by have :=P.o;omega));have a5:q<=n:=E;have a4:n<=900000:=E;clear hm hr h hn hq K T h0;have d1:decide ((n:Int)<(a:Int))=false:=bc0 E;have d2:decide ((a:Int)<0)=false:=bc0 E;have d3:decide (n<a)=false:=bc0 E;go_in;go_wp2_with fail;refine Cq (I.o _ H.o) ?_;go_wp2;go_loopw [1,5] (λu v wx=>∃x y k:Nat,u= .int .i64 x/\v= .int .i64 k/\R[x]? =some y/\y+k=q/\LvR B X wx p pk pp rate mv m R c M/\Chg (exT B X) w wx) (λ_ v _=>q-(intOf v).toNat);exact⟨a,q,0,rfl,rfl,HA.o,E,H.o,Chg.refl⟩;as_aux_lemma=>
  clear HA d1 d2 d3 a0;obtain⟨x,y,k,rfl,rfl,J,Q,S,Z⟩:=hrel;have HX:=θ J;have H4:=θ S;have H5:=θ Z;have L:=P.o;obtain⟨c1,t⟩:=qPos S.e (x:Int);rw[mE J]at t;have a3:k<=q:=E;by_cases D:M y=true
  ·rw[bd0 D]at t;have F:=θ t;have d4:decide ((y:Int)<0)=false:=bc0 E;have Y:=θ D;clear t J S Z L D;go_wp2_with fail;refine F.o.mono ?_;rintro e N ⟨rfl,i,f⟩;have l:Hid (LvR B X N p pk pp rate mv m R c M):=θ (H4.o.step i);have r:Hid (Chg (exT B X) w N):=θ (H5.o.trans f (λb d=>Ei d));obtain⟨c2,A⟩:=qPos l.o.e (x:Int);rw[mE HX.o,bd0 Y.o]at A;have G:=θ A;clear i f c1 F A;have a7:y<=900000:=E;have a1:k<=900000:=E;have V:=θ Q;clear Q;go_wp2_with fail;refine G.o.mono ?_;rintro e O ⟨rfl,j,g⟩;have U:Hid (LvR B X O p pk pp rate mv m R c M):=θ (l.o.step j);have s:Hid (Chg (exT B X) w O):=θ (r.o.trans g (λb d=>Ei d));clear j g c2 G;go_wp2;go_ret;exact⟨bA (by have :=V.o;omega),U.o,s.o⟩
  ·rw[bc9 D]at t;have F:=θ t;have a6:y≠0:=λe=>D (by rw[e];exact H0.o);obtain⟨z,rfl⟩:∃z,y=z+1:=⟨y-1,E⟩;have C:=Lj HM.o HR.o J;rw[Aa E]at C;have W:=θ C;have V:=θ Q;have a1:k<=900000:=E;have a2:k+1<=q:=E;clear t J S Z L D C Q;go_wp2_with fail;refine F.o.mono ?_;rintro e N ⟨rfl,i,f⟩;have l:Hid (LvR B X N p pk pp rate mv m R c M):=θ (H4.o.step i);have r:Hid (Chg (exT B X) w N):=θ (H5.o.trans f (λb d=>Ei d));obtain⟨c0,d⟩:=qBack l.o.e (l.o.get HX.o) (by rw[cP,l.o.rlen,P.o];omega);rw[LvR.lf HM.o]at d;generalize lfC m (R.take x) (pvS m (z+1))=zz at *;have HB:=θ d;clear i f c1 F d;go_wp2_with fail;refine HB.o.mono ?_;rintro e O ⟨rfl,j,g⟩;have U:Hid (LvR B X O p pk pp rate mv m R c M):=θ (l.o.step j);have s:Hid (Chg (exT B X) w O):=θ (r.o.trans g (λb d=>Ei d));clear j g c0 HB;go_wp2;go_roundw;exact⟨zz,z,k+1,rfl,by first | rfl | go_num,W.o,by have :=V.o;omega,U.o,s.o⟩;simp[intOf];omega
theorem fU(h:LvR B X w p pk pp rate mv m R c M):w.cell? p=some (.pointer pk)/\w.cell? (p,1)=some (.pointer pp)/\w.cell? (p,2)=rate:=by
 obtain⟨⟨Y,Z,h⟩,_⟩:=h;exact⟨h.cells.1,h.cells.2.1,h.cells.2.2.1⟩
theorem Hi{L:List Nat}{T:Tl}{a:List Int}{N:Nat}(h:LvE B X w p pk pp rate mv L T c a N):w.cell? p=some (.pointer pk)/\w.cell? (p,1)=some (.pointer pp)/\w.cell? (p,2)=rate:=by
 obtain⟨Y,Z,h⟩:=h;exact⟨h.cells.1,h.cells.2.1,h.cells.2.2.1⟩
theorem lvAdd(h:LvR B X w p pk pp rate mv m R c M)(y:TxS m)(A:IsRows m R)(J:c<1000000){pos:Nat}(z:pos<m.length):Calls prog 169 #[.pointer p,pos] w λe w'=>e= .returned (.tuple #[])/\LvR B X w' p pk pp rate mv m R (c+1) (sM M pos)/\Chg (exT B X) w w':=by
 have F:=θ y;have I:=θ A;have H:=θ h;have G:=θ z;have v:Hid (LvR B X w.drew p pk pp rate mv m R c M):=θ (h.below ⟨rfl,rfl,rfl,aV3 _,λ_ _=>rfl⟩);clear y A h z;go_in;go_upto_region 0 with fail
 refine aG (λw'=>w'.cell? (p,1)=some (.pointer pp)) Ek ((fU v.o).2.1) (λf=>?_);refine rV 0 1 2 3 f ?_;refine rU 4 5 f ?_;refine rt 7 f ?_;refine rg 6 λL q=>?_;go_simp;refine(yR v.o F.o I.o G.o).mono ?_;rintro e K ⟨a,rfl,x,n,g⟩;have D:=θ x;have j:=θ n;have k:Hid (Chg (exT B X) w K):=θ ((Chg.refl.drew).trans g (λb r=>Ei r));have s:=(fU n).2.1;clear x n g;refine q.out _ _ (s) ?_;intro f;try simp only[pt]
 refine rg 8 λL q=>?_;go_simp;refine(qAdd j.o.e J (a:Int) (pos:Int)).2.mono ?_;rintro e C ⟨rfl,d,i⟩;rw[(Sv j.o.perm D.o).1]at d;have u:Hid (LvR B X C p pk pp rate mv m R (c+1) (sM M pos)):=θ ⟨d,j.o.perm⟩;have l:Hid (Chg (exT B X) w C):=θ (k.o.trans i (λb r=>Ei r));have t:=(fU u.o).2.1;clear d i;refine q.out _ _ (t) ?_;intro f;try simp only[pt]
 refine rz ?_;clear f;go_wp2;go_end0;exact⟨rfl,u.o,l.o⟩
end
section
variable {B:Nat}{X:Nat->Prop}{w w':World}{p pk pp:Nat}{mv:Int}{m:List Int}{R:List Nat}{c:Nat}{M:Nat->Bool}{ra at_:Nat}
theorem Zr(h:LvR B X w p pk pp (ra:Int) mv m R c M)(hm:TxS m)(hr:IsRows m R)(h1:1<=ra)(e7:ra<=64)(d3:at_<m.length)(f:tA M m.length ra at_)(hc:c+m.length+2<=1000000):Calls prog 110 #[.pointer (some ⟨p,0,none⟩), .int .i64 at_] w λe w'=>e= .returned (.tuple #[])/\(∃c' M',c'<=c+m.length+2/\LvR B X w' p pk pp (ra:Int) mv m R c' M'/\rO M' m.length ra)/\Chg (exT B X) w w':=by
 obtain⟨n,hn⟩:∃n,m.length=n+1:=⟨m.length-1,E⟩;have c0:=hm.len;have HM:=θ hm;have HR:=θ hr;have i:=θ hn;have H:=θ h;have HH:=θ f;have F:=θ (λ(w':World) (c':Nat) (M':Nat->Bool) (h':LvR B X w' p pk pp (ra:Int) mv m R c' M')=>Jg h'.e (n:=n) (by rw[cP,h'.rlen,i.o]) (by have :=i.o;omega));obtain⟨a0,d2⟩:=aO4 (h.perm.mem_iff.2 (aR8.2 (show 0<m.length by omega)));have c3:=h.perm.nodup_iff.2 aS4;have S:=Jq (M:=M) c3 d2;obtain⟨G,hq⟩:=qRow h.e (0:Int);rw[show ((0:Nat):Int)=0 from rfl]at S;rw[S]at hq;obtain⟨v,C⟩:∃v,(if M 0=true then (a0:Int)else -1)=v:=⟨_,rfl⟩;rw[C]at hq;have HV:=θ C;have HQ:=θ hq;have e3:at_<=n:=E;have e9:n<=900000:=E;have e8:c+n+3<=1000000:=E;clear hm hr h c0 f S hq c3 d3 hc C hn;go_enter func110,ntmps110;go_wp2_with fail;refine HQ.o.mono ?_;rintro e w1 ⟨rfl,b6,T⟩;have H1:Hid (LvR B X w1 p pk pp (ra:Int) mv m R c M):=θ (H.o.step b6);have L:=θ T;clear b6 T G HQ;go_upto_if 11 with fail
 go_cut [] (λK=>∃G s,G<=c+1/\LvR B X K p pk pp (ra:Int) mv m R G s/\s 0=true/\tA s m.length ra at_/\Chg (exT B X) w K);case first=>as_aux_lemma=>
  by_cases hM:M 0=true
  ·have C:=HV.o;rw[bd0 hM]at C;subst C;have d:decide ((a0:Int)<0)=false:=bc0 E;have k:=θ hM;clear hM;go_wp2_with fail;go_meet;case rel=>exact⟨c,M,E,H1.o,k.o,HH.o,L.o⟩
  ·have C:=HV.o;rw[bc9 hM]at C;subst C;have Z:=lvAdd H1.o HM.o HR.o E (pos:=0) (by have :=i.o;omega);rw[show ((0:Nat):Int)=0 from rfl]at Z;have Y:=θ Z;clear Z;clear hM;go_wp2_with fail;refine Y.o.mono ?_;rintro e w2 ⟨rfl,h2,U⟩;have H2:=θ h2;have z:Hid (Chg (exT B X) w w2):=θ (L.o.trans U (λb g=>Ei g));clear h2 U Y;go_wp2_with fail;go_meet;case rel=>exact⟨c+1,_,E,H2.o,by unfold sM;simp,Kt HH.o,z.o⟩
 case rest=>as_aux_lemma=>
  obtain⟨G,s,T,A,b1,b2,b3⟩:=hcut;have H2:=θ A;have k:=θ b1;have O:=θ b2;have z:=θ b3;have d4:=fU A;have HD:Hid (LvR B X wc.drew p pk pp (ra:Int) mv m R G s):=θ (A.below ⟨rfl,rfl,rfl,aV3 _,λ_ _=>rfl⟩);have a7:Hid (IntKind.i64.wrap (2*(ra:Int))=2*ra):=θ (aK8 _ E);have a8:Hid (IntKind.i64.wrap ((at_:Int)-2*ra)=at_-2*ra):=θ (aK8 _ E);clear A b1 b2 b3 H1 L;go_upto_region 2 with fail
  refine aG (λw'=>w'.cell? ⟨p,1,none⟩=some (.pointer (some ⟨pp,0,none⟩))/\w'.cell? ⟨p,2,none⟩=some (.int .i64 (ra:Int))) Ek ((fU HD.o).2) (λf=>?_);refine rV 0 1 2 3 f ?_;refine rV 4 5 6 7 f ?_;refine rV 8 9 10 11 f ?_;refine rg 12 λκ hK=>?_;go_simp;rw[a7.o,a8.o];refine(Vj HD.o.e (max ((at_:Int)-2*ra) 0)).2.mono ?_;rintro e w3 ⟨rfl,b7,b4⟩;have l:=As (M:=s) HD.o.perm (max ((at_:Int)-2*ra) 0);obtain⟨q0,c5,d6,d7,c4⟩:∃q0:Nat,gJ (max ((at_:Int)-2*ra) 0) (prL 0 (plS s R))=(q0:Int)/\q0<m.length/\q0<=at_/\rR s m.length ra q0:=Uc O.o k.o (by have :=i.o;omega) (by have :=i.o;omega) h1 l;rw[c5];have H3:Hid (LvR B X w3 p pk pp (ra:Int) mv m R G s):=θ (HD.o.step b7);have a4:Hid (Chg (exT B X) w w3):=θ (z.o.drew.trans b4 (λb g=>Ei g));have b9:=(fU H3.o).2;have a6:=θ c4;clear b7 b4 l c5 c4;refine hK.out _ _ (b9) ?_;intro f;try simp only[pt]
  refine rt 13 f ?_;refine rz ?_;clear f HD a7 a8 d4 b9 H2 z;go_wp2_with fail;go_loopw [4] (λu K=>∃(q t:Nat) (a:Nat->Bool),u= .int .i64 q/\t<=c+2+q/\q<=n+1/\LvR B X K p pk pp (ra:Int) mv m R t a/\a 0=true/\tA a m.length ra at_/\rR a m.length ra q/\Chg (exT B X) w K) (λu _=>n+2-(intOf u).toNat);case atStart=>exact⟨q0,G,s,rfl,E,by have :=i.o;omega,H3.o,k.o,O.o,a6.o,a4.o⟩
  case round=>as_aux_lemma=>
   clear H3 k O a6 a4 d6 d7;obtain⟨q,t,a,rfl,U,f0,h4,h5,h6,h7,h8⟩:=hrel;have H4:=θ h4;have H5:=θ h5;have H6:=θ h6;have H7:=θ h7;have a5:=θ h8;have W:=(fU h4).2;have a2:Hid (LvR B X wr.drew p pk pp (ra:Int) mv m R t a):=θ (h4.below ⟨rfl,rfl,rfl,aV3 _,λ_ _=>rfl⟩);have d0:Hid (IntKind.i64.wrap ((at_:Int)+ra)=at_+ra):=θ (aK8 _ E);clear h4 h5 h6 h7 h8;go_upto_region 3 with fail
   refine aG (λw'=>w'.cell? ⟨p,1,none⟩=some (.pointer (some ⟨pp,0,none⟩))/\w'.cell? ⟨p,2,none⟩=some (.int .i64 (ra:Int))/\LvR B X w' p pk pp (ra:Int) mv m R t a/\Chg (exT B X) w w') Ek (⟨W.1,W.2,a2.o,a5.o.drew⟩) (λf=>?_);refine rV 0 1 3 4 f ?_;refine rV 5 6 7 8 f ?_;refine rc 2 (λw hw=>F.o _ _ _ hw.2.2.1) f ?_;refine rU 9 10 f ?_;refine rz ?_;obtain⟨_,_,h9,a9⟩:=f;have H9:=θ h9;have N:=θ a9;clear h9 a9 H4 a5 a2 W;obtain⟨b,g⟩:∃b,decide ((q:Int)<=min (n:Int) (IntKind.i64.wrap ((at_:Int)+ra)))=b:=⟨_,rfl⟩;rw[g];rw[d0.o]at g;cases b
   ·have V:=of_decide_eq_false g;have HS:Hid (rO a m.length ra):=θ (Zf H7.o H6.o H5.o (by have :=i.o;omega) h1);clear g V;go_wp2_with fail;go_end0;exact⟨rfl,⟨t,a,by have :=i.o;omega,H9.o,HS.o⟩,N.o⟩
   ·have V:=bd6 g;have e6:q<=n:=E;clear g V;obtain⟨k1,hx⟩:=Vj H9.o.e ((q:Int)+1);have l:=As (M:=a) H9.o.perm ((q:Int)+1);have HX:=θ hx;have P:=θ l;clear hx l;obtain⟨v9,c6⟩:∃v9,gJ ((q:Int)+1) (prL 0 (plS a R))=v9:=⟨_,rfl⟩;rw[c6]at HX P;clear c6;go_wp2_with fail;refine HX.o.mono ?_;rintro e w5 ⟨rfl,b8,b5⟩;have y:Hid (LvR B X w5 p pk pp (ra:Int) mv m R t a):=θ (H9.o.step b8);have j:Hid (Chg (exT B X) w w5):=θ (N.o.trans b5 (λb g=>Ei g));clear b8 b5 HX H9 N k1;go_upto_if 46 with fail
    go_cut [5]from 27 to 67 (λu K=>(∃r:Nat,u= .int .i64 r/\q<r/\r<=n+1/\(r<m.length->a r=true))/\LvR B X K p pk pp (ra:Int) mv m R t a/\Chg (exT B X) w K)
    case first=>as_aux_lemma=>
     rcases P.o with ⟨rfl,_⟩ | ⟨x,rfl,d9,e0,c8,e1⟩
     ·have hl:=F.o _ _ _ y.o;have HL:=θ hl;clear hl;go_wp2_with fail;refine HL.o.mono ?_;rintro e w' ⟨rfl,rfl⟩;go_wp2_with fail;go_meet;case rel=>exact⟨⟨n+1,by first | rfl | go_num,E,aV3 _,λd5=>absurd d5 (by have :=i.o;omega)⟩,y.o,j.o⟩
     ·have d:decide ((x:Int)<0)=false:=bc0 E;have e2:x<=n+1:=by have :=i.o;omega
      have d8:q<x:=E;have d1:=θ c8;clear c8 e1 e0 d9;go_wp2_with fail;go_meet;case rel=>exact⟨⟨x,rfl,d8,e2,λ_=>d1.o⟩,y.o,j.o⟩
    case rest=>as_aux_lemma=>
     obtain⟨⟨r,rfl,n1,n2,n3⟩,Q,I⟩:=hcut;have N3:=θ n3;have a1:=θ Q;have D:=θ I;have e5:=(fU Q).2.2;clear n3 Q I y j P;by_cases e4:ra<r-q
     ·have d:decide ((ra:Int)<(r:Int)-q)=true:=bc2 E;have Z:=lvAdd a1.o HM.o HR.o E (pos:=q+ra) (by have :=i.o;omega);have Y:=θ Z;have c7:((q+ra:Nat):Int)=(q:Int)+ra:=E;rw[c7]at Y;clear Z;go_wp2_with fail;refine Y.o.mono ?_;rintro e w6 ⟨rfl,b0,J⟩;have c9:=θ b0;have a3:Hid (Chg (exT B X) w w6):=θ (D.o.trans J (λb g=>Ei g));have HW:Hid (rR (sM a (q+ra)) m.length ra (q+ra)):=θ (Gz (al5 H7.o _) h1 E (Nat.le_refl _) (λ_=>by unfold sM;simp) (by have :=i.o;omega));clear b0 J Y c7;go_wp2_with fail;go_roundw;case rel=>exact⟨q+ra,t+1,sM a (q+ra),by first | rfl | go_num,E,E,c9.o,by unfold sM;simp[H5.o],Kt H6.o,HW.o,a3.o⟩
      case measure=>simp[intOf];omega
     ·have d:decide ((ra:Int)<(r:Int)-q)=false:=bc0 E;have HW:Hid (rR a m.length ra r):=θ (Gz H7.o h1 n1 E N3.out (by have :=i.o;omega));go_wp2_with fail;go_roundw;case rel=>exact⟨r,t,a,rfl,E,n2,a1.o,H5.o,H6.o,HW.o,D.o⟩
      case measure=>simp[intOf];omega
end
section
variable {B:Nat}{X:Nat->Prop}{w w':World}{p pk pp:Nat}{rate mv:Int}{l m:List Int}{R:List Nat}{c:Nat}{M:Nat->Bool}
theorem ao1{R:List Nat}(a t q:Nat):lvR m (inL (bj0 R a) t q)=inL (bj0 (lvR m R) a) t (pvS m q).toNat:=by
 unfold lvR;rw[sN,tS]
theorem Mg{m:List Int}{i:Nat}(a:0<i)(h:i<m.length):pvS m i=sy m (i-1):=by
 obtain⟨j,rfl⟩:∃j,i=j+1:=⟨i-1,E⟩;exact cF h
theorem lfC_lt{R:List Nat}(d:R.Perm (List.range m.length)){a q:Nat}(g:R[a]? =some q):lfC m (R.take a) (pvS m q)<=2*m.length:=by
 unfold lfC;have e:(List.range m.length).countP (λb=>decide (sy m b<pvS m q))<=m.length:=by
  have :=aL9 (p:=λb=>decide (sy m b<pvS m q)) (l:=List.range m.length);simpa using this
 have f:(R.take a).countP (λp=>pvS m p==pvS m q)<=m.length:=by
  refine aV4 aL9 ?_;rw[aQ1];have :=d.length_eq;simp at this;omega
 omega
theorem xD{i q:Nat}{a:Int}(h:LvR B X w p pk pp rate mv m R c M)(hm:TxS m)(f:∀j,j<i->sy l j=sy m j)(hI:InvI l m i R)(hi:i<m.length)(d:R[q]? =some i)(Q:(i=0/\a= -1)\/(0<i/\∃a':Nat,a=a'/\R[a']? =some (i-1))):Calls prog 108 #[.pointer p,i,q,a] w λe w'=>e= .returned (.tuple #[])/\(∃R' y,LvR B X w' p pk pp rate y m R' c M/\IsRows m R')/\Chg (exT B X) w w':=by
 have f4:=hm.len;have W:=θ hm;have H:=θ h;have J:=θ f;have HI:=θ hI;have Z:=θ d;have b6:=θ Q;have c3:=θ hi;clear h hm f hI hi d Q;go_in;go_wp2;go_loopw [1,2,3] (λu v x wx=>∃(i q:Nat) (a:Int) (R:List Nat) (mv:Int),u= .int .i64 i/\v= .int .i64 q/\x= .int .i64 a/\LvR B X wx p pk pp rate mv m R c M/\(∀j,j<i->sy l j=sy m j)/\InvI l m i R/\i<m.length/\R[q]? =some i/\
   ((i=0/\a= -1)\/(0<i/\∃a':Nat,a=a'/\R[a']? =some (i-1)))/\Chg (exT B X) w wx) (λu _ _ _=>(intOf u).toNat)
 exact⟨i,q,a,R,mv,rfl,rfl,rfl,H.o,J.o,HI.o,c3.o,Z.o,b6.o,Chg.refl⟩;as_aux_lemma=>
  clear H J HI Z b6 c3;obtain⟨i,q,a,R,mv,rfl,rfl,rfl,h,f,hI,a3,d,Q,hc⟩:=hrel;have H:=θ h;have J:=θ f;have HI:=θ hI;have Z:=θ d;have HC:=θ hc;rcases Q with ⟨rfl,rfl⟩ | ⟨h0,a,rfl,Q⟩
  ·clear h f hI d hc;go_wp2;go_end0;exact⟨rfl,⟨R,mv,H.o,HI.o.done⟩,HC.o⟩
  ·have HA:=θ Q;have e2:=Mg h0 a3;have F:(lvR m R).length<=1000000:=by rw[cP,h.rlen];omega
   have r:=lvTo h.e (h.get d) F;rw[LvR.lf W.o,e2]at r;have z:=HI.o.step W.o.sy f h0 a3 d Q;have I:=λht=>InvI.stay W.o.sy f HI.o h0 a3 d Q ht;have T:=λh2=>HI.o.next W.o.sy f h2 a3 d Q;obtain⟨t,ht⟩:=Ey (lfC m (R.take q) (sy m (i-1)));rw[ht]at r z I;have c4:=θ r;have g:=θ z;have P:=θ I;have O:=θ T;have h9:(i:Int)<=900000:=E;have d0:decide ((0:Int)<(i:Int))=true:=bc2 E;have g0:t<=900000:=by have :=z.1;omega
   have f7:a<=900000:=by have :=(aO2.1 Q).1;have :=h.rlen;omega
   have f8:q<=900000:=by have :=(aO2.1 d).1;have :=h.rlen;omega
   clear r z I T ht h f hI d hc Q F;go_wp2_with fail;refine c4.o.mono ?_;rintro e w1 ⟨rfl,d7,c6⟩;have H1:Hid (LvR B X w1 p pk pp rate mv m R c M):=θ (H.o.step d7);have a7:Hid (Chg (exT B X) w w1):=θ (HC.o.trans c6 (λb A=>Ei A));clear d7 c6 c4 H HC;by_cases c5:a=t
   ·subst c5;have d1:((a:Int)==(a:Int))=true:=Es;have HD:=θ (P.o rfl);go_wp2_with fail
    (try simp only[Exit.inBlock,Exit.then]);refine bodyPost_ret (results_none rfl _ _ _) rfl ?_
    exact⟨rfl,⟨R,mv,H1.o,HD.o.done⟩,a7.o⟩
   ·have d1:((a:Int)==(t:Int))=false:=by rw[bb6];omega
    have f6:(a==t)=false:=by rw[bb6];exact c5
    have F:(lvR m R).length<=1000000:=by rw[cP,H1.o.rlen];have :=W.o.len;omega
    obtain⟨pw,k0,kw,hg⟩:=Ft H1.o.e (H1.o.get Z.o) F;have HG:=θ hg;clear hg P;obtain⟨cs,a9⟩:=Ey ((pvS m i).toNat);rw[a9]at HG;have e4:=θ a9;clear a9;go_wp2_with fail;refine HG.o.mono ?_;rintro e w2 ⟨rfl,d8,c7⟩;have H2:Hid (LvR B X w2 p pk pp rate mv m R c M):=θ (H1.o.step d8);have b7:Hid (Chg (exT B X) w w2):=θ (a7.o.trans c7 (λb A=>Ei A));clear d8 c7 HG H1 a7 k0 kw;obtain⟨g1,k0,kw,hg⟩:=Ft H2.o.e (H2.o.get HA.o) F;obtain⟨ds,b0⟩:=Ey ((pvS m (i-1)).toNat);rw[b0]at hg;have HG:=θ hg;have a1:=θ b0;clear hg b0;go_wp2_with fail;refine HG.o.mono ?_;rintro e w3 ⟨rfl,d9,c8⟩;have H3:Hid (LvR B X w3 p pk pp rate mv m R c M):=θ (H2.o.step d9);have Y:Hid (Chg (exT B X) w w3):=θ (b7.o.trans c8 (λb A=>Ei A));clear d9 c8 HG H2 b7 k0 kw;go_upto_if 49 with fail
    go_cut [13]from 14 to 94 (λu wx=>((i=1/\u= .int .i64 (-1))\/(2<=i/\∃nx:Nat,u= .int .i64 nx/\R[nx]? =some (i-2)))/\LvR B X wx p pk pp rate mv m R c M/\Chg (exT B X) w wx)
    case first=>as_aux_lemma=>
     by_cases h2:2<=i
     ·have d2:decide ((1:Int)<(i:Int))=true:=bc2 E;obtain⟨D,a4⟩:=O.o h2;have U:pvS m (i-1)=sy m (i-2):=by rw[Mg E E];congr 1
      have r:=lvTo H3.o.e (H3.o.get HA.o) F;have a5:=lfC_lt H3.o.perm HA.o;rw[LvR.lf W.o,U]at r;rw[U]at a5;have a2:(cs=ds↔sy m (i-1)=sy m (i-2)):=by
       have q1:=W.o.pv i;have q2:=W.o.pv (i-1);rw[e4.o,e2]at q1;rw[a1.o,U]at q2;rw[<-q1.1,<-q2.1];omega
      unfold Jj at D;obtain⟨n0,b4⟩:=Ey (lfC m (R.take a) (sy m (i-2)));rw[b4]at r D a4 a5;have HT:=θ r;have f1:n0<=4000000:=by have :=W.o.len;omega
      by_cases n:cs=ds
      ·have N:=a2.1 n;rw[bd0 N]at D;have a8:=θ D;have e3:=θ (λw=>am7 n0 q a f1 (λhc=>a4 hc N) w);have d3:((cs:Int)==(ds:Int))=true:=by rw[n];simp
       have e7:(cs==ds)=true:=by rw[n];simp
       clear r D a4 a2 N b4 n;go_wp2_with fail;refine HT.o.mono ?_;rintro e w4 ⟨rfl,S,C⟩;have V:Hid (LvR B X w4 p pk pp rate mv m R c M):=θ (H3.o.step S);have L:Hid (Chg (exT B X) w w4):=θ (Y.o.trans C (λb A=>Ei A));clear S C HT;go_wp2_with fail;refine Cq (e3.o _) ?_;go_wp2_with fail;go_meet;case rel=>exact⟨Ej ⟨h2,_,rfl,a8.o⟩,V.o,L.o⟩
      ·have N:¬sy m (i-1)=sy m (i-2):=λe=>n (a2.2 e);rw[bc9 N]at D;have a8:=θ D;have d3:((cs:Int)==(ds:Int))=false:=by rw[bb6];omega
       have e7:(cs==ds)=false:=by rw[bb6];exact n
       clear r D a4 a2 N b4 n;go_wp2_with fail;refine HT.o.mono ?_;rintro e w4 ⟨rfl,S,C⟩;have V:Hid (LvR B X w4 p pk pp rate mv m R c M):=θ (H3.o.step S);have L:Hid (Chg (exT B X) w w4):=θ (Y.o.trans C (λb A=>Ei A));clear S C HT;go_wp2_with fail;go_meet;case rel=>exact⟨Ej ⟨h2,n0,rfl,a8.o⟩,V.o,L.o⟩
     ·have d2:decide ((1:Int)<(i:Int))=false:=bc0 E;go_wp2_with fail;go_meet;case rel=>exact⟨Ei ⟨E,rfl⟩,H3.o,Y.o⟩
    case rest=>as_aux_lemma=>
     obtain⟨G,h4,C⟩:=hcut;have e6:=θ G;have V:=θ h4;have L:=θ C;have e8:=fU h4;clear G h4 C H3 Y O;go_upto_region 11 with fail
     have a0:Hid (LvR B X wc.drew p pk pp rate mv m R c M):=θ (V.o.below ⟨rfl,rfl,rfl,aV3 _,λ_ _=>rfl⟩);have a6:Hid (a<R.length):=θ (aO2.1 HA.o).1;have K:Hid (t<=(bj0 R a).length/\t<R.length):=θ (by have h1:=cA a6.o;have h2:=V.o.rlen;have h3:=g.o.1;omega);have f3:(bj0 (lvR m R) a).length+1=(lvR m R).length:=cA (aO2.1 (V.o.get HA.o)).1;refine aG (λw'=>w'.cell? p=some (.pointer pk)) Ek ((fU a0.o).1) (λhh=>?_);refine rV 0 1 2 3 hh ?_;refine rV 4 5 6 7 hh ?_;refine rU 8 9 hh ?_;refine rg 10 λκ hK=>?_;go_simp;refine(qCut a0.o.e (a0.o.get HA.o) F).2.mono ?_;rintro e w5 ⟨rfl,b1,c9⟩;rw[a1.o];have H5:=θ b1;have b8:Hid (Chg (exT B X) w w5):=θ (L.o.drew.trans c9 (λb A=>Ei A));have e9:=(Hi b1).1;clear b1 c9;refine hK.out _ _ (e9) ?_;intro hh;try simp only[pt]
     refine rg 11 λκ hK=>?_;go_simp;refine(qPut H5.o (k:=t) (s:=ds) (by rw[cP,V.o.rlen]at f3;have :=g.o.1;omega) (by have :=W.o.pv (i-1);rw[a1.o]at this;exact this.2) E).2.mono ?_;rintro e w6 ⟨rfl,b2,d4⟩;have H6:=θ b2;have b9:Hid (Chg (exT B X) w w6):=θ (b8.o.trans d4 (λb A=>Ei A));have f0:=(Hi b2).1;clear b2 d4 H5 b8;refine hK.out _ _ (f0) ?_;intro hh;try simp only[pt]
     refine rz ?_;clear hh e8 a0;obtain⟨c1,hq⟩:=Mj H6.o (a:Int) (t:Int);have b3:=Ma (M:=M) HA.o (t:=t) (by rw[V.o.rlen];exact g.o.1);rw[b3.1,b3.2]at hq;have HQ:=θ hq;clear b3 hq;go_wp2_with fail;refine HQ.o.mono ?_;rintro e w7 ⟨rfl,e0,d6⟩;have H7:Hid (LvR B X w7 p pk pp rate mv m (inL (bj0 R a) t (i-1)) c M):=θ ⟨by rw[ao1,a1.o];exact e0,g.o.2.perm⟩;have c0:Hid (Chg (exT B X) w w7):=θ (b9.o.trans d6 (λb A=>Ei A));obtain⟨k3,k4⟩:=H7.o.e.cell3;clear e0 d6 HQ c1 H6 b9 V L;obtain⟨y,f5⟩:∃y,IntKind.i64.wrap (mv+1)=y:=⟨_,rfl⟩;have b5:=H7.o.e.setM y;have H8:Hid (LvR B X (w7.setCell (p,3) (.int .i64 y)) p pk pp rate y m (inL (bj0 R a) t (i-1)) c M):=θ ⟨b5.1,H7.o.perm⟩;have c2:Hid (Chg (exT B X) w (w7.setCell (p,3) y)):=θ (c0.o.trans b5.2 (λb A=>Ei A));clear b5 H7 c0;rcases e6.o with ⟨rfl,rfl⟩ | ⟨h2,nx,rfl,G⟩
     ·go_wp2;go_roundw;exact⟨0,t,-1,_,y,by first | rfl | go_num,rfl,rfl,H8.o,λj hj=>absurd hj (Nat.not_lt_zero _),g.o.2,E,Jf K.o.1,Ei ⟨rfl,rfl⟩,c2.o⟩;simp[intOf]
     ·have e1:nx≠a:=by
       intro e;subst e;have :=HA.o;rw[G]at this;injection this with this
       omega
      have f9:nx<=900000:=by have h1:=(aO2.1 G).1;have h2:=H8.o.rlen;have h3:=kC (x:=i-1) K.o.1;have h4:=cA a6.o;omega
      have e5:=θ (ao6 (x:=i-1) G a6.o e1 K.o.2);have f2:bQ nx a<=1000000:=by unfold bQ;split<;>omega
      have HO:=θ (Ji nx a E);have HN:=θ (lvIn (bQ nx a) t f2);have d5:decide ((0:Int)<=(nx:Int))=true:=bc2 E;clear G e1;go_wp2_with fail;refine Cq (HO.o _) ?_;go_wp2_with fail;refine Cq (HN.o _) ?_;go_wp2;go_roundw;exact⟨i-1,t,_,_,y,by first | rfl | (congr 1;omega),rfl,rfl,H8.o,λj hj=>J.o j E,g.o.2,E,Jf K.o.1,Ej ⟨E,_,rfl,e5.o⟩,c2.o⟩;simp[intOf];omega
end
structure LvT (B:Nat) (X:Nat->Prop) (w:World) (p pk pp ra:Nat) (mv:Int) (t:List Int) (R:List Nat) (c:Nat) (M:Nat->Bool):Prop where
 byte:aS t
 len:t.length<=100000
 rows:IsRows (aA t) R
 lv:LvR B X w p pk pp (ra:Int) mv (aA t) R c M
 sm:rO M (t.length+1) ra
 r1:1<=ra
 r64:ra<=64
theorem Ep{t:List Int}(h:aS t)(a:t.length<=100001):TxS (aA t):=⟨dE h,mV h,by rw[aE];omega⟩
section
variable {B:Nat}{X:Nat->Prop}{w w':World}{p pk pp ra:Nat}{mv:Int}{t:List Int}{R:List Nat}{c:Nat}{M:Nat->Bool}
theorem LvT.tx (h:LvT B X w p pk pp ra mv t R c M):TxS (aA t):=Ep h.byte (by have :=h.len;omega)
theorem LvT.le (h:LvT B X w p pk pp ra mv t R c M):B<=w:=h.lv.e.le
theorem LvT.below (h:LvT B X w p pk pp ra mv t R c M)(a:Below w w w'):LvT B X w' p pk pp ra mv t R c M:=⟨h.byte,h.len,h.rows,h.lv.below a,h.sm,h.r1,h.r64⟩
theorem LvT.llen (h:LvT B X w p pk pp ra mv t R c M):(lvR (aA t) R).length=t.length+1:=by rw[cP,h.lv.rlen,aE]
theorem lM(h:LvT B X w p pk pp ra mv t R c M):Calls prog 24 #[.pointer p] w λe w'=>e= .returned t.length/\w=w':=
 Jg h.lv.e h.llen (by have :=h.len;omega)
theorem tC{l:List Int}{rate:Int}{k a:Nat}(f:TxS l)(v:IsRows l R)(m:R[k]? =some a)(o:R.Perm (List.range l.length)):∃i:Int,(∀(w':World) (mv:Int),LvR B X w' p pk pp rate mv l R c M->Calls prog 101 #[.pointer p,a,k] w' λe b=>e= .returned i/\LvR B X b p pk pp rate mv l R c M/\Chg (exT B X) w' b)/\((a=0/\i= -1)\/(0<a/\∃g:Nat,i=g/\g<=900000/\R[g]? =some (a-1))):=by
 have r:a<l.length:=aR8.1 (o.mem_iff.1 (aR5 m));have y:R.length=l.length:=by have :=o.length_eq;simpa using this
 rcases aV0 a with rfl | q
 ·refine⟨-1,λw' mv h=>(am6 w' k p).mono ?_,Ei ⟨rfl,rfl⟩⟩;rintro e b ⟨rfl,rfl⟩;exact⟨rfl,h,Chg.refl⟩
 ·obtain⟨j,rfl⟩:∃j,a=j+1:=⟨a-1,E⟩;have d:=Lj f v m;rw[Aa E]at d;refine⟨_,λw' mv h=>?_,Ej ⟨q,_,rfl,by have :=(aO2.1 d).1;have :=f.len;omega,d⟩⟩;have n:=aC6 (x:=((j+1:Nat):Int)) h.e (by rw[bb6];omega) (h.get m) (by rw[cP];have :=f.len;omega);rw[LvR.lf f]at n;refine n.mono ?_;rintro e b ⟨rfl,u,s⟩;exact⟨rfl,h.step u,s⟩
theorem am9(a:Nat)(w:World):Calls prog 115 #[.int .i64 (-1),a] w λe w'=>e= .returned (-1:Int)/\w=w':=by
 have d:decide ((a:Int)<= -1)=false:=bc0 E;go_in;go_wp2;go_ret;exact Er
theorem Zt(a:Nat)(w:World):Calls prog 109 #[.int .i64 (-1),a] w λe w'=>e= .returned (-1:Int)/\w=w':=by
 have d:decide ((a:Int)< -1)=false:=bc0 E;go_in;go_wp2;go_ret;exact Er
theorem Sd{R':List Nat}{at_ row:Nat}{av:Int}(h:(at_=0/\av= -1)\/(0<at_/\∃b:Nat,av=b/\b<=900000/\R'[b]? =some (at_-1)))(i:row<=R'.length)(q:Nat):∃a:Int,(∀w,Calls prog 115 #[av,row] w λe w'=>e= .returned a/\w=w')/\((at_=0/\a= -1)\/(0<at_/\∃g:Nat,a=g/\(inL R' row q)[g]? =some (at_-1))):=by
 rcases h with ⟨d,rfl⟩ | ⟨d,b,rfl,j,f⟩
 ·exact⟨-1,λw=>am9 row w,Ei ⟨d,rfl⟩⟩
 ·exact⟨_,λw=>lvIn b row E w,Ej ⟨d,_,rfl,in_get f i⟩⟩
theorem Lr{R':List Nat}{at_ k:Nat}{av:Int}(h:(at_=0/\av= -1)\/(0<at_/\∃a:Nat,av=a/\a<=900000/\R'[a]? =some (at_-1)))(g:R'[k]? =some at_):∃b:Int,(∀w,Calls prog 109 #[av,k] w λe w'=>e= .returned b/\w=w')/\((at_=0/\b= -1)\/(0<at_/\∃f:Nat,b=f/\f<=900000/\(bj0 R' k)[f]? =some (at_-1)/\∃a:Nat,R'[a]? =some (at_-1)/\f=bQ a k)):=by
 rcases h with ⟨i,rfl⟩ | ⟨i,a,rfl,l,d⟩
 ·exact⟨-1,λw=>Zt k w,Ei ⟨i,rfl⟩⟩
 ·have j:a≠k:=by intro e;subst e;rw[d]at g;injection g with g;omega
  exact⟨_,λw=>Ji a k E w,Ej ⟨i,_,rfl,by unfold bQ;split<;>omega,sQ d (aO2.1 g).1 j,a,d,rfl⟩⟩
theorem Kg{t:List Int}(h:aS t){k:Nat}{b:Int}(d:0<=b)(e:b<256):aS (inL t k b):=λx a=>by
 rcases aR1.1 ((fW t k b).mem_iff.1 a)with rfl | a
 ·exact⟨d,e⟩
 ·exact h x a
theorem Gl{t:List Int}(h:aS t){k:Nat}:aS (bj0 t k):=λx a=>h x ((fJ t k).subset a)
theorem Mo(L:List Nat)(k s:Nat):bB (L.set k s) k s=bB L k s:=by unfold bB;rw[List.take_set_of_le (aV3 _)]
theorem Gc(e:List Int)(s:Nat):Tl.of ((s:Int)::e)=(Tl.of e).add s 1:=by
 rw[<-Tl.of_snoc];exact Tl.of_perm (List.perm_append_singleton _ _).symm
theorem ao0(h:LvT B X w p pk pp ra mv t R c M){a b:Nat}(D:a<=t.length)(f:b<256)(hl:t.length<100000)(hc:c+t.length+10<=1000000):Calls prog 55 #[.pointer p,a, .int .u8 b] w λe w'=>e= .returned (.int .i64 0)/\(∃G R' c' M',c'<=c+t.length+5/\LvT B X w' p pk pp ra G (inL t a (b:Int)) R' c' M')/\Chg (exT B X) w w':=by
 have f5:=aE t;have f8:=h.tx;have W:TxS (aA (inL t a (b:Int))):=Ep (Kg h.byte E E) (by rw[kC D];omega);have f6:=ax8 t D (b:Int);have H:=θ h;have HT:=θ f8;have a0:=θ W;have Y:=θ f6;have d:=θ f5;have L:=θ (lM h);have b5:=θ (tO h.lv.e (a:Int) (t.length:Int) E E);have d2:=θ (λw=>rL (b:Int) w E E);clear h f8 W f6 f5;go_in;go_wp2_with fail;refine Cq L.o ?_;go_wp2_with fail;refine b5.o.mono ?_;rintro e w1 ⟨rfl,f1,e2⟩;have H1:Hid (LvR B X w1 p pk pp (ra:Int) 0 (aA t) R c M):=θ ⟨f1,H.o.lv.perm⟩;have b7:=θ e2;clear f1 e2 L b5;go_wp2_with fail;refine Cq (d2.o _) ?_;have d5:=θ (yR H1.o HT.o H.o.rows (pos:=a) (by rw[d.o];omega));go_wp2_with fail;refine d5.o.mono ?_;rintro e w2 ⟨k,rfl,hk,h2,e3⟩;have H2:=θ h2;have HK:=θ hk;have b9:Hid (Chg (exT B X) w w2):=θ (b7.o.trans e3 (λb f=>Ei f));have g4:=H2.o.rlen;have a9:(lvR (aA t) R).length<=1000000:=by have :=H.o.llen;omega
 have f4:=(aO2.1 hk).1;have a8:k<(lvR (aA t) R).length:=by rw[cP];exact f4
 obtain⟨os,z⟩:=Ey ((pvS (aA t) a).toNat);have T:=(HT.o.pv a).2;rw[z]at T;have g9:=θ z;obtain⟨pw,k0,kw,hg⟩:=Ft h2.e (h2.get hk) a9;rw[z]at hg;have HG:=θ hg;obtain⟨av,e0,v⟩:=tC (p:=p) (pk:=pk) (pp:=pp) (B:=B) (X:=X) (c:=c) (M:=M) (rate:=(ra:Int)) HT.o H.o.rows hk H.o.lv.perm;have b6:=θ e0;have g7:=θ v;obtain⟨q,r⟩:=aB8 HT.o.sy H.o.rows hk (s:=((b+1:Nat):Int)) E;have y:=ins_lv HT.o.sy H.o.rows hk (s:=((b+1:Nat):Int)) E (by have :=a0.out.sy;rw[Y.o]at this;simpa using this) (lfC (aA t) (R.take k) ((b+1:Nat):Int));rw[aK5,z,rZ _ a8]at y;have b3:cC (Tl.of (aA t)) ((b+1:Nat):Int)+bB ((lvR (aA t) R).set k (b+1)) k (b+1)=((lfC (aA t) (R.take k) ((b+1:Nat):Int):Nat):Int):=by
  rw[Bp HT.o _ E,Mo];have :=Li HT.o.sy R k (b+1);omega
 obtain⟨m,U⟩:=Ey (lfC (aA t) (R.take k) ((b+1:Nat):Int));rw[U]at q r y b3;have b0:inL (aA t) a ((b+1:Nat):Int)=aA (inL t a (b:Int)):=by rw[Y.o];rfl
 rw[b0]at r y;have g1:=θ q;have K:=θ r;have d1:=θ y;have d7:=θ b3;have C:Hid (((lvR (aA t) R).set k (b+1)).length<=1000000/\m<=((lvR (aA t) R).set k (b+1)).length):=θ (by rw[aQ0];exact⟨a9,by rw[cP];exact q⟩);have b1:=θ (ac2 (M:=M) (R:=R) q);have F:=θ (ac1 (M:=M) (R:=R) (row:=m) (at_:=a) (n:=(aA t).length) (by rw[d.o];omega));have f7:(Tl.of (aA t)).add (b+1) 1=Tl.of (aA (inL t a (b:Int))):=by
  rw[<-Gc,<-b0];exact(Tl.of_perm (fW _ _ _)).symm
 have d6:=θ f7;have b2:(R.map (upN a)).length=R.length:=aP7 _;obtain⟨h1,f3,S⟩:=Sd (R':=R.map (upN a)) (at_:=a) (row:=m) (av:=av) (by
  rcases v with h | ⟨h0,ah,e,h9,g2⟩
  ·exact Ei h
  ·refine Ej ⟨h0,ah,e,h9,?_⟩
   rw[aO3,g2]
   show some (upN a (a-1))=_
   unfold upN;rw[bd0 E]) (by rw[b2];exact q) a
 have c9:=θ f3;have d0:=θ S;have c7:Hid ((inL (R.map (upN a)) m a)[m]? =some a):=θ (Jf (by rw[b2];exact q));have Z:Hid (-(Tl.of (aA t)).N (b+1)<=1/\(1:Int)<=2147483648-(Tl.of (aA t)).all):=θ (by
  constructor
  ·show -(((cnt (aA t) ((b+1:Nat):Int)):Nat):Int)<=1;omega
  ·show (1:Int)<=2147483648-(((aA t).length:Nat):Int);rw[d.o];omega)
 have d8:Hid (((b+1:Nat):Int)=(b:Int)+1):=θ E;have a2:b+1<257:=E;clear hk h2 e3 d5 H1 b7 d2 g4 f4 z hg e0 v q r y b3 U b0 f7 b2 f3 S;rw[<-d8.o];obtain⟨sb,g5⟩:=Ey (b+1);rw[g5]at d1 d7 C d6 Z a2⊢;clear d8;go_wp2_with fail;refine HG.o.mono ?_;rintro e w3 ⟨rfl,f2,e4⟩;have H3:Hid (LvR B X w3 p pk pp (ra:Int) 0 (aA t) R c M):=θ (H2.o.step f2);have c0:Hid (Chg (exT B X) w w3):=θ (b9.o.trans e4 (λb f=>Ei f));clear f2 e4 HG H2 b9 k0 kw;go_wp2_with fail;refine(b6.o _ _ H3.o).mono ?_;rintro e w4 ⟨rfl,h4,e5⟩;have H4:=θ h4;have c1:Hid (Chg (exT B X) w w4):=θ (c0.o.trans e5 (λb f=>Ei f));obtain⟨k0,g⟩:=Fs h4.e (k:=k) (s:=sb) a8 a2 a9;have u:=θ g;clear h4 e5 b6 H3 c0 g;go_wp2_with fail;refine u.o.mono ?_;rintro e w5 ⟨rfl,a3,e6⟩;have H5:=θ a3;have c2:Hid (Chg (exT B X) w w5):=θ (c1.o.trans e6 (λb f=>Ei f));have g:=lvTo a3 (i:=k) (s:=sb) (by rw[aO5,bd0 rfl,bd0 a8]) C.o.1;rw[d7.o]at g;have u:=θ g;clear a3 e6 c1 H4 k0 g;go_wp2_with fail;refine u.o.mono ?_;rintro e w6 ⟨rfl,a4,e7⟩;have H6:=θ a4;have c3:Hid (Chg (exT B X) w w6):=θ (c2.o.trans e7 (λb f=>Ei f));obtain⟨k0,g⟩:=qPut a4 (k:=m) (s:=os) C.o.2 T C.o.1;rw[<-d1.o]at g;have u:=θ g;clear a4 e7 c2 H5 g;go_wp2_with fail;refine u.o.mono ?_;rintro e w7 ⟨rfl,a5,e8⟩;have H7:=θ a5;have c4:Hid (Chg (exT B X) w w7):=θ (c3.o.trans e8 (λb f=>Ei f));obtain⟨k0,g⟩:=Dl a5 (s:=sb) (n:=1) a2 Z.o.1 Z.o.2;rw[d6.o]at g;have u:=θ g;clear a5 e8 c3 H6 g;go_wp2_with fail;refine u.o.mono ?_;rintro e w8 ⟨rfl,a6,e9⟩;have H8:=θ a6;have c5:Hid (Chg (exT B X) w w8):=θ (c4.o.trans e9 (λb f=>Ei f));obtain⟨k1,g⟩:=qRowIn a6 (m:Int) (by rw[b1.out.1];rw[kC (by rw[kU];exact g1.o),kU];have :=H.o.lv.rlen;have :=d.o;omega);rw[b1.out.1,b1.out.2]at g;have u:=θ g;clear a6 e9 c4 H7 g;go_wp2_with fail;refine u.o.mono ?_;rintro e w9 ⟨rfl,a7,f0⟩;have H9:=θ a7;have c6:Hid (Chg (exT B X) w w9):=θ (c5.o.trans f0 (λb f=>Ei f));obtain⟨k1,g⟩:=qPosIn a7 (a:Int) (by rw[F.out.2.2];have :=d.o;omega);rw[F.out.1,F.out.2.1,F.out.2.2]at g;have u:=θ g;clear a7 f0 c5 H8 g;go_wp2_with fail;refine u.o.mono ?_;rintro e f9 ⟨rfl,x,O⟩;have hN:(aA t).length+1=(aA (inL t a (b:Int))).length:=by rw[aE,aE,kC D]
 rw[hN]at x;have b4:Hid (LvR B X f9 p pk pp (ra:Int) 0 (aA (inL t a (b:Int))) (inL (R.map (upN a)) m a) c (upM M a)):=θ ⟨x,K.o.perm⟩;have I:Hid (Chg (exT B X) w f9):=θ (c6.o.trans O (λb f=>Ei f));clear x O c6 H9 k1;go_wp2_with fail;refine Cq (c9.o _) ?_;have d4:=θ (xD (l:=aA t) b4.o a0.out (λj hj=>by rw[Y.o,oE (by have :=d.o;omega),bd0 hj]) K.o (by rw[<-hN,d.o];omega) c7.o d0.o);clear c9 b4;go_wp2_with fail;refine d4.o.mono ?_;rintro e g6 ⟨rfl,⟨R',G,a1,A⟩,P⟩;have g8:=θ a1;have d3:=θ A;have J:Hid (Chg (exT B X) w g6):=θ (I.o.trans P (λb f=>Ei f));have c8:=θ (Zr (at_:=a) a1 a0.out A H.o.r1 H.o.r64 (by rw[<-hN,d.o];omega) (by
  rw[<-hN]
  exact aB3 (by rw[d.o];exact H.o.sm) (by rw[d.o];omega)) (by rw[<-hN,d.o];omega))
 clear a1 A P d4 I;go_wp2_with fail;refine c8.o.mono ?_;rintro e g0 ⟨rfl,⟨c',M',e1,d9,V⟩,Q⟩;have HF:Hid (LvT B X g0 p pk pp ra G (inL t a (b:Int)) R' c' M'):=θ ⟨Kg H.o.byte E E,by rw[kC D];omega,d3.o,d9,by rw[<-aE];exact V,H.o.r1,H.o.r64⟩;have b8:Hid (Chg (exT B X) w g0):=θ (J.o.trans Q (λb f=>Ei f));have g3:c'<=c+t.length+5:=by rw[<-hN,d.o]at e1;omega
 clear d9 V Q e1 c8 J;go_wp2;go_ret;exact⟨rfl,⟨G,R',c',M',g3,HF.o⟩,b8.o⟩
end
theorem qA{m:List Int}(a:IsSyms m)(R:List Nat):aO m R=bH (lvR m R):=by
 unfold aO bH lvR;rw[aQ6];apply aQ3;intro q _;have :=Mf a q;show pvS m q=(((pvS m q).toNat:Nat):Int);omega
theorem yX{t:List Int}{R:List Nat}(a:aS t)(b:IsRows (aA t) R):RW t R (lvR (aA t) R):=⟨a,b,qA (dE a) R⟩
theorem El{t:List Int}{R:List Nat}(a:aS t)(b:IsRows (aA t) R):Tl.of (bH (lvR (aA t) R))=Tl.of (aA t):=by
 rw[<-qA (dE a)];exact Tl.of_perm (oA b)
theorem aH6(e:List Int)(s:Nat):((Tl.of e).add s 1).add s (-1)=Tl.of e:=by
 show (⟨_,_⟩:Tl)=⟨_,_⟩;congr 1
 ·funext x;show upd (upd (Tl.of e).N s ((Tl.of e).N s+1)) s (upd (Tl.of e).N s ((Tl.of e).N s+1) s+ -1) x=(Tl.of e).N x;by_cases h:x=s
  ·subst h;unfold upd;simp only[bd1];omega
  ·unfold upd;rw[bc9 h,bc9 h]
 ·show (e.length:Int)+1+ -1=_;omega
theorem Tk{l e:List Int}{s:Nat}(h:l.Perm ((s:Int)::e)):(Tl.of l).add s (-1)=Tl.of e:=by
 rw[Tl.of_perm h,Gc,aH6]
section
variable {B:Nat}{X:Nat->Prop}{w w':World}{p pk pp ra:Nat}{mv:Int}{t:List Int}{R:List Nat}{c:Nat}{M:Nat->Bool}
theorem lrOn{a:Int}(h:LvR B X w p pk pp a mv (aA t) R c M)(m:aS t)(o:IsRows (aA t) R)(F:t.length<=100000)(f:BitTab w)(v:0<B){i q:Nat}(x:R[i]? =some q)(G:q<t.length):w.cell? p=some (.pointer pk)/\∃j:Nat,R[j]? =some (q+1)/\Calls prog 60 #[.pointer pk,i] w λe w'=>e= .returned j/\LvR B X w' p pk pp a mv (aA t) R c M/\Chg (exT B X) w w':=by
 have l:=yX m o;have r:=h.rlen;rw[aE]at r;have b:i<=t.length:=by have :=(aO2.1 x).1;omega
 have u:ro R i=q:=by unfold ro;rw[x];rfl
 obtain⟨j,C,k,D,y⟩:=l.onSel b;have n:=(l.frowI b).2;have g:=l.which b;rw[El m o]at g;have d:=qOn h.e f v (i:=i) (s:=bj1 t R i) (by rw[cP,h.rlen,aE];omega) n g (by rw[cP,h.rlen,aE];omega);have e:cC (Tl.of (aA t)) (bj1 t R i:Nat)=(aN (bH (lvR (aA t) R)) (bj1 t R i:Int):Int):=by
  rw[<-El m o];exact ag2 _ E
 rw[e,y]at d;refine⟨d.1,j,?_,d.2.mono ?_⟩
 ·rw[u,aW1 E]at k;unfold ro at k;rw[cL E]at k;rw[aO0 E,k]
 ·rintro e w' ⟨rfl,A,z⟩;exact⟨rfl,h.step A,z⟩
theorem am8(h:LvT B X w p pk pp ra mv t R c M)(d6:BitTab w)(g0:0<B){a:Nat}(r:a<t.length)(hc:c+t.length+10<=1000000):Calls prog 53 #[.pointer p,a] w λe w'=>e= .returned (.int .i64 0)/\(∃K R' c' M',c'<=c+t.length+5/\LvT B X w' p pk pp ra K (bj0 t a) R' c' M')/\Chg (exT B X) w w':=by
 have f5:=aE t;have h6:=h.len;have g1:=h.tx;have i2:=cA r;have a5:TxS (aA (bj0 t a)):=Ep (Gl h.byte) E;have f6:=af8 t r;have H:=θ h;have HT:=θ g1;have a7:=θ a5;have D:=θ f6;have g:=θ f5;have S:=θ (lM h);have b3:=θ (tO h.lv.e (a:Int) ((t.length:Int)-1) E E);clear h g1 a5 f6 f5;go_in;go_wp2_with fail;refine Cq S.o ?_;go_wp2_with fail;refine b3.o.mono ?_;rintro e w1 ⟨rfl,e9,e0⟩;have H1:Hid (LvR B X w1 p pk pp (ra:Int) 0 (aA t) R c M):=θ ⟨e9,H.o.lv.perm⟩;have b5:=θ e0;clear e9 e0 S b3;have d2:=θ (yR H1.o HT.o H.o.rows (pos:=a) (by rw[g.o];omega));go_wp2_with fail;refine d2.o.mono ?_;rintro e w2 ⟨k,rfl,x,h2,e1⟩;have H2:=θ h2;have HK:=θ x;have a6:Hid (Chg (exT B X) w w2):=θ (b5.o.trans e1 (λb d=>Ei d));have h8:=h2.rlen;have I:(lvR (aA t) R).length<=1000000:=by have :=H.o.llen;omega
 have a9:=(aO2.1 x).1;have i1:k<(lvR (aA t) R).length:=by rw[cP];exact a9
 obtain⟨C,bh,i,f8⟩:=lrOn h2 H.o.byte H.o.rows h6 (d6.below (bZ a6.o H.o.le) g0) g0 x r;have c9:=θ f8;have g5:=θ i;have d8:=(aO2.1 i).1;have h1:bh<(lvR (aA t) R).length:=by rw[cP];exact d8
 have b0:k≠bh:=by intro e;subst e;rw[x]at i;injection i with i;omega
 obtain⟨av,d7,U⟩:=tC (p:=p) (pk:=pk) (pp:=pp) (B:=B) (X:=X) (c:=c) (M:=M) (rate:=(ra:Int)) HT.o H.o.rows x H.o.lv.perm;have b4:=θ d7;obtain⟨os,y⟩:=Ey ((pvS (aA t) a).toNat);have a1:=(HT.o.pv a).2;rw[y]at a1;obtain⟨bs,a8⟩:=Ey ((pvS (aA t) (a+1)).toNat);have q:=HT.o.pv (a+1);rw[a8,cF (by rw[g.o];omega)]at q;have g8:=θ y;have g6:=θ a8;have v:=aA9 HT.o.sy H.o.rows x (by rw[g.o];omega);have J:=del_lv HT.o.sy H.o.rows x i (by rw[<-D.o];exact a7.out.sy) (by rw[g.o];omega);rw[y]at J;rw[<-D.o]at v J;have m:(aA t).Perm ((bs:Int)::aA (bj0 t a)):=by
  rw[D.o,q.1];exact eF (by rw[gK (by rw[g.o];omega)];exact aO0 _)
 have a4:=Tk m;have Q:=θ v;have g7:=θ J;have g9:=θ a4;have f7:a∉bj0 R k:=by
  have h7:(a::bj0 R k).Nodup:=(eF x).nodup_iff.1 H.o.rows.nodup;exact(aS2.1 h7).1
 have f9:=θ (Vg (M:=M) (R:=R) a9);have b1:=θ (Vf (M:=M) (R:=bj0 R k) (at_:=a) (n:=(aA t).length) (by rw[g.o];omega) f7);obtain⟨d3,a2,z⟩:=Lr (R':=R) (at_:=a) (k:=k) (av:=av) U x;have T:=θ a2;have g4:Hid ((a=0/\d3= -1)\/(0<a/\∃a':Nat,d3=a'/\((bj0 R k).map (dpN a))[a']? =some (a-1))):=θ (by
  rcases z with h | ⟨h0,a',e,_,ha,_⟩
  ·exact Ei h
  ·refine Ej ⟨h0,a',e,?_⟩
   rw[aO3,ha]
   show some (dpN a (a-1))=_
   unfold dpN;rw[bd0 E])
 have c5:Hid (((bj0 R k).map (dpN a))[bQ bh k]? =some a):=θ (by
  rw[aO3,sQ i a9 (λe=>b0 e.symm)]
  show some (dpN a (a+1))=_
  unfold dpN;rw[bc9 E];rfl)
 have c8:=θ (λw=>Ji bh k E w);have c7:Hid (-(Tl.of (aA t)).N bs<= -1/\(-1:Int)<=2147483648-(Tl.of (aA t)).all):=θ (by
  constructor
  ·show -(((cnt (aA t) (bs:Int)):Nat):Int)<= -1
   rw[Aj m]
   have :1<=cnt ((bs:Int)::aA (bj0 t a)) (bs:Int):=by unfold cnt;rw[aL7];simp
   omega
  ·show (-1:Int)<=2147483648-(((aA t).length:Nat):Int);rw[g.o];omega)
 have c4:Hid (((lvR (aA t) R).set bh os)[k]? =some os/\((lvR (aA t) R).set bh os).length<=1000000):=θ ⟨by rw[aO5,bc9 (λe=>b0 e.symm),yQ x,y],by rw[aQ0];exact I⟩;have G:=q.2;clear x h2 e1 d2 H1 b5 h8 i f8 d8 b0 d7 U y a8 q v J m a4 f7 a2 z;go_wp2_with fail;refine c9.o.mono ?_;rintro e w3 ⟨rfl,h3,e2⟩;have H3:=θ h3;have b7:Hid (Chg (exT B X) w w3):=θ (a6.o.trans e2 (λb d=>Ei d));clear h3 e2 c9 H2 a6 C;go_wp2_with fail;refine(b4.o _ _ H3.o).mono ?_;rintro e w4 ⟨rfl,h4,e3⟩;have H4:=θ h4;have b8:Hid (Chg (exT B X) w w4):=θ (b7.o.trans e3 (λb d=>Ei d));obtain⟨pw,C,kw,hg⟩:=Ft h4.e (h4.get g5.o) I;rw[g6.o]at hg;have HG:=θ hg;clear h4 e3 b4 H3 b7 hg;go_wp2_with fail;refine HG.o.mono ?_;rintro e w5 ⟨rfl,f0,e4⟩;have H5:Hid (LvR B X w5 p pk pp (ra:Int) 0 (aA t) R c M):=θ (H4.o.step f0);have b9:Hid (Chg (exT B X) w w5):=θ (b8.o.trans e4 (λb d=>Ei d));clear f0 e4 HG H4 b8 C kw;obtain⟨i3,C,kw,hg⟩:=Ft H5.o.e (H5.o.get HK.o) I;rw[g8.o]at hg;have HG:=θ hg;clear hg;go_wp2_with fail;refine HG.o.mono ?_;rintro e w6 ⟨rfl,f1,e5⟩;have c0:Hid (Chg (exT B X) w w6):=θ (b9.o.trans e5 (λb d=>Ei d));clear C kw;obtain⟨C,f⟩:=Fs f1 (k:=bh) (s:=os) h1 a1 I;have F:=θ f;clear f1 e5 HG H5 b9 f;go_wp2_with fail;refine F.o.mono ?_;rintro e w7 ⟨rfl,f2,e6⟩;have c1:Hid (Chg (exT B X) w w7):=θ (c0.o.trans e6 (λb d=>Ei d));clear C;obtain⟨C,f⟩:=qCut f2 (k:=k) (s:=os) c4.o.1 c4.o.2;rw[<-g7.o]at f;have F:=θ f;clear f2 e6 c0 f;go_wp2_with fail;refine F.o.mono ?_;rintro e w8 ⟨rfl,f3,e7⟩;have c2:Hid (Chg (exT B X) w w8):=θ (c1.o.trans e7 (λb d=>Ei d));clear C;obtain⟨C,f⟩:=Dl f3 (s:=bs) (n:= -1) G c7.o.1 c7.o.2;rw[g9.o]at f;have F:=θ f;clear f3 e7 c1 f;go_wp2_with fail;refine F.o.mono ?_;rintro e w9 ⟨rfl,f4,e8⟩;have c3:Hid (Chg (exT B X) w w9):=θ (c2.o.trans e8 (λb d=>Ei d));obtain⟨k1,f⟩:=aF2 f4 (k:Int);rw[f9.out.1,f9.out.2]at f;have F:=θ f;clear f4 e8 c2 f C;go_wp2_with fail;refine F.o.mono ?_;rintro e h9 ⟨rfl,a0,V⟩;have L:Hid (Chg (exT B X) w h9):=θ (c3.o.trans V (λb d=>Ei d));clear k1;obtain⟨k1,f⟩:=aF1 a0 (a:Int);rw[b1.out.1,b1.out.2.1,b1.out.2.2]at f;have F:=θ f;clear a0 V c3 f;have HN:Hid ((aA t).length-1=(aA (bj0 t a)).length/\(aA (bj0 t a)).length=t.length):=θ (by rw[aE,aE];omega);go_wp2_with fail;refine F.o.mono ?_;rintro e g2 ⟨rfl,u,W⟩;rw[HN.o.1]at u;have b2:Hid (LvR B X g2 p pk pp (ra:Int) 0 (aA (bj0 t a)) ((bj0 R k).map (dpN a)) c (dpM M a)):=θ ⟨u,Q.o.perm⟩;have O:Hid (Chg (exT B X) w g2):=θ (L.o.trans W (λb d=>Ei d));clear u W L k1;go_wp2_with fail;refine Cq (c8.o _) ?_;go_wp2_with fail;refine Cq (T.o _) ?_;have d1:=θ (xD (l:=aA t) b2.o a7.out (λj hj=>by rw[D.o,sV (by have :=g.o;omega),bd0 hj]) Q.o (by rw[HN.o.2];exact r) c5.o g4.o);clear c8 T b2;go_wp2_with fail;refine d1.o.mono ?_;rintro e i0 ⟨rfl,⟨R',K,d4,A⟩,Y⟩;have d0:=θ A;have P:Hid (Chg (exT B X) w i0):=θ (O.o.trans Y (λb d=>Ei d));have c6:=θ (Zr (at_:=a) d4 a7.out A H.o.r1 H.o.r64 (by rw[HN.o.2];exact r) (by
  rw[HN.o.2]
  exact al7 H.o.sm) (by rw[HN.o.2];omega))
 clear d4 A Y d1 O;go_wp2_with fail;refine c6.o.mono ?_;rintro e g3 ⟨rfl,⟨c',M',d9,d5,a3⟩,Z⟩;have HF:Hid (LvT B X g3 p pk pp ra K (bj0 t a) R' c' M'):=θ ⟨Gl H.o.byte,E,d0.o,d5,by rw[<-aE];exact a3,H.o.r1,H.o.r64⟩;have b6:Hid (Chg (exT B X) w g3):=θ (P.o.trans Z (λb d=>Ei d));have h5:c'<=c+t.length+5:=by rw[HN.o.2]at d9;omega
 clear d5 a3 Z d9 c6 P;go_wp2;go_ret;exact⟨rfl,⟨K,R',c',M',h5,HF.o⟩,b6.o⟩
end
theorem at9{h:Type}(L:List h){k b:Nat}(x:h)(e:k<L.length)(i:k≠b):bj0 (L.set b x) k=(bj0 L k).set (bQ b k) x:=by
 apply aM9;intro j;have l:=cA e;rw[dF _ (by rw[aQ0];exact e),aO5,aO5,aO5,dF L e];unfold bQ;by_cases f:j<k
 ·simp only[bd0 f];by_cases d:k<b
  ·rw[bd0 d,bc9 E,bc9 E]
  ·rw[bc9 d];by_cases a:b=j
   ·rw[bd0 a,bd0 a,bd0 E,bd0 E]
   ·rw[bc9 a,bc9 a]
 ·simp only[bc9 f];by_cases d:k<b
  ·rw[bd0 d];by_cases a:b=j+1
   ·rw[bd0 a];by_cases g:b<L.length
    ·rw[bd0 g,bd0 (show b-1=j by omega),bd0 E]
    ·rw[bc9 g,bd0 (show b-1=j by omega),bc9 E]
   ·rw[bc9 a,bc9 E]
  ·rw[bc9 d,bc9 E,bc9 E]
theorem ay1{e:List Int}(h:∀x∈e,0<=x)(s:Nat)(a:s<257):cC (Tl.of e) s=(aN e (s:Int):Int):=by
 unfold cC;rw[show iM (s:Int)=s by unfold iM;omega];exact kM h s
theorem Yc{t:List Int}(h:aS t){k:Nat}{b:Int}(d:0<=b)(e:b<256):aS (t.set k b):=λx a=>by
 rcases List.mem_or_eq_of_mem_set a with a | rfl
 ·exact h x a
 ·exact⟨d,e⟩
section
variable {B:Nat}{X:Nat->Prop}{w w':World}{p pk pp ra:Nat}{mv:Int}{t:List Int}{R:List Nat}{c:Nat}{M:Nat->Bool}
theorem lvSet(h:LvT B X w p pk pp ra mv t R c M)(i9:BitTab w)(m0:0<B){a b:Nat}(a8:a<t.length)(i:b<256):Calls prog 54 #[.pointer p,a, .int .u8 b] w λe w'=>e= .returned (.int .i64 0)/\(∃S R',LvT B X w' p pk pp ra S (t.set a (b:Int)) R' c M)/\Chg (exT B X) w w':=by
 have l2:=aE t;have l3:=h.len;have m1:=h.tx;have Z:aS (t.set a (b:Int)):=Yc h.byte E E;have e0:TxS (aA (t.set a (b:Int))):=Ep Z (by rw[aQ0];omega);have l4:=af9 t a8 (b:Int);have H:=θ h;have HT:=θ m1;have i4:=θ e0;have J:=θ l4;have g:=θ l2;have m4:=θ Z;have b7:=θ (lM h);have f6:=θ (tO h.lv.e (a:Int) ((t.length:Int)-1) E E);have e5:=θ (λw=>rL (b:Int) w E E);clear h m1 e0 l4 l2 Z;go_in;go_wp2_with fail;refine Cq b7.o ?_;go_wp2_with fail;refine f6.o.mono ?_;rintro e w1 ⟨rfl,k2,j2⟩;have H1:Hid (LvR B X w1 p pk pp (ra:Int) 0 (aA t) R c M):=θ ⟨k2,H.o.lv.perm⟩;have f9:=θ j2;clear k2 j2 b7 f6;have i0:=θ (yR H1.o HT.o H.o.rows (pos:=a) (by rw[g.o];omega));go_wp2_with fail;refine i0.o.mono ?_;rintro e w2 ⟨k,rfl,hk,h2,j3⟩;have H2:=θ h2;have HK:=θ hk;have e2:Hid (Chg (exT B X) w w2):=θ (f9.o.trans j3 (λb i=>Ei i));have n8:=h2.rlen;have e9:(lvR (aA t) R).length<=1000000:=by have :=H.o.llen;omega
 have e7:=(aO2.1 hk).1;have l1:k<(lvR (aA t) R).length:=by rw[cP];exact e7
 obtain⟨P,A,K,f0⟩:=lrOn h2 H.o.byte H.o.rows l3 (i9.below (bZ e2.o H.o.le) m0) m0 hk a8;have h6:=θ f0;have e1:=θ K;have n4:=(aO2.1 K).1;have n5:A<(lvR (aA t) R).length:=by rw[cP];exact n4
 have l0:k≠A:=by intro e;subst e;rw[hk]at K;injection K with K;omega
 obtain⟨av,j1,c0⟩:=tC (p:=p) (pk:=pk) (pp:=pp) (B:=B) (X:=X) (c:=c) (M:=M) (rate:=(ra:Int)) HT.o H.o.rows hk H.o.lv.perm;have f7:=θ j1;have f8:=θ c0;obtain⟨os,f1⟩:=Ey ((pvS (aA t) a).toNat);have G:=HT.o.pv a;rw[f1]at G;obtain⟨W,e6⟩:=Ey ((pvS (aA t) (a+1)).toNat);have F:=HT.o.pv (a+1);rw[e6,cF (by rw[g.o];omega)]at F;have h7:=θ f1;have b8:=θ G;have m5:=θ e6;have T:=θ F;obtain⟨f,o7⟩:=Ey (b+1);have l8:(b:Int)+1=(f:Int):=E;have a3:0<f/\f<257:=E;rw[l8]at J e5;have l6:=G.2;have a9:=F.2;clear hk h2 j3 i0 H1 f9 K f0 j1 c0 f1 G e6 F;go_wp2_with fail;refine Cq (e5.o _) ?_;go_wp2_with fail;refine h6.o.mono ?_;rintro e w3 ⟨rfl,h3,j4⟩;have H3:=θ h3;have g1:Hid (Chg (exT B X) w w3):=θ (e2.o.trans j4 (λb i=>Ei i));clear h3 j4 h6 H2 e2 P e5;go_wp2_with fail;refine(f7.o _ _ H3.o).mono ?_;rintro e w4 ⟨rfl,h4,j5⟩;have H4:=θ h4;have g2:Hid (Chg (exT B X) w w4):=θ (g1.o.trans j5 (λb i=>Ei i));obtain⟨pw,P,kw,hg⟩:=Ft h4.e (h4.get e1.o) e9;rw[m5.o]at hg;have HG:=θ hg;clear h4 j5 f7 H3 g1 hg;go_wp2_with fail;refine HG.o.mono ?_;rintro e w5 ⟨rfl,k5,j6⟩;have H5:Hid (LvR B X w5 p pk pp (ra:Int) 0 (aA t) R c M):=θ (H4.o.step k5);have e3:Hid (Chg (exT B X) w w5):=θ (g2.o.trans j6 (λb i=>Ei i));clear k5 j6 HG H4 g2 P kw;by_cases q:W=f
 ·have d1:((W:Int)==(f:Int))=true:=by rw[q];simp
  have n0:(W==f)=true:=by rw[q];simp
  have m8:Hid (t.set a (b:Int)=t):=θ (by
   have h1:=T.o.1
   have h2:=kH a8
   have e:t[a]=(b:Int):=E
   rw[<-e];exact List.set_getElem_self a8)
  clear q;go_wp2;go_ret;rw[m8.o];exact⟨rfl,⟨0,R,⟨H.o.byte,H.o.len,H.o.rows,H5.o,H.o.sm,H.o.r1,H.o.r64⟩⟩,e3.o⟩
 ·have d1:((W:Int)==(f:Int))=false:=by rw[bb6];omega
  have n0:(W==f)=false:=by rw[bb6];exact q
  have l5:sy (aA t) a≠(f:Int):=by rw[<-T.o.1];omega
  have n8:R.length=t.length+1:=by rw[H.o.lv.rlen,g.o]
  have f2:(aA t).Perm ((W:Int)::bj0 (aA t) a):=by
   rw[T.o.1];exact eF (by rw[gK (by rw[g.o];omega)];exact aO0 _)
  have l7:(aA (t.set a (b:Int))).Perm ((f:Int)::bj0 (aA t) a):=by
   rw[J.o,<-rZ _ (show a<(aA t).length by rw[g.o];omega)];exact fW _ _ _
  have i5:=θ (Tk f2);have i6:Hid ((Tl.of (bj0 (aA t) a)).add f 1=Tl.of (aA (t.set a (b:Int)))):=θ (by rw[<-Gc];exact(Tl.of_perm l7).symm);have f0:=cA (l:=aA t) (k:=a) (by rw[g.o];omega);have a5:Hid ((-(Tl.of (aA t)).N W<= -1/\(-1:Int)<=2147483648-(Tl.of (aA t)).all)/\(-(Tl.of (bj0 (aA t) a)).N f<=1/\(1:Int)<=2147483648-(Tl.of (bj0 (aA t) a)).all)):=θ (by
   refine⟨⟨?_,?_⟩,?_,?_⟩
   ·show -(((cnt (aA t) (W:Int)):Nat):Int)<= -1
    rw[Aj f2]
    have :1<=cnt ((W:Int)::bj0 (aA t) a) (W:Int):=by unfold cnt;rw[aL7];simp
    omega
   ·show (-1:Int)<=2147483648-(((aA t).length:Nat):Int);rw[g.o];omega
   ·show -(((cnt (bj0 (aA t) a) (f:Int)):Nat):Int)<=1;omega
   ·show (1:Int)<=2147483648-(((bj0 (aA t) a).length:Nat):Int);have :=g.o;omega)
  have g6:Hid (((lvR (aA t) R).set A f)[k]? =some os/\((lvR (aA t) R).set A f).length<=1000000):=θ ⟨by rw[aO5,bc9 (λe=>l0 e.symm),yQ HK.o,h7.o],by rw[aQ0];exact e9⟩;obtain⟨m9,d8,a2⟩:=Lr (R':=R) (at_:=a) (k:=k) (av:=av) f8.o HK.o;have b9:=θ d8;have V:=θ a2;have h5:=θ (λw=>Ji A k E w);obtain⟨L2,a7⟩:=Ey (bj0 ((lvR (aA t) R).set A f) k);have Y:L2=(bj0 (lvR (aA t) R) k).set (bQ A k) f:=by rw[<-a7];exact at9 _ _ l1 l0
  have d7:=cA l1;have n6:bQ A k<(bj0 (lvR (aA t) R) k).length:=by unfold bQ;split<;>omega
  have r:Hid (L2[bQ A k]? =some f/\L2.length<=1000000/\L2.length+1=R.length):=θ (by
   rw[Y,aQ0]
   refine⟨by rw[aO5,bd0 rfl,bd0 n6],E,?_⟩
   rw[d7,cP])
  obtain⟨Q,e8⟩:=Ey (aN (bj0 (aA t) a) (f:Int)+((bj0 R k).take (bQ A k)).countP (λp=>pvS (aA t) p==(f:Int)));have m7:Hid (cC (Tl.of (bj0 (aA t) a)) (f:Int)+bB L2 (bQ A k) f=(Q:Int)):=θ (by
   rw[ay1 (λx hx=>(HT.o.rng x ((fJ _ _).subset hx)).1) f a3.2,Y,Mo]
   have e:bj0 (lvR (aA t) R) k=lvR (aA t) (bj0 R k):=(tS _ _ _).symm
   rw[e,Mm HT.o.sy]
   omega)
  have a4:=λd z=>aF8 (row:=d) HT.o.sy H.o.rows HK.o e1.o (by rw[g.o];omega) E l5 z;have I:=λd=>set_lv (s:=(f:Int)) HT.o.sy H.o.rows HK.o e1.o (by have :=i4.out.sy;rw[J.o]at this;exact this) (by rw[g.o];omega) d;rw[aK5,h7.o,a7]at I;rw[e8,<-J.o]at a4;rw[<-J.o]at I;have o4:Q<=300000:=by
   rw[<-e8];have h1:aN (bj0 (aA t) a) (f:Int)<=(bj0 (aA t) a).length:=by unfold aN;exact aL9
   have h2:((bj0 R k).take (bQ A k)).countP (λp=>pvS (aA t) p==(f:Int))<=bQ A k:=aV4 aL9 (by rw[aQ1];omega);have h3:bQ A k<=A:=by unfold bQ;split<;>omega
   have :=g.o;omega
  have i1:=θ a4;have i2:=θ I;clear a4 I Y d7 f2 l7 d8 a2 l5 q e8;obtain⟨P,m⟩:=Fs H5.o.e (k:=A) (s:=f) n5 a3.2 e9;have D:=θ m;clear m;go_wp2_with fail;refine D.o.mono ?_;rintro e w7 ⟨rfl,k6,j7⟩;have g3:Hid (Chg (exT B X) w w7):=θ (e3.o.trans j7 (λb i=>Ei i));clear P;obtain⟨P,m⟩:=qCut k6 (k:=k) (s:=os) g6.o.1 g6.o.2;rw[a7]at m;have D:=θ m;clear k6 j7 e3 H5 m a7;go_wp2_with fail;refine D.o.mono ?_;rintro e w8 ⟨rfl,k7,j8⟩;have g4:Hid (Chg (exT B X) w w8):=θ (g3.o.trans j8 (λb i=>Ei i));clear P;obtain⟨P,m⟩:=Dl k7 (s:=W) (n:= -1) a9 a5.o.1.1 a5.o.1.2;rw[i5.o]at m;have D:=θ m;clear k7 j8 g3 m;go_wp2_with fail;refine D.o.mono ?_;rintro e w9 ⟨rfl,k8,j9⟩;have g5:Hid (Chg (exT B X) w w9):=θ (g4.o.trans j9 (λb i=>Ei i));have m:=lvTo k8 r.o.1 r.o.2.1;rw[m7.o]at m;have D:=θ m;clear k8 j9 g4 m P;go_wp2_with fail;refine Cq (h5.o _) ?_;go_wp2_with fail;refine D.o.mono ?_;rintro e f3 ⟨rfl,c7,c1⟩;have b5:=θ c7;have b1:Hid (Chg (exT B X) w f3):=θ (g5.o.trans c1 (λb i=>Ei i));clear c7 c1 g5;go_wp2_with fail;refine Cq (b9.o _) ?_;clear h5 b9;go_upto_region 13 with fail
  go_cut [90] (λu wx=>f3=wx/\∃cb:Bool,u= .bool cb/\((cb=false/\pvS (aA t) a≠(f:Int))\/(pvS (aA t) a=(f:Int)/\∃y:Nat,R[y]? =some (a-1)/\0<a/\(cb=true↔bQ y k<=Q))));case first=>as_aux_lemma=>
   by_cases v:os=f
   ·have L:pvS (aA t) a=(f:Int):=by rw[<-b8.o.1,v]
    have d2:((os:Int)==(f:Int))=true:=by rw[v];simp
    have n1:(os==f)=true:=by rw[v];simp
    rcases V.o with ⟨h0,_⟩ | ⟨h0,a',rfl,o6,_,y,j0,rfl⟩
    ·exfalso;rw[h0,fA HT.o.sy]at L;omega
    ·have f5:=θ j0;have a6:=θ L;clear j0 L v;by_cases b0:bQ y k<=Q
     ·have d3:decide (((bQ y k:Nat):Int)<=(Q:Int))=true:=bc2 E;have n2:decide (bQ y k<=Q)=true:=bc2 b0;go_wp2_with fail;go_meet;case rel=>exact⟨rfl,true,rfl,Ej ⟨a6.o,y,f5.o,h0,⟨λ_=>b0,λ_=>rfl⟩⟩⟩
     ·have d3:decide (((bQ y k:Nat):Int)<=(Q:Int))=false:=bc0 E;have n2:decide (bQ y k<=Q)=false:=bc0 b0;go_wp2_with fail;go_meet;case rel=>exact⟨rfl,false,rfl,Ej ⟨a6.o,y,f5.o,h0,⟨λh=>absurd h Es,λh=>absurd h b0⟩⟩⟩
   ·have L:pvS (aA t) a≠(f:Int):=by rw[<-b8.o.1];omega
    have d2:((os:Int)==(f:Int))=false:=by rw[bb6];omega
    have n1:(os==f)=false:=by rw[bb6];exact v
    have a6:=θ L;clear L v;go_wp2_with fail;go_meet;case rel=>exact⟨rfl,false,rfl,Ei ⟨rfl,a6.o⟩⟩
  case' rest=>
   obtain⟨rfl,cb,rfl,a0⟩:=hcut;have e4:=θ a0;clear a0;go_upto_if 90 with fail
  go_cut [15] (λu wx=>f3=wx/\∃d:Nat,u= .int .i64 d/\((pvS (aA t) a≠(f:Int)/\d=Q)\/(pvS (aA t) a=(f:Int)/\∃y:Nat,R[y]? =some (a-1)/\0<a/\d=inR Q (bQ y k))));case first=>as_aux_lemma=>
   have a0:=e4.o;cases cb
   ·clear a0;go_wp2_with fail;go_meet;case rel=>
     rcases e4.o with ⟨_,h⟩ | ⟨h,y,h1,h2,h3⟩
     ·exact⟨rfl,Q,rfl,Ei ⟨h,rfl⟩⟩
     ·exact⟨rfl,Q,rfl,Ej ⟨h,y,h1,h2,by unfold inR;rw[bc9 (λe=>by have :=h3.2 e;cases this)]⟩⟩
   ·clear a0;go_wp2_with fail;go_meet;case rel=>
     rcases e4.o with ⟨h,_⟩ | ⟨h,y,h1,h2,h3⟩
     ·cases h
     ·exact⟨rfl,Q+1,by first | rfl | go_num,Ej ⟨h,y,h1,h2,by unfold inR;rw[bd0 (h3.1 (by first | rfl | trivial))]⟩⟩
  case rest=>as_aux_lemma=>
   obtain⟨rfl,d,rfl,z⟩:=hcut;have o3:=θ z;obtain⟨n7,d6⟩:=i1.o d z;have b6:=θ d6;have g9:=θ (Ma (M:=M) HK.o (t:=d) n7);obtain⟨o5,k9,d5⟩:=Sd (R':=bj0 R k) (at_:=a) (row:=d) (av:=m9) (by
    rcases V.o with h | ⟨h0,a',e,h9,ha,_⟩
    ·exact Ei h
    ·exact Ej ⟨h0,a',e,h9,ha⟩) (by have :=r.o.2.2;have :=cA e7;omega) a
   have m6:=θ k9;have g8:=θ d5;have n9:d<=1000000:=E;obtain⟨P,m⟩:=qPut b5.o (k:=d) (s:=os) (by have :=r.o.2.2;omega) l6 r.o.2.1;rw[<-i2.o d]at m;have D:=θ m;clear z d6 k9 d5 m;go_wp2_with fail;refine D.o.mono ?_;rintro e o1 ⟨rfl,c8,c2⟩;have b2:Hid (Chg (exT B X) w o1):=θ (b1.o.trans c2 (λb i=>Ei i));clear P;obtain⟨P,m⟩:=Dl c8 (s:=f) (n:=1) a3.2 a5.o.2.1 a5.o.2.2;rw[i6.o]at m;have D:=θ m;clear c8 c2 b1 b5 m;go_wp2_with fail;refine D.o.mono ?_;rintro e o2 ⟨rfl,c9,c3⟩;have C:=θ c9;have U:Hid (Chg (exT B X) w o2):=θ (b2.o.trans c3 (λb i=>Ei i));clear P c9 c3 b2;go_upto_if 108 with fail
   go_cut [] (λwx=>∃S,LvE B X wx p pk pp (ra:Int) S (lvR (aA (t.set a (b:Int))) (inL (bj0 R k) d a)) (Tl.of (aA (t.set a (b:Int)))) c (plS M R) (aA t).length/\Chg (exT B X) w wx);case first=>as_aux_lemma=>
    by_cases O:d=k
    ·have d4:((d:Int) != (k:Int))=false:=by rw[O];simp
     have n3:((d:Int)==(k:Int))=true:=by rw[O];simp
     have i7:(d==k)=true:=by rw[O];simp
     clear O;go_wp2_with fail;go_meet;case rel=>exact⟨0,C.o,U.o⟩
    ·have n3:((d:Int)==(k:Int))=false:=by rw[bb6];omega
     have i7:(d==k)=false:=by rw[bb6];exact O
     obtain⟨k3,k4⟩:=C.o.cell3;have l9:=C.o.setM 1;have i3:=θ l9;clear O l9;go_wp2_with fail;go_meet;case rel=>exact⟨1,i3.o.1,U.o.trans i3.o.2 (λb i=>Ei i)⟩
   case rest=>as_aux_lemma=>
    obtain⟨o0,d0,c4⟩:=hcut;have b3:=θ c4;obtain⟨k1,m⟩:=Mj d0 (k:Int) (d:Int);rw[g9.o.1,g9.o.2]at m;have D:=θ m;have hN:(aA t).length=(aA (t.set a (b:Int))).length:=by rw[aE,aE,aQ0]
    have HN:=θ hN;clear d0 c4 m C U hN;go_wp2_with fail;refine D.o.mono ?_;rintro e m2 ⟨rfl,a1,c5⟩;rw[HN.o]at a1;have f4:Hid (LvR B X m2 p pk pp (ra:Int) o0 (aA (t.set a (b:Int))) (inL (bj0 R k) d a) c M):=θ ⟨a1,b6.o.perm⟩;have b4:Hid (Chg (exT B X) w m2):=θ (b3.o.trans c5 (λb i=>Ei i));have g7:Hid ((inL (bj0 R k) d a)[d]? =some a):=θ (Jf (by have :=r.o.2.2;have :=cA e7;omega));have h8:=θ (xD (l:=aA t) f4.o i4.out (λj hj=>by rw[J.o,sW (by have :=g.o;omega),bc9 E]) b6.o (by rw[<-HN.o,g.o];omega) g7.o g8.o);clear a1 c5 b3 k1 D f4;go_wp2_with fail;refine Cq (m6.o _) ?_;go_wp2_with fail;refine h8.o.mono ?_;rintro e m3 ⟨rfl,⟨R',S,i8,d9⟩,c6⟩;have HF:Hid (LvT B X m3 p pk pp ra S (t.set a (b:Int)) R' c M):=θ ⟨m4.o,by rw[aQ0];exact l3,d9,i8,by rw[aQ0];exact H.o.sm,H.o.r1,H.o.r64⟩;have g0:Hid (Chg (exT B X) w m3):=θ (b4.o.trans c6 (λb i=>Ei i));clear i8 d9 c6 h8 b4;go_wp2;go_ret;exact⟨rfl,⟨S,R',HF.o⟩,g0.o⟩
end
theorem LvP.new {w l c d:World}{g h:Nat}{a:Int}{L:List Nat}{T:Tl}{r:List Int}{N:Nat}(n:Below w w l)(C:WkT l (λ_=>False) c g L T)(i:Below l l c)(q:PmO (c.alloc (.cells #[.pointer g, .pointer none,a, .int .i64 0] 94)).heap.size d h 0 r N)(k:Below (c.alloc (.cells #[.pointer g, .pointer none,a, .int .i64 0] 94)).heap.size (c.alloc (.cells #[.pointer g, .pointer none,a, .int .i64 0] 94)) d):LvE w (λ_=>False) (d.setCell (c,1) (.pointer h)) c g h a 0 L T 0 r N/\Below w w (d.setCell (c,1) (.pointer h))/\Below l l (d.setCell (c,1) (.pointer h)):=by
 have z:=n.size;have F:=i.size;have o:=bc6 c (.cells #[.pointer g, .pointer none,a, .int .i64 0] 94);have t:Below c c (c.alloc (.cells #[.pointer g, .pointer none,a, .int .i64 0] 94)):=(aJ6 _ _).alloc (aV3 _) _;have H:(c.alloc (.cells #[.pointer g, .pointer none,a, .int .i64 0] 94)).heap.size=c.heap.size+1:=Es;generalize c.alloc (.cells #[.pointer g, .pointer none,a, .int .i64 0] 94)=w3 at *;have I:=k.size;have f:Below c c d:=t.trans (k.mono E);have u:d.heap[c.heap.size]? =some (.cells #[.pointer g, .pointer none,a, .int .i64 0] 94 (0,0)):=(k.block _ E).trans o;have x:WkT w (λj=>(w<=j/\j<l)\/(c<=j/\j<d)) d g L T:=
  (C.base z).less f (λj v=>v.imp Ej id)
 have y:PmE w (λj=>w<=j/\j<w3) d h 0 r N:=
  ⟨q.1.mono (λj v=>⟨E,λe=>E⟩),q.2.1,q.2.2.1,q.2.2.2.1,E,λj v=>E⟩
 have p:Chg (λj=>j=c.heap.size) d (d.setCell (c,1) (.pointer h)):=(Chg.refl (S:=λj=>j=c.heap.size) (w:=d)).setCell (c,1) (Ei rfl) _;have G:(d.setCell (c,1) (.pointer h)).heap.size=d.heap.size:=by simp[World.setCell]
 refine⟨⟨_,_,bD u 1 _,(x.aside p (λj m A e=>m.2 (Ej ⟨E,E⟩))).mono (λj e=>Ei e),y.chg p (λj m _ e=>m.2 ⟨E,E⟩),⟨E,id⟩,Ej ⟨aV3 _,E⟩,⟨E,E⟩,λj e=>e.elim,λj m A=>?_⟩,?_,?_⟩
 ·by_cases B:j<w3
  ·exact Ej ⟨m,B⟩
  ·exact Ei (Ej ⟨E,E⟩)
 ·have D:Below w w d:=(n.trans (i.mono z)).trans (f.mono E);exact D.trans (p.below (λb s=>by subst s;omega) E)
 ·exact(i.trans (f.mono F)).trans (p.below (λb s=>by subst s;omega) E)
theorem LvE.more {B:Nat}{X:Nat->Prop}{w:World}{p f g:Nat}{a e:Int}{L:List Nat}{T:Tl}{c b:Nat}{d:List Int}{N:Nat}(h:LvE B X w p f g a e L T c d N)(j:c<=b)(i:b<=1000000:=by omega):LvE B X w p f g a e L T b d N:=by
 obtain⟨Y,Z,h⟩:=h;exact⟨Y,Z,h.hd,h.k,⟨h.q.pv.more j,i,h.q.l6,h.q.n6,h.q.le,h.q.x⟩,h.ep,h.yp,h.zp,h.x,h.cov⟩
theorem LvR.rows_lt {B:Nat}{X:Nat->Prop}{w:World}{p e f:Nat}{a d:Int}{m:List Int}{R:List Nat}{c:Nat}{M:Nat->Bool}(h:LvR B X w p e f a d m R c M){k q:Nat}(b:R[k]? =some q):q<m.length:=
 aR8.1 (h.perm.mem_iff.1 (aR5 b))
def mk0(ra:Nat)(R:List Nat)(k:Nat):Nat->Bool:=λq=>decide (q%ra=0)&&decide (q∈R.take k)
theorem ab9{M M':Nat->Bool}{R:List Nat}(h:∀q∈R,M q=M' q):plS M R=plS M' R:=by
 unfold plS;apply aQ3;intro q a;rw[h q a]
theorem ar8(a:Nat)(R:List Nat):List.replicate R.length (-1)=plS (mk0 a R 0) R:=by
 unfold plS mk0;apply aM9;intro i;by_cases h:i<R.length
 ·simp[h]
 ·rw[aO1 (by simp;omega),aO1 (by simp;omega)]
theorem aD0{a k q:Nat}{R:List Nat}(b:R[k]? =some q)(c:q%a=0):sM (mk0 a R k) q=mk0 a R (k+1):=by
 funext x;unfold sM mk0;rw[aT5,b];by_cases e:x=q
 ·subst e;simp[c]
 ·simp[e]
theorem mk0_no{a k q:Nat}{R:List Nat}(b:R[k]? =some q)(c:q%a≠0):mk0 a R k=mk0 a R (k+1):=by
 funext x;unfold mk0;rw[aT5,b];by_cases e:x=q
 ·subst e;simp[c]
 ·simp[e]
theorem Hj{d:Nat}(h1:1<=d)(c8:d<=64)(pa:Option Addr)(pc:Nat)(B:List Row)(w:World)(hp:ReadsV w pa (B.map mJ))(hr:∀r∈B,Reads w .u8 r.a r.l/\(r.a=none->r.l.length=0/\r.cap=0))(hl:(bC B).length<=900)(hk:B.length<=1000000)(hb:aS (bC B)):Calls prog 21 #[d, .slice pa B.length pc] w λe w'=>∃p u A R,e= .returned (.tuple #[.pointer (some ⟨p,0,none⟩), .int .i64 0])/\LvT w (λ_=>False) w' p u A d 0 (bC B) R ((bC B).length+1) (λq=>decide (q%d=0))/\Below w w w':=by
 have HC:=θ (oT pa pc B w hp hr E hk);have HB:=θ hb;have d1:decide ((d:Int)<1)=false:=bc0 E;have d2:decide ((64:Int)<(d:Int))=false:=bc0 E;have d3:decide (d<1)=false:=bc0 E;have d4:decide (64<d)=false:=bc0 E;have b8:oR (bC B):=λi hi=>by
  rw[aO0 hi];exact hb _ (aP0 hi)
 generalize bC B=t at *;have a3:=θ b8;clear hp hr hb hk b8;go_in;go_wp2_with fail;refine HC.o.mono ?_;rintro e w1 ⟨v1,rfl,z,b6⟩;obtain⟨ta,tc,rfl,_,_⟩:=aD z;have V:=cB z;have b2:=θ (aj1 (w:=w1) ta tc t rfl V a3.o E);have a8:=θ V;have a0:=θ b6;clear z b6 V HC;go_wp2_with fail;refine b2.o.mono ?_;rintro e C ⟨u,R,L,rfl,b4,c1,b7⟩;have F:=θ b4;have a4:=θ c1;have a1:=θ b7;have a6:=θ (new_o (w:=C.alloc (.cells #[.pointer (some ⟨u,0,none⟩), .pointer none,(d:Int), .int .i64 0] 94)) (t.length+1) (N:=(t.length:Int)+1) E E);clear b4 c1 b7 b2;go_wp2_with fail;refine a6.o.mono ?_;rintro e Z ⟨A,rfl,hq,G⟩;have M:=LvP.new a0.o a4.o a1.o hq G;have d8:Z.frozen? (C,1)=false:=by
  have y:=bc6 C (.cells #[.pointer u, .pointer none,(d:Int), .int .i64 0] 94);exact bc4 Z C 1 _ _ ((G.block _ Es).trans y)
 have d0:Z.cell? (C,1)=some (.pointer none):=by
  have y:=bc6 C (.cells #[.pointer u, .pointer none,(d:Int), .int .i64 0] 94);exact bb8 Z C 1 _ _ _ ((G.block _ Es).trans y)
 have h:=θ M;have b5:R.length=t.length+1:=F.o.rlen;have b3:L=lvR (aA t) R:=al9 (F.o.last.symm.trans (qA (dE HB.o) R));have a5:=θ b3;clear hq G M a6 b3;go_wp2_with fail;have a7:=θ (aF7 (w:=Z.setCell (C,1) (.pointer (some ⟨A,0,none⟩))) ta tc t rfl (Reads.below a8.o h.o.2.2) a3.o E);generalize Z.setCell (C,1) (.pointer A)=w5 at *;generalize C.heap.size=p at *;clear d8 d0;refine a7.o.mono ?_;rintro e O ⟨X,e8,f,rfl,v,n,S⟩;obtain rfl:=gI v F.o.rows;have c3:=h.o.1.le;have H:=h.o.1.less (X':=λj=>w5<=j/\j<O) S (λj hj=>Ej hj);rw[a5.o,El HB.o v,show t.length+1=f.length from b5.symm,ar8 d]at H;rw[b5,<-aE]at H;have H6:Hid (LvR w (λj=>w5<=j/\j<O) O p u A (d:Int) 0 (aA t) f 0 (mk0 d f 0)):=θ ⟨H,v.1⟩;have c5:=θ v;have b0:Hid (ReadsV O X (f.map bP)):=θ (dM n);have c6:Hid (∀P,X=some P->w5<=P.block/\P.block<O):=θ (λP Q=>by
  obtain⟨a',c',hv,_,c9⟩:=aD n
  injection hv with e1 _ _
  subst e1
  obtain⟨g,rfl,g1,g2,_⟩:=c9 P Q
  exact⟨g1,g2⟩)
 have a2:=θ (h.o.2.1.trans (S.mono c3));clear v n S H a7 h a5 F a4 a0 a1 a8 c3;have e5:f.length<=901:=E;go_wp2;go_loopw [36] (λi wx=>∃k c:Nat,k<=f.length/\i= .int .i64 k/\c<=k/\LvR w (λj=>w5<=j/\j<O) wx p u A (d:Int) 0 (aA t) f c (mk0 d f k)/\ReadsV wx X (f.map bP)/\Below w w wx) (λi _=>f.length-(intOf i).toNat);exact⟨0,0,E,rfl,aV3 _,H6.o,b0.o,a2.o⟩;as_aux_lemma=>
  clear H6 b0 a2;obtain⟨k,c,hk,rfl,hc,Y,I,T⟩:=hrel;have H7:=θ Y;have b1:=θ I;have D:=θ T;by_cases d9:k<f.length
  ·have m:=aO0 d9;obtain⟨b,e2,rfl,e6,s⟩:=I.some (by rw[aP7];omega);have d7:wr.cell? (b,e2+k)=some (bP f[k]):=s k _ (by rw[aO3,m];rfl);have e0:f[k]<(aA t).length:=Y.rows_lt m;generalize f[k]=q at *;rw[aE]at e0;have K:=θ m;have e7:(0:Int)<=(k:Int):=E;have e3:(k:Int)<(t.length:Int)+1:=E;have c0:(k:Int)<(f.length:Int):=E;obtain⟨rm,W⟩:=Ey (q%d);have e4:(q:Int)%(d:Int)=(rm:Int):=by rw[<-W];exact(Int.natCast_emod q d).symm
   have a9:=θ W;unfold bP at d7;have c2:=Y.e;obtain⟨k1,x⟩:=qAdd c2 E (k:Int) (q:Int);rw[(Sv Y.perm m).1]at x;have J:=θ x;clear m s Y I T W c2 x;by_cases h0:rm=0
   ·subst h0;have d5:(((0:Nat):Int)==0)=true:=rfl;go_wp2_with fail;refine J.o.mono ?_;rintro e w8 ⟨rfl,b9,U⟩;have H8:Hid (LvR w (λj=>w5<=j/\j<O) w8 p u A (d:Int) 0 (aA t) f (c+1) (mk0 d f (k+1))):=θ ⟨by rw[<-aD0 K.o a9.o];exact b9,H7.o.perm⟩;have c7:=θ (b1.o.chg U (λP Q hs=>hs.2 (c6.o P Q)));have c4:=θ (D.o.trans (bZ U H7.o.e.le));clear b9 U J;go_wp2;go_roundw;exact⟨k+1,c+1,E,by first | rfl | go_num,E,H8.o,c7.o,c4.o⟩;simp[intOf];omega
   ·have d5:((rm:Int)==0)=false:=by rw[bb6];omega
    have d6:(rm==0)=false:=by rw[bb6];exact h0
    have H8:Hid (LvR w (λj=>w5<=j/\j<O) wr p u A (d:Int) 0 (aA t) f c (mk0 d f (k+1))):=θ (by rw[<-mk0_no K.o (by rw[a9.o];exact h0)];exact H7.o);go_wp2;go_roundw;exact⟨k+1,c,E,by first | rfl | go_num,E,H8.o,b1.o,D.o⟩;simp[intOf];omega
  ·obtain rfl:k=f.length:=E;have c0:¬((f.length:Int)<(t.length:Int)+1):=E;have HF:Hid (LvT w (λ_=>False) wr p u A d 0 t f (t.length+1) (λq=>decide (q%d=0))):=θ (by
    have he:=H7.o.e
    rw[ab9 (M':=λq=>decide (q%d=0)) (λq hq=>by unfold mk0;rw[aT8];simp[hq])]at he
    exact⟨HB.o,E,c5.o,⟨(he.more E).mono (λj hf=>hf.elim),H7.o.perm⟩,at2 h1,h1,c8⟩)
   clear Y I T;go_wp2;go_ret2;first
    | exact⟨p,u,A,f,rfl,HF.o,D.o⟩
    | exact⟨p,rfl,⟨u,A,f,HF.o⟩,D.o⟩
attribute [local go_sem] Oper.semAt_some
section
variable {B:Nat}{X:Nat->Prop}{w w':World}{p pk pp ra:Nat}{mv:Int}{t:List Int}{R:List Nat}{c:Nat}{M:Nat->Bool}
theorem LvT.step (h:LvT B X w p pk pp ra mv t R c M){a:Nat->Prop}(b:LvE B a w' p pk pp (ra:Int) mv (lvR (aA t) R) (Tl.of (aA t)) c (plS M R) (aA t).length):LvT B a w' p pk pp ra mv t R c M:=⟨h.byte,h.len,h.rows,⟨b,h.lv.perm⟩,h.sm,h.r1,h.r64⟩
theorem LvT.aside {S:Nat->Prop}(h:LvT B X w p pk pp ra mv t R c M)(a:Chg S w w')(b:∀j,exT B X j->j<w.heap.size->¬S j):LvT B (λj=>X j\/(w.heap.size<=j/\j<w'.heap.size)) w' p pk pp ra mv t R c M:=h.step (h.lv.e.aside a b)
theorem LvT.mono {X':Nat->Prop}(h:LvT B X w p pk pp ra mv t R c M)(a:∀j,X' j->X j):LvT B X' w p pk pp ra mv t R c M:=h.step (h.lv.e.mono a)
theorem LvT.less {X':Nat->Prop}(h:LvT B X w p pk pp ra mv t R c M)(a:Below w w w')(b:∀j,X' j->X j\/(w.heap.size<=j/\j<w'.heap.size)):LvT B X' w' p pk pp ra mv t R c M:=h.step (h.lv.e.less a b)
theorem Sz(h:LvT B X w p pk pp ra mv t R c M){f d b:Nat}(m:f<=d)(n:d<=t.length+1)(o:b<256):w.cell? p=some (.pointer pk)/\Calls prog 128 #[.pointer pk,f,d, .int .i64 ((b:Int)+1)] w λe w'=>e= .returned (.tuple #[.int .i64 (nar (lvR (aA t) R) f (b+1):Nat), .int .i64 (nar (lvR (aA t) R) d (b+1):Nat)])/\LvT B X w' p pk pp ra mv t R c M/\Chg (exT B X) w w':=by
 obtain⟨Y,Z,k⟩:=h.lv.e;have a:=h.llen;have l:=h.len;have g:cC (Tl.of (aA t)) ((b+1:Nat):Int)=(aN (bH (lvR (aA t) R)) ((b+1:Nat):Int):Nat):=by
  rw[Bp h.tx _ E,<-qA (dE h.byte)];congr 1;exact((oA h.rows).countP_eq _).symm
 refine⟨k.cells.1,Calls.mono (Ot k.k (f:Int) (d:Int) (s:=b+1) (lo':=f) (hi':=d) E (by rw[a];omega) (by rw[a];omega) (by rw[a];omega)) ?_⟩;rintro e w' ⟨rfl,j,i⟩;refine⟨?_,h.step (k.stepK j i).1,(k.stepK j i).2⟩;rw[g];unfold nar;simp
theorem Jx(a:Option Addr)(n b:Nat)(w:World):Calls prog 127 #[.slice a n b] w λe w'=>e= .returned (.func (.func 180) #[] #[.pointer w])/\w.alloc (.cells #[.slice a n b] 32)=w':=by
 go_in;go_wp2;go_ret;exact Er
theorem Co(h:LvT B X w p pk pp ra mv t R c M)(pa:Option Addr)(pc:Nat)(Q:List Row)(hp:ReadsV w pa (Q.map mJ))(hr:∀r∈Q,Reads w .u8 r.a r.l/\(r.a=none->r.l.length=0/\r.cap=0))(hl:(bC Q).length<=1000000)(hk:Q.length<=1000000)(b8:aS (bC Q)):Calls prog 61 #[.pointer p, .slice pa Q.length pc] w λe w'=>∃z G:Nat,e= .returned (.tuple #[z,G])/\Nar t R (bC Q) z G/\LvT B X w' p pk pp ra mv t R c M/\Chg (exT B X) w w':=by
 have a2:=θ (λ(w':World) (h':LvT B X w' p pk pp ra mv t R c M)=>lM h');have H:=θ h;have a1:=θ (λ(w':World) (a9:Below w w w')=>oT pa pc Q w' (hp.below' a9) (λr b3=>⟨(hr r b3).1.below a9,(hr r b3).2⟩) hl hk);have c9:=h.len;clear h hp hr;refine(callsIn_wide (n:=4)).1 ?_;refine callsIn_of_wp_marks func61 rfl trivial ?_ rfl;refine wpIn_wide.2 ?_;simp only[ntmps61,aT3,aP4,aP8,Nat.reduceAdd,Nat.reduceSub,Array.replicate_succ,Array.replicate_zero,List.push_toArray,List.append_toArray,aS0,aL4];go_wp2_with fail;refine Cq (a2.o _ (H.o.below ((aJ6 _ _).alloc (aV3 _) _))) ?_;have d3:IntKind.i64.wrap ((t.length:Int)+1)=(t.length:Int)+1:=aK8 _ E;go_wp2_with fail;refine(a1.o _ (((aJ6 w w).alloc (aV3 _) _).alloc Es _ |>.alloc (by simp;omega) _)).mono ?_;rintro e I ⟨v,rfl,x,q⟩;obtain⟨sa,sc,rfl,_,_⟩:=aD x;have a6:=cB x;have y:(((w.alloc (Obj.cells #[Value.pointer (some {block:=p,off:=0})] 54)).alloc (Obj.cells #[Value.int IntKind.i64 0] 3)).alloc (Obj.cells #[Value.int IntKind.i64 (t.length+1)] 3)).heap.size=w.heap.size+3:=Es;have c6:∀ad,sa=some ad->w.heap.size+3<=ad.block/\ad.block<I:=λad e=>by
  obtain⟨g,rfl⟩:=iU x ad e;subst e;have :=cH x (k:=g) rfl;rw[y]at this;exact this
 have h0:I.heap[w.heap.size]? =some (.cells #[.pointer p] 54 (0,0)):=by
  rw[q.block _ (by rw[y];omega),yN _ _ (by simp;omega),yN _ _ Es];exact bc6 w _
 have h1:I.heap[w.heap.size+1]? =some (.cells #[.int .i64 0] 3 (0,0)):=by
  rw[q.block _ (by rw[y];omega),yN _ _ Es];have :=bc6 (w.alloc (Obj.cells #[Value.pointer (some {block:=p,off:=0})] 54)) (Obj.cells #[Value.int IntKind.i64 0] 3);simpa using this
 have h2:I.heap[w.heap.size+2]? =some (.cells #[.int .i64 (t.length+1)] 3 (0,0)):=by
  rw[q.block _ (by rw[y];omega)];have :=bc6 ((w.alloc (Obj.cells #[Value.pointer (some {block:=p,off:=0})] 54)).alloc (Obj.cells #[Value.int IntKind.i64 0] 3)) (Obj.cells #[Value.int IntKind.i64 (t.length+1)] 3);simpa using this
 have V:Below w w I:=(((aJ6 w w).alloc (aV3 _) _).alloc Es _ |>.alloc (by simp;omega) _).trans (q.mono (by rw[y];omega));have d1:w.heap.size+3<=I.heap.size:=by have :=q.size;rw[y]at this;exact this
 clear x q y a1 a2;go_wp2_with fail;refine(Jx sa (bC Q).length sc I).mono ?_;rintro e s ⟨rfl,a0⟩;have h3:s.heap[I.heap.size]? =some (.cells #[.slice sa (bC Q).length sc] 32 (0,0)):=by rw[<-a0];exact bc6 I _
 have F:Below I I s:=by rw[<-a0];exact(aJ6 _ _).alloc (aV3 _) _
 have d2:s.heap.size=I.heap.size+1:=by rw[<-a0];simp
 replace h0:=(F.block _ E).trans h0;replace h1:=(F.block _ E).trans h1;replace h2:=(F.block _ E).trans h2;replace a6:=Reads.below a6 F;replace V:=V.trans (F.mono E);clear a0 F;go_wp2_with fail;refine(wpIn_wide (n:=4)).1 ?_;generalize c3:bC Q=cs at *;generalize L:w.heap.size=bl at *;generalize I.heap.size=bx at *;obtain⟨X1,U⟩:∃X1:Nat->Prop,X1=λj=>X j\/(bl<=j/\j<s.heap.size+2):=⟨_,rfl⟩;have c8:∀j,X j->j<bl:=λj e=>by rw[<-L];exact H.o.lv.e.xlt e
 have f:∀j,bl<=j->j<s.heap.size+2->¬exT B X1 j:=λj h1 h2 h3=>h3.2 (by rw[U];exact Ej ⟨h1,h2⟩);refine ac8 (m:=2) (N:=cs.length) rfl (λ_ _=>rfl) (λk W=>LvT B X1 W p pk pp ra mv t R c M/\Chg (λj=>exT B X1 j\/j=bl+1\/j=bl+2) s W/\∃z G:Nat,Nar t R (cs.drop (cs.length-k)) z G/\W.heap[bl+1]? =some (.cells #[z] 3 (0,0))/\W.heap[bl+2]? =some (.cells #[G] 3 (0,0)))
  (λk=>#[.int .i64 ((cs.length:Int)-1-k), .int .u8 (cs[cs.length-1-k]?.getD 0)]) (λ_=>rfl) ?hit ?hI ?h0 ?hround ?hdone
 case hit=>
  intro l J hJ hY W hj;refine aj7 l 2 bx cs.length sc sa cs rfl hl J (λk W hk=>?_) hY W hj;obtain⟨_,O,_⟩:=hJ k W hk;refine⟨bb8 _ bx 0 _ _ _ (O.heap h3 ?_),O.reads a6 (λad e=>?_)⟩
  ·rintro(e | e)
   ·exact f bx E E e
   ·omega
  ·have :=c6 ad e;rintro(e | e)
   ·exact f _ E E e
   ·omega
 case hI=>
  rintro k A o hA ⟨T,O,z,G,D,c1,c2⟩;have b1:Chg (λj=>j=s.heap.size+1) A (A.putObj (s.heap.size+1) o):=⟨rfl,rfl,rfl,by simp[World.putObj],λb _ V=>World.putObj_heap_other V⟩;exact⟨(T.aside b1 (λj g _ e=>f j E E g)).mono (λj e=>Ei e),O.trans b1 (λb e=>Ej E),z,G,D,(World.putObj_heap_other E).trans c1,(World.putObj_heap_other E).trans c2⟩
 case h0=>
  intro o o';have q:Below s s ((s.alloc o).alloc o'):=((aJ6 _ s).alloc (aV3 _) _).alloc Es _;refine⟨H.o.less (by rw[L];exact V.trans (q.mono E)) (λj e=>by rw[U]at e;rw[L];simpa[Nat.add_assoc]using e),Chg.of_below q,0,t.length+1,?_,(q.block _ E).trans h1,(q.block _ E).trans h2⟩;rw[aX0,List.drop_length];exact Nar.nil (yX H.o.byte H.o.rows)
 case hdone=>
  rintro W ⟨T,O,z,G,D,c1,c2⟩ hs C;rw[aW9,bi7]at D;have u:Chg (exT B X) w W:=(Chg.of_below (by rw[L];exact V)).trans O (λj e=>by
   rcases e with e | e | e
   ·exact Ei ⟨e.1,λh=>e.2 (by rw[U];exact Ei h)⟩
   ·right;omega
   ·right;omega)
  have HF:=θ (And.intro D (And.intro T u));have e1:=bb8 W (bl+1) 0 _ _ _ c1;have e2:=bb8 W (bl+2) 0 _ _ _ c2;clear T O D u c1 c2;go_wp2;go_quiet (fail);go_wp2_with fail;obtain⟨D,T,u⟩:=HF.o;have b2:Chg (λj=>j=s.heap.size) W ((W.drewN nq).putObj s (.deferred none)):=⟨rfl,rfl,rfl,by simp[World.putObj,World.drewN],λb _ V=>World.putObj_heap_other V⟩;refine⟨Es, .inl ⟨_,_,rfl,run_takeDeferred (w:=W.drewN nq) C,_,?_,z,G,rfl,c3▸D,(T.aside b2 (λj e1 _ e=>f j E E e1)).mono (λj e=>Ei (by rw[U];exact Ei e)),u.trans b2 (λj e=>Ej (by have :=V.size;omega))⟩⟩;simp[results,Tryz.f61,go_sem]
 case hround=>
  intro l k W hk;simp only[List.zip_toArray,List.zip_cons_cons]
  gi_wp2
  refine⟨trivial,?_⟩;rintro W2 hs ⟨T,O,z,G,D,c1,c2⟩;obtain⟨b,b0,a4⟩:∃b:Nat,cs[cs.length-1-k]?.getD 0=(b:Int)/\b<256:=by
   rw[aO0 E];have :=b8 _ (aP0 (E:cs.length-1-k<cs.length));exact⟨(cs[cs.length-1-k]).toNat,by simp;omega,E⟩
  rw[b0];obtain⟨c0,c7⟩:=Sz T D.1 D.2.1 a4;have a3:=θ (Sz (T.below ⟨rfl,rfl,rfl,aV3 _,λ_ _=>rfl⟩:LvT B X1 W2.drew p pk pp ra mv t R c M) D.1 D.2.1 a4).2;have HC:=θ (And.intro (O.cell (bb8 _ bl 0 _ _ _ h0) (λe=>e.elim (f bl E E) (λe=>by have e:bl=bl+1\/bl=bl+2:=e;omega))) c0);have b4:=θ c1;have b5:=θ c2;have e1:=bb8 W2 (bl+1) 0 _ _ _ c1;have e2:=bb8 W2 (bl+2) 0 _ _ _ c2;have d0:p<bl:=by rw[<-L];exact H.o.lv.e.lt
  refine wpIn_block ?_;refine Qe (λw'=>w'.cell? bl=some (.pointer p)/\w'.cell? p=some (.pointer pk)) Ek HC.o Ek (λa w h=>nomatch h.1) (λS=>?_);refine rV 0 1 2 3 S ?_;refine rt 6 S ?_;refine aF4 (i:=4) (j:=5) (k:=7) (vi:= .int .i64 z) (vj:= .int .i64 G) (vk:= .int .i64 ((b:Int)+1)) S ?_ rfl rfl rfl ⟨Ek,Ek,Ek,Ek⟩ ⟨Ek,Ek,Ek⟩ ⟨λd h=>by cases h;simp,λd h=>by cases h;simp,λd h=>by cases h;simp⟩ ⟨rfl,rfl,rfl⟩ ?si ?sj ?sk;case si=>rintro a (rfl | rfl | rfl | rfl)<;>(intro K C;go_simp;exact C)
  case sj=>rintro a (rfl | rfl | rfl | rfl)<;>(intro K C;go_simp;exact C)
  case sk=>rintro a (rfl | rfl | rfl | rfl)<;>(intro K C;go_simp;refine Cq (rL (b:Int) _ E E) ?_;exact C)
  try simp only[pt]
  refine rg 8 λκ C=>?_;go_simp;refine a3.o.mono ?_;rintro e w5 ⟨rfl,h5,P⟩;have H5:=θ h5;have b6:=θ P;have a5:w5.cell? bl=some (.pointer p)/\w5.cell? p=some (.pointer pk):=⟨P.cell HC.o.1 (f bl E E),(fU h5.lv).1⟩;have g1:=P.heap b4.o (f (bl+1) E E);have g2:=P.heap b5.o (f (bl+2) E E);have f1:=bc4 w5 (bl+1) 0 _ _ g1;have e1:=bb8 w5 (bl+1) 0 _ _ _ g1;have G1:=θ g1;have G2:=θ g2;clear h5 P a3 g1 g2;refine C.out _ _ (a5) ?_;intro S;try simp only[pt]
  refine rU 9 10 S ?_;refine rt 11 S ?_;refine rg 12 λκ C=>?_;go_simp;have Y:Chg (λj=>j=bl+1\/j=bl+2) w5 (w5.setCell (bl+1,0) (.int .i64 (nar (lvR (aA t) R) z (b+1):Nat))):=Chg.refl.setCell _ (Ei (Ei rfl)) _;have c4:=And.intro (Y.cell S.1 (λe=>by have e:bl=bl+1\/bl=bl+2:=e;omega)) (Y.cell S.2 (λe=>by have e:p=bl+1\/p=bl+2:=e;omega));have g2:=gN (j:=0) (v:= .int .i64 (nar (lvR (aA t) R) z (b+1):Nat)) G2.out (E:bl+2≠bl+1);have g1:=bD G1.out 0 (.int .i64 (nar (lvR (aA t) R) z (b+1):Nat));have a7:=θ (And.intro g1 g2);have b7:=θ Y;have f2:=bc4 _ (bl+2) 0 _ _ g2;have e2:=bb8 _ (bl+2) 0 _ _ _ g2;clear Y g1 g2;generalize w5.setCell (bl+1,0) (.int .i64 (nar (lvR (aA t) R) z (b+1):Nat))=w6 at *;refine C.out _ _ (c4) ?_;intro S;try simp only[pt]
  refine rg 13 λκ C=>?_;go_simp;have Z:Chg (λj=>j=bl+1\/j=bl+2) w5 (w6.setCell (bl+2,0) (.int .i64 (nar (lvR (aA t) R) G (b+1):Nat))):=b7.o.setCell _ (Ei (Ej rfl)) _;have c5:=And.intro (Z.cell a5.1 (λe=>by have e:bl=bl+1\/bl=bl+2:=e;omega)) (Z.cell a5.2 (λe=>by have e:p=bl+1\/p=bl+2:=e;omega));refine C.out _ _ (c5) ?_;intro S;try simp only[pt]
  refine rz ?_;have b9:cs.drop (cs.length-(k+1))=(b:Int)::cs.drop (cs.length-k):=by
   rw[aM5 E,show cs.length-(k+1)+1=cs.length-k by omega,<-b0,aO0 E];simp only[show cs.length-(k+1)=cs.length-1-k by omega,aY3]
  have u:Chg (λj=>exT B X1 j\/j=bl+1\/j=bl+2) W2.drew (w6.setCell (bl+2,0) (.int .i64 (nar (lvR (aA t) R) G (b+1):Nat))):=(b6.o.mono (λj e=>Ei e)).trans Z (λj e=>Ei (Ej e));have y:=O.size;have a8:∀j,s.heap.size<=j->j<s.heap.size+2->¬(exT B X1 j\/j=bl+1\/j=bl+2):=λj e1 e2 e=>e.elim (f j E e2) E;refine⟨rfl,⟨(H5.o.aside Z (λj e1 _ e=>e.elim (λe=>f (bl+1) E E (e▸e1)) (λe=>f (bl+2) E E (e▸e1)))).mono (λj e=>Ei e),O.drew.trans u (λj e=>Ei e),_,_,?_,gN a7.out.1 E,bD a7.out.2 0 _⟩,u.block _ (by show s.heap.size<W2.heap.size;omega) (a8 _ E E),u.block _ (by show s.heap.size+1<W2.heap.size;omega) (a8 _ E E)⟩;rw[b9];exact Nar.cons (yX H.o.byte H.o.rows) D a4
end
section
variable {B:Nat}{X:Nat->Prop}{w w':World}{p pk pp ra:Nat}{mv:Int}{t:List Int}{R:List Nat}{c:Nat}{M:Nat->Bool}
theorem Pi(h:LvT B X w p pk pp ra mv t R c M)(k:Option Addr)(pc:Nat)(b:List Row)(u:ReadsV w k (b.map mJ))(x:∀r∈b,Reads w .u8 r.a r.l/\(r.a=none->r.l.length=0/\r.cap=0))(A:(bC b).length<=1000000)(z:b.length<=1000000)(j:aS (bC b)):Calls prog 26 #[.pointer p, .slice k b.length pc] w λe w'=>∃f d:Nat,e= .returned (.int .i64 ((d-f:Nat):Int))/\Nar t R (bC b) f d/\LvT B X w' p pk pp ra mv t R c M/\Chg (exT B X) w w':=by
 have m:=θ (Co h k pc b u x A z j);have C:=h.len;clear h u x;go_in;go_wp2_with fail;refine m.o.mono ?_;rintro e w' ⟨f,d,rfl,g,q,s⟩;have i:=g;obtain⟨F,G,-⟩:=i;have D:IntKind.i64.wrap ((d:Int)-f)=((d-f:Nat):Int):=by rw[aK8 _ E];omega
 have y:=θ (And.intro g (And.intro q s));clear g q s m;go_wp2;go_ret;exact⟨f,d,rfl,y.o⟩
structure LvO (b0:Nat) (e:TypeId) (B:Nat) (X:Nat->Prop) (w:World) (p pk pp ra:Nat) (mv:Int) (t:List Int) (R:List Nat) (c:Nat) (M:Nat->Bool) (v:Value) (n:Nat) (xs:List Value):Prop where
 lv:LvT B (λj=>X j\/v.ownBlock=some j) w p pk pp ra mv t R c M
 own:w.ownsRow b0 e 1 v n xs
 le:B<=b0
 xl:∀j,X j->j<b0
variable {b0:Nat}{e:TypeId}{v:Value}{n:Nat}{xs:List Value}
theorem LvO.start (h:LvT B X w p pk pp ra mv t R c M)(a:B<=b0)(b:∀j,X j->j<b0):LvO b0 e B X w p pk pp ra mv t R c M (.slice none 0 0) 0 []:=⟨h.mono (λj e=>e.elim id (λe=>nomatch e)),bb2 w _ _ _,a,b⟩
theorem LvO.call (h:LvO b0 e B X w p pk pp ra mv t R c M v n xs)(d:LvT B (λj=>X j\/v.ownBlock=some j) w' p pk pp ra mv t R c M)(a:Chg (exT B (λj=>X j\/v.ownBlock=some j)) w w'):LvO b0 e B X w' p pk pp ra mv t R c M v n xs:=
 ⟨d,a.own h.own (λk b f=>f.2 (Ej b)),h.le,h.xl⟩
theorem LvO.chg (h:LvO b0 e B X w p pk pp ra mv t R c M v n xs)(a:Chg (exT B (λj=>X j\/v.ownBlock=some j)) w w'):Chg (exT B X) w w':=a.mono (λj e=>⟨e.1,λb=>e.2 (Ei b)⟩)
theorem LvO.drew (h:LvO b0 e B X w p pk pp ra mv t R c M v n xs):LvO b0 e B X w.drew p pk pp ra mv t R c M v n xs:=⟨h.lv.below ⟨rfl,rfl,rfl,aV3 _,λ_ _=>rfl⟩,h.own,h.le,h.xl⟩
theorem LvO.push (h:LvO b0 e B X w p pk pp ra mv t R c M v n xs){g d b:Nat}{l:List Value}(r:w'.ownsRow b0 e 1 (.slice g d b) d l)(q:w.grownBy w' v.ownBlock)(s:v.ownBlock=some g\/w<=g)(f:g<w'):LvO b0 e B X w' p pk pp ra mv t R c M (.slice g d b) d l/\Chg (exT B X) w w':=by
 have i:Chg (λj=>v.ownBlock=some j) w w':=Chg.refl.grown q (λk e=>Ei e);refine⟨⟨(h.lv.aside i (λj m _ o=>m.2 (Ej o))).mono (λj a=>?_),r,h.le,h.xl⟩,i.mono (λj a=>⟨by have :=h.own.lt j a;have :=h.le;omega,λu=>?_⟩)⟩
 ·rcases a with a | a
  ·exact Ei (Ei a)
  ·have a:some g=some j:=a;injection a with a
   subst a;exact s.elim (λe=>Ei (Ej e)) (λe=>Ej ⟨e,f⟩)
 ·have :=h.own.lt j a;have :=h.xl j u;omega
theorem Iv{R:List Nat}{f:Nat->Bool}{b d:Nat}(j:b<=d)(h:∀i (a:i<R.length),f R[i]=true↔b<=i/\i<d):R.filter f=(R.drop b).take (d-b):=by
 have e:R=R.take b++((R.drop b).take (d-b)++(R.drop b).drop (d-b)):=by rw[aT6,aT6]
 conv=>lhs;rw[e,aN0,aN0]
 rw[List.filter_eq_nil_iff.2,List.filter_eq_self.2,List.filter_eq_nil_iff.2,aS0,aL2]
 ·intro x g;obtain⟨i,a,rfl⟩:=List.mem_iff_getElem.1 g;simp only[aP5]at a;rw[aO8,aO8,h _ E];omega
 ·intro x g;obtain⟨i,a,rfl⟩:=List.mem_iff_getElem.1 g;simp only[aQ1,aP5]at a;rw[aP2,aO8,h _ E];omega
 ·intro x g;obtain⟨i,a,rfl⟩:=List.mem_iff_getElem.1 g;simp only[aQ1]at a;rw[aP2,h _ E];omega
theorem ao8{L:List Nat}{u:List Int}{d j:Nat}(l:RW t R L)(A:Nar t R u d j){f:Nat->Bool}(z:∀q,q<=t.length->(f q=true↔lO t u q)):(bX ((R.drop d).take (j-d))).mergeSort (λx y=>decide (x<=y))=bX ((List.range (t.length+1)).filter f):=by
 obtain⟨g,m,s⟩:=A;have C:=l.rlen;have o:=l.rows.1;rw[aE]at o;have e:R.filter f=(R.drop d).take (j-d):=Iv g (λi k=>by
  have r:R[i]=ro R i:=by unfold ro;rw[cL k]
  rw[r,z _ (l.roLt E),s i E])
 rw[<-e];refine List.Perm.eq_of_pairwise (le:=λx y:Int=>x<=y) (λa b _ _ g m=>E) ?_ ?_ ((List.mergeSort_perm _ _).trans ((o.filter f).map _))
 ·exact(List.pairwise_mergeSort (λa b c g m=>by simp at *;omega) (λa b=>by simp;omega) _).imp (λh=>by simpa using h)
 ·exact List.pairwise_map.2 ((List.pairwise_lt_range.filter _).imp (λh=>E))
theorem aj0(h:LvT B X w p pk pp ra mv t R c M)(h0:M 0=true)(pa:Option Addr)(pc:Nat)(L:List Row)(hp:ReadsV w pa (L.map mJ))(hr:∀r∈L,Reads w .u8 r.a r.l/\(r.a=none->r.l.length=0/\r.cap=0))(hl:(bC L).length<=1000000)(hk:L.length<=1000000)(b6:aS (bC L)){f:Nat->Bool}(hf:∀q,q<=t.length->(f q=true↔lO t (bC L) q)):Calls prog 27 #[.pointer p, .slice pa L.length pc] w λe w'=>∃a m,e= .returned (.slice a ((List.range (t.length+1)).countP f) m)/\LvO w 3 B X w' p pk pp ra mv t R c M (.slice a ((List.range (t.length+1)).countP f) m) ((List.range (t.length+1)).countP f) ((bX ((List.range (t.length+1)).filter f)).map (Value.int .i64))/\Chg (exT B X) w w':=by
 have HF:=θ (Co h pa pc L hp hr hl hk b6);have Z:=θ h;have c6:=h.len;clear h hp hr;go_enter func27,ntmps27;go_wp2_with fail;refine HF.o.mono ?_;rintro e w' ⟨d,z,rfl,hN,hL,I⟩;have b3:=hN;obtain⟨n1,n2,-⟩:=b3;have HN:=θ hN;have HL:=θ hL;have HC:=θ I;have c8:=I.size;clear hN hL I HF;go_wp2_with fail;go_loopw [7,8] (λv i wr=>∃k:Nat,k<=z-d/\i= .int .i64 (d+k:Nat)/\LvO w 3 B X wr p pk pp ra mv t R c M v k ((bX ((R.drop d).take k)).map (Value.int .i64))/\Chg (exT B X) w wr) (λ_ i _=>z-(intOf i).toNat);case atStart=>
  exact⟨0,aY1 _,rfl,LvO.start HL.o Z.o.le (λj e=>Z.o.lv.e.xlt e),HC.o⟩
 case round=>as_aux_lemma=>
  obtain⟨k,c5,rfl,s,I⟩:=hrel;obtain⟨a,m,rfl,_,_⟩:=aD s.own;have N:=θ I;have b4:=Z.o.lv.rlen;rw[aE]at b4;by_cases c7:d+k<z
  ·obtain⟨q,ha⟩:∃q,R[d+k]? =some q:=⟨_,aO0 E⟩;have HP:=θ (lvPos s.lv.lv s.lv.tx s.lv.rows h0 ha);have H:=θ s;have i1:((d+k:Nat):Int)<(z:Int):=E;have i2:IntKind.i64.wrap (((d+k:Nat):Int)+1)=((d+k+1:Nat):Int):=by rw[aK8 _ E];omega
   have a8:(R.drop d).take (k+1)=(R.drop d).take k++[q]:=by rw[aT5,aN9,ha];rfl
   have b2:=θ a8;obtain⟨y,hy⟩:∃y,d+k=y:=⟨_,rfl⟩;rw[hy]at HP i1 i2⊢;clear I s a8 ha HN HL HC;go_wp2_with fail;refine HP.o.mono ?_;rintro e w1 ⟨rfl,a2,S⟩;have Q:=H.o.call (w':=w1) ⟨H.o.lv.byte,H.o.lv.len,H.o.lv.rows,a2,H.o.lv.sm,H.o.lv.r1,H.o.lv.r64⟩ S;have F:=N.o.trans (H.o.chg S) (λb e=>Ei e);have Y:=θ Q;have O:=θ F;have K:=Q.own;clear Q a2 S F HP H N;have b5:w<=w1.heap.size:=O.o.size;go_wp2_with (at_builtin;refine qV rfl _ _ 36 rfl w 3 Tryz.infoInt' ba0 rfl _ _ _ rfl K rfl rfl ?c1 ?c2 ?c3 ?_);case c1=>unfold maxLen;omega
   case c2=>omega
   case c3=>exact b5
   rintro g a1 V G hg hv a6;obtain⟨C,a4⟩:=Y.o.push G hg hv a6;have P:=θ C;have b0:=θ (O.o.trans a4 (λb e=>Ei e));clear K G hg hv a6 C a4 Y O;go_wp2_with fail;go_roundw;case rel=>exact⟨k+1,E,by rw[<-hy];rfl,by rw[b2.o];simpa[bX]using P.o,b0.o⟩
   case measure=>simp[intOf];omega
  ·obtain rfl:k=z-d:=E;obtain⟨y,hy⟩:∃y,d+(z-d)=y:=⟨_,rfl⟩;have i1:¬((y:Int)<(z:Int)):=E;rw[hy];have a3:=yX Z.o.byte Z.o.rows;have J:=Nar.count a3 HN.o hf;have u:=ao8 a3 HN.o hf;obtain⟨A,U⟩:∃A,bX ((R.drop d).take (z-d))=A:=⟨_,rfl⟩;have a9:A.length=z-d:=by rw[<-U,gE,aQ1,aP5];omega
   rw[U]at s u;have D:Calls prog 63 #[.slice a (z-d) m] wr λe V=>e= .returned (.tuple #[])/\LvO w 3 B X V p pk pp ra mv t R c M (.slice a (z-d) m) (z-d) ((A.mergeSort (λx y=>decide (x<=y))).map (Value.int .i64))/\Chg (exT B X) w V:=by
    by_cases hz:z-d=0
    ·have c0:A=[]:=aM7 E;subst c0;rw[hz]at s⊢;refine(Tryz.slices_Sort_int_none a m wr).mono ?_;rintro e V ⟨rfl,rfl⟩;exact⟨rfl,by simpa using s,I⟩
    ·obtain⟨g,a1,hv,c4,b8,_,_,T,b7⟩:=cS s.own E;injection hv with e1 e2 e3
     subst e1;subst e3;have hH:Go.Sort.Holds (Value.int .i64) wr g 0 A.toArray:=λj hj=>by
      have a7:j<A.length:=by simpa using hj
      have he:(A.toArray)[j]! =A[j]:=by rw[getElem!_pos _ j (by simpa using a7)];simp
      rw[he,aY0];exact⟨(T j E).trans (by rw[aO3,aO0 a7];rfl),b7 j⟩
     have :=Tryz.slices_Sort_int g 0 m A wr hH b8 E;rw[a9]at this;refine this.mono ?_;rintro e V ⟨rfl,n,os,rfl⟩;have a5:=fC (Value.int .i64) wr g n (A.mergeSort (λx y=>decide (x<=y))).toArray os;have b9:=jV (Value.int .i64) s.own n (A.mergeSort (λx y=>decide (x<=y))).toArray os (by simp[a9]);refine⟨rfl,⟨(s.lv.aside a5 (λj g1 _ g2=>g1.2 (Ej (by rw[g2];rfl)))).mono (λj g=>Ei g),by have :=b9;simp only[List.toList_toArray]at this;exact this,s.le,s.xl⟩,I.trans a5 (λb g=>Ej E)⟩
   have a0:=θ D;have W:=θ J;have b1:=θ u;clear s I D J u U HN HL HC N;go_wp2_with fail;refine a0.o.mono ?_;rintro e V ⟨rfl,C,F⟩;have P:=θ (And.intro C F);clear C F a0;go_wp2_with fail;go_ret;refine⟨a,m,by rw[W.o];rfl,?_⟩;rw[W.o,<-b1.o];exact P.o
end
end
end Go.Proofs.YtchinbgemenenaaGreatDoor
