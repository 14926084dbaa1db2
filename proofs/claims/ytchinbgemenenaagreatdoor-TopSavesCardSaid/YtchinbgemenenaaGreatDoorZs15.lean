/- Lemmas and contracts under the claims of this seat. No condition. -/
import Derived.Test.YtchinbgemenenaaGreatDoorZs14
namespace Go.Proofs.YtchinbgemenenaaGreatDoor
open Go.Proofs.Tryz
set_option linter.unusedVariables false
set_option linter.unusedSimpArgs false
set_option maxRecDepth 100000
set_option maxHeartbeats 12800000
section
open Go.RowKit
section
variable {B:Nat}{X:Nat->Prop}{w w':World}{p pk pp ra:Nat}{mv:Int}{t:List Int}{R:List Nat}{c:Nat}{M:Nat->Bool}
theorem aC5(h:LvT B X w p pk pp ra mv t R c M){i q:Nat}(j:R[i]? =some q)(l:q<t.length):w.cell? p=some (.pointer pk)/\Calls prog 59 #[.pointer pk,i] w λe w'=>e= .returned (.int .i64 (t[q]?.getD 0+1))/\w=w':=by
 have g:=yX h.byte h.rows;have a:i<=t.length:=by have :=(aO2.1 j).1;have :=h.lv.rlen;rw[aE]at this;omega
 have b:=h.llen;have m:=h.len;have f:ro R i=q:=by unfold ro;rw[j];rfl
 have d:=g.which a;rw[El h.byte h.rows]at d;obtain⟨Y,Z,k⟩:=h.lv.e;refine⟨k.cells.1,(zW k.k E (by rw[b];omega) (by rw[b];omega)).mono ?_⟩;rintro e w' ⟨⟨r,rfl,n⟩,rfl⟩;refine⟨?_,rfl⟩;rw[IsWhich.unique k.k.ok n d,(g.frowI a).1,f,kH l,cL l]
theorem lG{p j:Nat}{o:Obj}{u:Value}(a:p<w)(h:w.cell? (p,j)=some u):(w.alloc o).cell? (p,j)=some u:=(Below.cell ((aJ6 w w).alloc (aV3 _) o) (p:=(p,j)) a).trans h
theorem ap9(w:World)(u:Value)(e:TypeId):∀j v,[u][j]? =some v->(w.alloc (.cells #[u] e)).cell? ⟨w.heap.size,j,none⟩=some v:=by
 intro j v a;match j,a with
 | 0,a=>simp at a;subst a;simp
theorem Pp{o:Obj}{b:Option Nat}(h:(w.alloc o).grownBy w' b):w.grownBy w' b:=⟨h.os,h.tape,h.output,by have :=h.size;simp at this;omega,λk d a=>by
 rw[h.block k (by simp;omega) a];exact aJ5 w _ k d⟩
theorem Xm(h:LvT B X w p pk pp ra mv t R c M){at_ n:Int}(j:¬(0<=at_/\0<=n/\at_<=t.length/\n<=t.length-at_)):Calls prog 25 #[.pointer p,at_,n] w λe w'=>e= .returned (.tuple #[.slice none 0 0, .int .i64 2])/\w=w':=by
 have a:=θ (lM h);have b:=h.len;clear h;by_cases d:at_<0
 ·go_in;go_wp2;go_ret2;exact Er
 ·by_cases f:n<0
  ·go_in;go_wp2;go_ret2;exact Er
  ·by_cases g:(t.length:Int)<at_
   ·go_in;go_wp2_with fail;refine Cq a.o ?_;go_wp2;go_ret2;exact Er
   ·have k:IntKind.i64.wrap ((t.length:Int)-at_)=(t.length:Int)-at_:=aK8 _ E;have i:(t.length:Int)-at_<n:=E;go_in;go_wp2_with fail;refine Cq a.o ?_;go_wp2_with fail;refine Cq a.o ?_;go_wp2;go_ret2;exact Er
theorem Rc(h:LvT B X w p pk pp ra mv t R c M)(s:BitTab w)(a4:0<B){d n:Nat}(hn:d+n<=t.length):Calls prog 25 #[.pointer p,d,n] w λe w'=>∃a l,e= .returned (.tuple #[.slice a n l, .int .i64 0])/\LvO w 5 B X w' p pk pp ra mv t R c M (.slice a n l) n (((t.drop d).take n).map (Value.int .u8))/\Chg (exT B X) w w':=by
 have f:=θ (lM h);have K:=θ (yR h.lv h.tx h.rows (pos:=d) (by rw[aE];omega));have H:=θ h;have O:=θ s;have b5:=h.len;have a1:=h.le;have c4:=h.lv.e.lt;clear h s;have h1:¬((d:Int)<0):=E;have h2:¬((n:Int)<0):=E;have h3:¬((t.length:Int)<(d:Int)):=E;have hw:IntKind.i64.wrap ((t.length:Int)-d)=(t.length:Int)-d:=aK8 _ E;have h4:¬((t.length:Int)-d<n):=E;go_in;go_wp2_with fail;refine Cq f.o ?_;go_wp2_with fail;refine Cq f.o ?_;go_wp2_with fail;refine K.o.mono ?_;rintro e w1 ⟨b7,rfl,x,Q,T⟩;have a9:=θ Q;have a5:=θ T;have L:=θ x;clear Q T x K f h1 h2 h3 hw h4;go_wp2;go_loopw [8,9,40] (λv r i wr=>∃k j:Nat,k<=n/\i= .int .i64 k/\r= .int .i64 j/\R[j]? =some (d+k)/\LvO w 5 B X wr p pk pp ra mv t R c M v k (((t.drop d).take k).map (Value.int .u8))/\Chg (exT B X) w wr) (λ_ _ i _=>n-(intOf i).toNat);exact⟨0,b7,aY1 _,rfl,rfl,L.o,LvO.start ⟨H.o.byte,H.o.len,H.o.rows,a9.o,H.o.sm,H.o.r1,H.o.r64⟩ a1 (λj e=>H.o.lv.e.xlt e),a5.o⟩;as_aux_lemma=>
  obtain⟨k,j,c0,rfl,rfl,hj,z,S⟩:=hrel;obtain⟨a,l,rfl,_,_⟩:=aD z.own;by_cases b6:k<n
  ·have hF:=aC5 z.lv hj E;obtain⟨b,hb⟩:=Ey (t[d+k]?.getD 0);have b3:0<=b/\b<256:=by rw[<-hb,cL E];exact H.o.byte _ (aP0 _)
   rw[hb]at hF;have b4:=hF.1;have HF:=θ hF.2;have N:=θ (zR (b+1) wr E E);rw[show b+1-1=b by omega]at N;have G:=θ z;have HC:=θ S;have HJ:=θ hj;have a7:=θ b4;have i1:(k:Int)<(n:Int):=E;have i2:IntKind.i64.wrap ((k:Int)+1)=((k+1:Nat):Int):=by rw[aK8 _ E];omega
   have b1:=θ z.lv.lv.e.lt;have b9:w<=wr.heap.size:=S.size;clear z S hj hF b3;go_wp2_with fail;refine Cq HF.o ?_;go_wp2_with fail;refine Cq N.o ?_;go_wp2_with fail;refine aG (λw'=>w'.cell? p=some (.pointer pk)) Ek (a7.o) (λq=>?_);refine rV 0 1 4 5 q ?_;refine rU 6 7 q ?_;refine rt 8 q ?_;refine rg 2 λκ P=>?_;go_simp;refine P.out _ _ (lG b1.o q) ?_;intro q;try simp only[pt]
   refine rg 3 λκ P=>?_;refine kK _ _ 32 rfl w 5 Tryz.infoU8 aZ9 rfl Ed _ _ _ rfl (bb1 G.o.drew.own _) wr 1 [.int .u8 b] rfl rfl ?hus ?h1 ?c1 ?c2 ?c3 ?_;case hus=>exact ap9 _ _ _
   case h1=>intro u hu;simp only[aR9]at hu;subst hu;rfl
   case c1=>unfold maxLen;omega
   case c2=>omega
   case c3=>simp;omega
   rintro g b8 w2 m D hv Z;have Y:=Pp (w:=wr) (o:= .cells #[.int .u8 b] 5) (b:=Value.ownBlock (.slice a k l)) ⟨D.os,D.tape,D.output,D.size,D.block⟩;obtain⟨A,U⟩:=G.o.push m Y (hv.imp id (λe=>by simp at e;omega)) Z;have I:=θ A;have F:Hid (Chg (exT B X) w w2):=θ (HC.o.trans U (λb e=>Ei e));obtain⟨V,j',a0,a2⟩:=lrOn A.lv.lv H.o.byte H.o.rows b5 (O.o.below (bZ F.o a1) a4) a4 HJ.o E;have a8:=θ a0;have J:=θ a2;clear m D hv Z Y A U a0 a2;refine P.out _ _ (V) ?_;intro q;try simp only[pt]
   refine rg 9 λκ P=>?_;go_simp;refine J.o.mono ?_;rintro e w3 ⟨rfl,y,C⟩;have W:=(fU y).1;have b0:=θ (I.o.call (w':=w3) ⟨H.o.byte,H.o.len,H.o.rows,y,H.o.sm,H.o.r1,H.o.r64⟩ C);have a6:=θ (F.o.trans (I.o.chg C) (λb e=>Ei e));clear y C J;refine P.out _ _ (W) ?_;intro q;try simp only[pt]
   refine rU 10 11 q ?_;refine rz ?_;have a3:(t.drop d).take (k+1)=(t.drop d).take k++[b]:=by
    rw[aT5,aN9,aO0 E,<-hb,cL E];rfl
   have b2:=θ a3;clear a3 q;go_wp2;go_roundw;exact⟨k+1,j',E,rfl,rfl,a8.o,by rw[b2.o];simpa using b0.o,a6.o⟩;simp[intOf];omega
  ·obtain rfl:k=n:=E;have i1:¬((k:Int)<(k:Int)):=E;have G:=θ (And.intro z S);clear z S hj b6;go_wp2;go_ret2;exact⟨a,l,rfl,by simpa using G.o.1,G.o.2⟩
end
def inX(B:Nat)(X:Nat->Prop)(q:Nat)(j:Nat):Prop:=B<=j/\(X j\/j=q)
structure StE (B:Nat) (X:Nat->Prop) (w:World) (q p:Nat) (ra:Nat) (most:Int) (t:List Int) (c:Nat) (B' pk pp:Nat) (mv:Int) (R:List Nat) (M:Nat->Bool):Prop where
 lv:LvT B' (inX B' X q) w p pk pp ra mv t R c M
 le:B<=B'
 q0:w.heap[q]? =some (.cells #[.pointer p,most] 58 (0,0))
 qx:exT B X q
def StT(B:Nat)(X:Nat->Prop)(w:World)(q ra:Nat)(most:Int)(t:List Int)(c:Nat):Prop:=∃p B' pk pp mv R M,StE B X w q p ra most t c B' pk pp mv R M
section
variable {B:Nat}{X:Nat->Prop}{w w':World}{q p ra:Nat}{most:Int}{t:List Int}{c B' pk pp:Nat}{mv:Int}{R:List Nat}{M:Nat->Bool}
theorem Cv(a:B<=B'){j:Nat}(h:exT B' (inX B' X q) j):exT B X j:=⟨aV4 a h.1,λe=>h.2 ⟨h.1,Ei e⟩⟩
theorem Cx{j:Nat}(h:exT B' (inX B' X q) j):j≠q:=λe=>h.2 ⟨h.1,Ej e⟩
theorem StE.cells (h:StE B X w q p ra most t c B' pk pp mv R M):w.cell? q=some (.pointer p)/\w.cell? (q,1)=most:=⟨bb8 w q 0 _ _ _ h.q0,bb8 w q 1 _ _ _ h.q0⟩
theorem StE.live (h:StE B X w q p ra most t c B' pk pp mv R M){a:Int}{i:List Int}{d:List Nat}{f:Nat}{b:Nat->Bool}(k:LvT B' (inX B' X q) w' p pk pp ra a i d f b)(g:Chg (exT B' (inX B' X q)) w w'):StE B X w' q p ra most i f B' pk pp a d b/\Chg (exT B X) w w':=⟨⟨k,h.le,g.heap h.q0 (λe=>Cx e rfl),h.qx⟩,g.mono (λj e=>Cv h.le e)⟩
theorem StE.below (h:StE B X w q p ra most t c B' pk pp mv R M)(a:Below w w w'):StE B X w' q p ra most t c B' pk pp mv R M:=⟨h.lv.below a,h.le,(Chg.of_below (S:=λ_=>False) a).heap h.q0 (λe=>e),h.qx⟩
theorem StE.lt (h:StE B X w q p ra most t c B' pk pp mv R M):q<w:=(aJ2.1 h.q0).1
theorem StT.below (h:StT B X w q ra most t c)(a:Below w w w'):StT B X w' q ra most t c:=by
 obtain⟨p,B',pk,pp,mv,R,M,h⟩:=h;exact⟨p,B',pk,pp,mv,R,M,h.below a⟩
theorem StT.le (h:StT B X w q ra most t c):B<=w:=by obtain⟨p,B',pk,pp,mv,R,M,h⟩:=h;have :=h.lv.le;have :=h.le;omega
theorem StT.aside {S:Nat->Prop}(h:StT B X w q ra most t c)(b:Chg S w w')(d:∀j,exT B X j->j<w.heap.size->¬S j):StT B (λj=>X j\/(w.heap.size<=j/\j<w'.heap.size)) w' q ra most t c:=by
 obtain⟨p,B',pk,pp,mv,R,M,h⟩:=h;refine⟨p,B',pk,pp,mv,R,M,⟨(h.lv.aside b (λj a f=>d j (Cv h.le a) f)).mono (λj e=>?_),h.le,b.heap h.q0 (d q h.qx h.lt),⟨h.qx.1,λe=>e.elim h.qx.2 (λe=>by have :=h.lt;omega)⟩⟩⟩;rcases e with ⟨a,(e | e) | e⟩
 ·exact Ei ⟨a,Ei e⟩
 ·exact Ej e
 ·exact Ei ⟨a,Ej e⟩
theorem StT.mono {X':Nat->Prop}(h:StT B X w q ra most t c)(a:∀j,X' j->X j):StT B X' w q ra most t c:=by
 obtain⟨p,B',pk,pp,mv,R,M,h⟩:=h;exact⟨p,B',pk,pp,mv,R,M,⟨h.lv.mono (λj e=>⟨e.1,e.2.imp (a j) id⟩),h.le,h.q0,⟨h.qx.1,λe=>h.qx.2 (a q e)⟩⟩⟩
theorem StT.less {X':Nat->Prop}(h:StT B X w q ra most t c)(a:Below w w w')(d:∀j,X' j->X j\/(w.heap.size<=j/\j<w'.heap.size)):StT B X' w' q ra most t c:=
 (h.aside (S:=λ_=>False) (Chg.of_below a) (λ_ _ _ b=>b)).mono d
theorem rK{most:Int}{ra:Nat}(y:0<=most)(z:most<=2147483648)(l:1<=ra)(f:ra<=64)(w:World):Calls prog 7 #[most,ra] w λe w'=>∃q,e= .returned (.tuple #[.pointer (some ⟨q,0,none⟩), .int .i64 0])/\StT w (λ_=>False) w' q ra most [] 1/\Below w w w':=by
 have g:=θ (Hj l f none 0 [] w ReadsV.nil (λr m=>nomatch m) Ed Ed (λx n=>nomatch n));have s:¬(most<0):=E;have u:¬(2147483648<most):=E;go_in;go_wp2_with fail;refine g.o.mono ?_;rintro e b ⟨p,pk,pp,R,rfl,h,i⟩;have k:=θ h;have d:=θ i;clear h i g;go_wp2;go_ret2;have a:Below b b (b.alloc (.cells #[.pointer p,most] 58)):=(aJ6 _ _).alloc (aV3 _) _;refine⟨b.heap.size,rfl,⟨p,w.heap.size,pk,pp,0,R,_,⟨k.o.less a (λj e=>?_),aV3 _,bc6 b _,⟨d.o.size,λe=>e⟩⟩⟩,d.o.trans (a.mono d.o.size)⟩;obtain⟨v,e | e⟩:=e
 ·exact e.elim
 ·exact Ej (by subst e;simp)
def fT(t:List Int)(at_ n:Int):Bool:=decide (0<=at_/\0<=n/\at_<=t.length/\n<=t.length-at_)
theorem oD(h:StT B X w q ra most t c)(a n:Int):Calls prog 52 #[.pointer q,a,n] w λe w'=>e= .returned (.bool (fT t a n))/\w=w':=by
 obtain⟨p,B',pk,pp,mv,R,M,h⟩:=h;have b:=θ (lM h.lv);have j:=h.lv.len;obtain⟨k,-⟩:=h.cells;clear h;by_cases f:0<=a
 ·by_cases g:0<=n
  ·by_cases i:a<=t.length
   ·have l:IntKind.i64.wrap ((t.length:Int)-a)=(t.length:Int)-a:=aK8 _ E;have d:fT t a n=decide (n<=(t.length:Int)-a):=by unfold fT;simp[f,g,i]
    rw[d];go_in;go_wp2_with fail;refine Cq b.o ?_;go_wp2_with fail;refine Cq b.o ?_;go_wp2;go_ret;exact Er
   ·have d:fT t a n=false:=bc0 (λh=>i h.2.2.1);rw[d];go_in;go_wp2_with fail;refine Cq b.o ?_;go_wp2;go_ret;exact Er
  ·have d:fT t a n=false:=bc0 (λh=>g h.2.1);rw[d];go_in;go_wp2;go_ret;exact Er
 ·have d:fT t a n=false:=bc0 (λh=>f h.1);rw[d];go_in;go_wp2;go_ret;exact Er
end
def bN(k at_ n:Int)(da:Option Addr)(dn dc:Nat):Value:= .agg #[k,at_,n, .slice da dn dc]
def oN(t:List Int)(k:Nat)(d:List Int):List Int:=t.take k++d++t.drop k
def jW(t:List Int)(k n:Nat):List Int:=t.take k++t.drop (k+n)
def iJ(t:List Int)(k:Nat)(d:List Int):List Int:=t.take k++d++t.drop (k+d.length)
section
variable {B:Nat}{X:Nat->Prop}{w w':World}{q p ra:Nat}{most:Int}{t:List Int}{c B' pk pp:Nat}{mv:Int}{R:List Nat}{M:Nat->Bool}
theorem StE.delete (h:StE B X w q p ra most t c B' pk pp mv R M)(b:BitTab w)(o:0<B){k:Nat}(n:k<t.length)(m:c+t.length+10<=1000000):Calls prog 53 #[.pointer p,k] w λe w'=>e= .returned (.int .i64 0)/\(∃a i f g,f<=c+t.length+5/\StE B X w' q p ra most (bj0 t k) f B' pk pp a i g)/\Chg (exT B X) w w':=by
 have :=h.le;refine(am8 h.lv b E n m).mono ?_;rintro e w' ⟨rfl,⟨a,i,f,g,j,l⟩,d⟩;exact⟨rfl,⟨a,i,f,g,j,(h.live l d).1⟩,(h.live l d).2⟩
theorem StE.insert (h:StE B X w q p ra most t c B' pk pp mv R M){k b:Nat}(o:k<=t.length)(m:b<256)(g:t.length<100000)(n:c+t.length+10<=1000000):Calls prog 55 #[.pointer p,k, .int .u8 b] w λe w'=>e= .returned (.int .i64 0)/\(∃a j f i,f<=c+t.length+5/\StE B X w' q p ra most (inL t k (b:Int)) f B' pk pp a j i)/\Chg (exT B X) w w':=by
 refine(ao0 h.lv o m g n).mono ?_;rintro e w' ⟨rfl,⟨a,j,f,i,l,g⟩,d⟩;exact⟨rfl,⟨a,j,f,i,l,(h.live g d).1⟩,(h.live g d).2⟩
theorem StE.set (h:StE B X w q p ra most t c B' pk pp mv R M)(d:BitTab w)(o:0<B){k b:Nat}(n:k<t.length)(m:b<256):Calls prog 54 #[.pointer p,k, .int .u8 b] w λe w'=>e= .returned (.int .i64 0)/\(∃a g i l,i<=c+t.length+5/\StE B X w' q p ra most (t.set k (b:Int)) i B' pk pp a g l)/\Chg (exT B X) w w':=by
 have :=h.le;refine(lvSet h.lv d E n m).mono ?_;rintro e w' ⟨rfl,⟨a,g,j⟩,f⟩;exact⟨rfl,⟨a,g,c,M,E,(h.live j f).1⟩,(h.live j f).2⟩
theorem xX(h:StT B X w q ra most t c){k b n m:Int}{j:Option Addr}{dn l:Nat}(f:m=if k=1 then 0 else if k=3 then (dn:Int)else n)(s:1<=k/\k<=3)(i:fT t b m=false):Calls prog 23 #[.pointer q,bN k b n j dn l] w λe w'=>e= .returned (.int .i64 2)/\Below w w w':=by
 have g:=θ (λ(w':World) (r:Below w w w')=>oD (h.below r) b m);rw[i]at g;have a:Below w w (w.alloc (.cells #[k,b,n, .slice j dn l] 34)):=(aJ6 _ _).alloc (aV3 _) _;unfold bN;obtain rfl | rfl | rfl:k=1\/k=2\/k=3:=E
 ·rw[bd0 rfl]at f;subst f;go_in;go_wp2_with fail;refine Cq (g.o _ a) ?_;go_wp2;go_ret;exact⟨rfl,a⟩
 ·have d:m=n:=by rw[f];simp
  subst d;clear f;go_in;go_wp2_with fail;refine Cq (g.o _ a) ?_;go_wp2;go_ret;exact⟨rfl,a⟩
 ·have d:m=(dn:Int):=by rw[f];simp
  subst d;clear f;go_in;go_wp2_with fail;refine Cq (g.o _ a) ?_;go_wp2;go_ret;exact⟨rfl,a⟩
theorem Qm(h:StT B X w q ra most t c){b n:Int}{i:Option Addr}{dn j:Nat}(f:fT t b 0=true)(x:0<=most)(y:most<=2147483648)(s:most-t.length<dn)(r:dn<=1000000):Calls prog 23 #[.pointer q,bN 1 b n i dn j] w λe w'=>e= .returned (.int .i64 3)/\Below w w w':=by
 have g:=θ (λ(w':World) (k:Below w w w')=>oD (h.below k) b 0);rw[f]at g;have a:Below w w (w.alloc (.cells #[.int .i64 1,b,n, .slice i dn j] 34)):=(aJ6 _ _).alloc (aV3 _) _;have u:=h;obtain⟨p,B',pk,pp,mv,R,M,h⟩:=h;have d:=θ (λn=>(lM (h.below (bb5 a n)).lv).mono (λe w' h=>And.intro h.1 h.2.symm));have v:=h.lv.len;have l:=(h.below a).cells.1;have m:=(h.below a).cells.2;have A:IntKind.i64.wrap (most-(t.length:Int))=most-(t.length:Int):=aK8 _ E;have z:decide (most-(t.length:Int)<(dn:Int))=true:=bc2 s;unfold bN;clear h u;go_in;go_wp2_with fail;refine Cq (g.o _ a) ?_;go_wp2;go_quiet ((go_at_call 24;exact Calls.quiet_of_same (d.o _)));go_wp2;go_ret;exact⟨rfl,bb5 a _⟩
end
section
variable {B:Nat}{X:Nat->Prop}{w w':World}{q p ra:Nat}{most:Int}{t:List Int}{c B' pk pp:Nat}{mv:Int}{R:List Nat}{M:Nat->Bool}
theorem Wl(t:List Int)(k:Nat):jW t k 0=t:=by unfold jW;simp
theorem Wk{t:List Int}{k j:Nat}(h:k+j<t.length):bj0 (jW t k j) k=jW t k (j+1):=by
 unfold bj0 jW;rw[aT7 (by rw[aQ1];omega),aU1,Nat.min_self,aM3,aQ1,List.drop_of_length_le (by rw[aQ1];omega),aS0,List.drop_drop];congr 2;omega
theorem Ii{t:List Int}{k j:Nat}(h:k+j<=t.length):(jW t k j).length=t.length-j:=by unfold jW;rw[aP3,aQ1,aP5];omega
theorem Jb(h:StT B X w q ra most t c)(m:BitTab w)(H:0<B){k n:Nat}{z:Option Addr}{dn A:Nat}(a1:k+n<=t.length)(hc:c+n*(t.length+5)+t.length+10<=1000000):Calls prog 23 #[.pointer (some ⟨q,0,none⟩),bN 2 k n z dn A] w λe w'=>e= .returned (.int .i64 0)/\(∃y,y<=c+n*(t.length+5)/\StT B X w' q ra most (jW t k n) y)/\Chg (exT B X) w w':=by
 have N:=θ (λ(w':World) (hb:Below w.heap.size w w')=>oD (h.below hb) k n);have r:fT t k n=true:=bc2 E;rw[r]at N;have g:Below w.heap.size w (w.alloc (.cells #[.int .i64 2, .int .i64 k, .int .i64 n, .slice z dn A] 34)):=(aJ6 _ _).alloc (aV3 _) _;have F:=bc6 w (.cells #[.int .i64 2, .int .i64 k, .int .i64 n, .slice z dn A] 34);have a2:=h.le;have a3:t.length<=100000:=by obtain⟨p,B',pk,pp,mv,R,M,h⟩:=h;exact h.lv.len
 have l:=θ m;have h1:=h.less (X':=λj=>X j\/j=w.heap.size) g (λj e=>e.imp id (λe=>by subst e;simp));have hX:=λj (e:X j)=>(show j<w.heap.size by obtain⟨p,B',pk,pp,mv,R,M,h⟩:=h;exact(aV8 j B').elim (λZ=>by have :=h.lv.le;omega) (λZ=>h.lv.lv.e.xlt ⟨Z,Ei e⟩));have I:=θ h1;have u:=θ F;have a4:(w.alloc (.cells #[.int .i64 2, .int .i64 k, .int .i64 n, .slice z dn A] 34)).heap.size=w.heap.size+1:=Es;unfold bN;clear h m h1 F r;go_enter func23,ntmps23;go_wp2_with fail;refine(N.o _ g).mono ?_;rintro e w' ⟨rfl,rfl⟩;clear N;go_wp2_with fail;go_quiet (fail);go_wp2_with fail;generalize a5:w.alloc (.cells #[.int .i64 2, .int .i64 k, .int .i64 n, .slice z dn A] 34)=w1 at *;generalize D:w.heap.size=b0 at *;obtain⟨x,a⟩:∃x:Nat->Prop,x=λj=>X j\/j=b0:=⟨_,rfl⟩;rw[<-a]at I;go_loopw [52] (λi wr=>∃j:Nat,j<=n/\i= .int .i64 j/\(∃y,y<=c+j*(t.length+5)/\StT B x wr q ra most (jW t k j) y)/\Chg (exT B x) w1 wr) (λi _=>n-(intOf i).toNat);case atStart=>exact⟨0,aY1 _,rfl,⟨c,E,by rw[Wl];exact I.o.below (bb5 (aJ6 _ _) _)⟩,Chg.refl.drewN _⟩
 case round=>as_aux_lemma=>
  obtain⟨j,hj,rfl,⟨c1,S,Q⟩,d⟩:=hrel;by_cases V:j<n
  ·obtain⟨p,B',pk,pp,mv,R,M,P⟩:=Q;have s:=Ii (t:=t) (k:=k) (j:=j) E;have a0:j*(t.length+5)+(t.length+5)<=n*(t.length+5):=by
    rw[<-aX1];exact aW4 _ V
   have C:BitTab wr:=(l.o.below' (by rw[D];exact g)).below (bZ d E) H;have L:=θ (StE.delete (P.below (w':=wr.drew) ⟨rfl,rfl,rfl,aV3 _,λ_ _=>rfl⟩) (by exact C) H (k:=k) (by rw[s];omega) (by rw[s];omega));rw[Wk E]at L;have v:=θ (And.intro P.cells.1 (bb8 wr b0 1 _ _ _ (d.heap u.o (λe=>e.2 (by rw[a];exact Ej rfl)))));have J:=θ d;have i1:(j:Int)<(n:Int):=E;have i2:IntKind.i64.wrap ((j:Int)+1)=((j+1:Nat):Int):=by rw[aK8 _ E];omega
   have W:x b0:=by rw[a];exact Ej rfl
   clear P d C I u l a;go_wp2_with fail;refine aG (λw'=>w'.cell? ⟨q,0,none⟩=some (.pointer (some ⟨p,0,none⟩))/\w'.cell? ⟨b0,1,none⟩=some (.int .i64 k)) Ek (v.o) (λU=>?_);refine rV 0 1 2 3 U ?_;refine rU 4 5 U ?_;refine rg 6 λκ hK=>?_;go_simp;refine L.o.mono ?_;rintro e w2 ⟨rfl,⟨Y,R2,c2,M2,T,O⟩,f⟩;have G:=And.intro O.cells.1 (f.cell v.o.2 (λe=>e.2 W));have H2:=θ O;have K:=θ (J.o.drew.trans f (λb e=>Ei e));clear O f L;refine hK.out _ _ (G) ?_;intro U;try simp only[pt]
   refine rz ?_;go_wp2_with fail;go_roundw;case rel=>exact⟨j+1,E,rfl,⟨c2,by rw[s]at T;rw[aX1];omega,⟨p,B',pk,pp,Y,R2,M2,H2.o⟩⟩,K.o⟩
   case measure=>simp[intOf];omega
  ·obtain rfl:j=n:=E;have i1:¬((j:Int)<(j:Int)):=E;have HS:=θ Q;have J:=θ d;clear Q d;go_wp2_with fail;go_ret;refine⟨rfl,⟨c1,S,HS.o.mono (λj e=>by rw[a];exact Ei e)⟩,(Chg.of_below (by rw[D];exact g)).trans (J.o.mono (S':=exT B X) (λj e=>⟨e.1,λhx=>e.2 (by rw[a];exact Ei hx)⟩)) (λb e=>Ei e)⟩
theorem ax5(t:List Int)(k:Nat):oN t k []=t:=by unfold oN;simp
theorem Nq{t d:List Int}{k:Nat}(h:k<=t.length):(oN t k d).length=t.length+d.length:=by unfold oN;rw[aP3,aP3,aQ1,aP5];omega
theorem af2{t d:List Int}{k j:Nat}{x:Int}(h:k<=t.length)(a:d[j]? =some x):inL (oN t k (d.take j)) (k+j) x=oN t k (d.take (j+1)):=by
 have e:=(aO2.1 a).1;have b:(t.take k++d.take j).length=k+j:=by rw[aP3,aQ1,aQ1];omega
 unfold inL oN;rw[aT7 E,aT9 E,aM3,b,List.drop_of_length_le E,aT5,a];simp
theorem Jc(h:StT B X w q ra most t c)(a9:BitTab w)(b7:0<B){k u:Nat}{n:Int}{m:Option Addr}{d:List Int}(O:Reads w .u8 m d)(a5:0<d.length->∀ad,m=some ad->¬exT B X ad.block)(a2:aS d)(N:k<=t.length)(h0:0<=most)(h9:most<=2147483648)(a6:(d.length:Int)<=most-t.length)(hl:t.length+d.length<=99999)(hc:c+d.length*(t.length+d.length+5)+t.length+d.length+10<=1000000):Calls prog 23 #[.pointer (some ⟨q,0,none⟩),bN 1 k n m d.length u] w λe w'=>e= .returned (.int .i64 0)/\(∃J,J<=c+d.length*(t.length+d.length+5)/\StT B X w' q ra most (oN t k d) J)/\Chg (exT B X) w w':=by
 have Z:=θ (λ(w':World) (Q:Below w.heap.size w w')=>oD (h.below Q) k 0);have y:fT t k 0=true:=bc2 E;rw[y]at Z;have f:Below w.heap.size w (w.alloc (.cells #[.int .i64 1, .int .i64 k, .int .i64 n, .slice m d.length u] 34)):=(aJ6 _ _).alloc (aV3 _) _;have K:=bc6 w (.cells #[.int .i64 1, .int .i64 k, .int .i64 n, .slice m d.length u] 34);have b4:=h.le;have b5:t.length<=100000:=by obtain⟨p,B',pk,pp,mv,R,M,h⟩:=h;exact h.lv.len
 have hw:IntKind.i64.wrap (most-(t.length:Int))=most-(t.length:Int):=aK8 _ E;have hd:decide (most-(t.length:Int)<(d.length:Int))=false:=bc0 E;have G:=θ (show ∃p,(w.alloc (.cells #[.int .i64 1, .int .i64 k, .int .i64 n, .slice m d.length u] 34)).cell? ⟨q,0,none⟩=some (.pointer (some ⟨p,0,none⟩))/\(w.alloc (.cells #[.int .i64 1, .int .i64 k, .int .i64 n, .slice m d.length u] 34)).cell? ⟨q,1,none⟩=some (.int .i64 most)/\∀T,Calls prog 24 #[.pointer (some ⟨p,0,none⟩)] ((w.alloc (.cells #[.int .i64 1, .int .i64 k, .int .i64 n, .slice m d.length u] 34)).drewN T) λe w'=>e= .returned (.int .i64 t.length)/\w'=((w.alloc (.cells #[.int .i64 1, .int .i64 k, .int .i64 n, .slice m d.length u] 34)).drewN T) by
  obtain⟨p,B',pk,pp,mv,R,M,h⟩:=h
  exact⟨p,(h.below f).cells.1,(h.below f).cells.2,λT=>(lM (h.below (bb5 f T)).lv).mono (λe w' h=>And.intro h.1 h.2.symm)⟩)
 have H:=θ (Reads.below O f);have h1:=h.less (X':=λj=>X j\/j=w.heap.size) f (λj e=>e.imp id (λe=>by subst e;simp));have hX:=λj (e:X j)=>(show j<w.heap.size by obtain⟨p,B',pk,pp,mv,R,M,h⟩:=h;exact(aV8 j B').elim (λe'=>by have :=h.lv.le;omega) (λe'=>h.lv.lv.e.xlt ⟨e',Ei e⟩));have U:=θ h1;have A:=θ K;have b6:(w.alloc (.cells #[.int .i64 1, .int .i64 k, .int .i64 n, .slice m d.length u] 34)).heap.size=w.heap.size+1:=Es;unfold bN;clear h h1 K y O;go_enter func23,ntmps23;go_wp2_with fail;refine(Z.o _ f).mono ?_;rintro e w' ⟨rfl,rfl⟩;clear Z;obtain⟨p,a3,C,z⟩:=G.o;have x:=θ z;clear z G;go_wp2_with fail;go_quiet ((go_at_call 24;exact Calls.quiet_of_same (x.o _)));go_wp2_with fail;clear a3 C x;generalize b8:w.alloc (.cells #[.int .i64 1, .int .i64 k, .int .i64 n, .slice m d.length u] 34)=w1 at *;generalize a0:w.heap.size=b0 at *;obtain⟨I,a⟩:∃I:Nat->Prop,I=λj=>X j\/j=b0:=⟨_,rfl⟩;rw[<-a]at U;go_loopw [65] (λi wr=>∃j:Nat,j<=d.length/\i= .int .i64 j/\(∃J,J<=c+j*(t.length+d.length+5)/\StT B I wr q ra most (oN t k (d.take j)) J)/\Chg (exT B I) w1 wr) (λi _=>d.length-(intOf i).toNat);case atStart=>exact⟨0,aY1 _,rfl,⟨c,E,by rw[aU2,ax5];exact U.o.below (bb5 (aJ6 _ _) _)⟩,Chg.refl.drewN _⟩
 case round=>as_aux_lemma=>
  obtain⟨j,hj,rfl,⟨c1,C,P⟩,g⟩:=hrel;by_cases v:j<d.length
  ·obtain⟨p,B',pk,pp,mv,R,M,hE⟩:=P;have s:=Nq (t:=t) (k:=k) (d:=d.take j) N;rw[aQ1,aW0 hj]at s;have b1:j*(t.length+d.length+5)+(t.length+d.length+5)<=d.length*(t.length+d.length+5):=by
    rw[<-aX1];exact aW4 _ v
   obtain⟨b,Q,a1⟩:∃b:Nat,d[j]? =some (b:Int)/\b<256:=by
    rw[aO0 v];have :=a2 _ (aP0 v);exact⟨(d[j]).toNat,by congr 1;omega,E⟩
   obtain⟨bd,b9,rfl,b2,l⟩:=H.o.some E;have D:=g.cell (l j v) (λe=>a5 E _ rfl ⟨e.1,λhx=>e.2 (by rw[a];exact Ei hx)⟩);rw[Q]at D;have Y:=θ (StE.insert (hE.below (w':=wr.drew) ⟨rfl,rfl,rfl,aV3 _,λ_ _=>rfl⟩) (k:=k+j) (by rw[s];omega) a1 (by rw[s];omega) (by rw[s];omega));rw[af2 N Q]at Y;have F:=θ (And.intro hE.cells.1 (bb8 wr b0 1 _ _ _ (g.heap A.o (λe=>e.2 (by rw[a];exact Ej rfl)))));have b3:wr.cell? ⟨b0,0,none⟩=some (.int .i64 1):=bb8 wr b0 0 _ _ _ (g.heap A.o (λe=>e.2 (by rw[a];exact Ej rfl)));have V:=θ g;have i1:(j:Int)<(d.length:Int):=E;have i2:IntKind.i64.wrap ((j:Int)+1)=((j+1:Nat):Int):=by rw[aK8 _ E];omega
   have i3:IntKind.i64.wrap ((k:Int)+(j:Int))=((k+j:Nat):Int):=by rw[aK8 _ E];omega
   have i4:(0:Int)<=(j:Int):=E;have a7:I b0:=by rw[a];exact Ej rfl
   clear hE g U A a l H;go_wp2_with fail;refine aG (λw'=>w'.cell? ⟨q,0,none⟩=some (.pointer (some ⟨p,0,none⟩))/\w'.cell? ⟨b0,1,none⟩=some (.int .i64 k)) Ek (F.o) (λS=>?_);refine rV 0 1 2 3 S ?_;refine rV 4 5 6 7 S ?_;refine rt 8 S ?_;refine rg 9 λκ hK=>?_;go_simp;refine Y.o.mono ?_;rintro e w2 ⟨rfl,⟨a8,R2,c2,M2,a4,h2⟩,r⟩;have L:=And.intro h2.cells.1 (r.cell F.o.2 (λe=>e.2 a7));have H2:=θ h2;have W:=θ (V.o.drew.trans r (λb e=>Ei e));clear h2 r Y;refine hK.out _ _ (L) ?_;intro S;try simp only[pt]
   refine rz ?_;go_wp2_with fail;go_roundw;case rel=>exact⟨j+1,E,rfl,⟨c2,by rw[s]at a4;rw[aX1];omega,⟨p,B',pk,pp,a8,R2,M2,H2.o⟩⟩,W.o⟩
   case measure=>simp[intOf];omega
  ·obtain rfl:j=d.length:=E;rw[aT8]at P;have i1:¬((d.length:Int)<(d.length:Int)):=E;have HS:=θ P;have V:=θ g;clear P g;go_wp2_with fail;go_ret;refine⟨rfl,⟨c1,C,HS.o.mono (λj e=>by rw[a];exact Ei e)⟩,(Chg.of_below (by rw[a0];exact f)).trans (V.o.mono (S':=exT B X) (λj e=>⟨e.1,λhx=>e.2 (by rw[a];exact Ei hx)⟩)) (λb e=>Ei e)⟩
theorem Wm(t:List Int)(k:Nat):iJ t k []=t:=by unfold iJ;simp
theorem Dx{t d:List Int}{k:Nat}(h:k+d.length<=t.length):(iJ t k d).length=t.length:=by unfold iJ;rw[aP3,aP3,aQ1,aP5];omega
theorem Qo{t d:List Int}{k j:Nat}{x:Int}(h:k+j<t.length)(a:d[j]? =some x):(iJ t k (d.take j)).set (k+j) x=iJ t k (d.take (j+1)):=by
 have e:=(aO2.1 a).1;have b:(t.take k++d.take j).length=k+j:=by rw[aP3,aQ1,aQ1];omega
 unfold iJ;rw[aQ1,aQ1,aW0 E,aW0 E,List.set_append_right _ _ E,b,aW9,aM5 h,aT1,aT5,a];simp[aU3]
theorem Wi(h:StT B X w q ra most t c)(G:BitTab w)(N:0<B){k F:Nat}{n:Int}{v:Option Addr}{d:List Int}(L:Reads w .u8 v d)(a4:0<d.length->∀ad,v=some ad->¬exT B X ad.block)(a1:aS d)(b1:k+d.length<=t.length)(hc:c+d.length*(t.length+5)+t.length+10<=1000000):Calls prog 23 #[.pointer (some ⟨q,0,none⟩),bN 3 k n v d.length F] w λe w'=>e= .returned (.int .i64 0)/\(∃D,D<=c+d.length*(t.length+5)/\StT B X w' q ra most (iJ t k d) D)/\Chg (exT B X) w w':=by
 have W:=θ (λ(w':World) (P:Below w.heap.size w w')=>oD (h.below P) k d.length);have s:fT t k d.length=true:=bc2 E;rw[s]at W;have l:Below w.heap.size w (w.alloc (.cells #[.int .i64 3, .int .i64 k, .int .i64 n, .slice v d.length F] 34)):=(aJ6 _ _).alloc (aV3 _) _;have I:=bc6 w (.cells #[.int .i64 3, .int .i64 k, .int .i64 n, .slice v d.length F] 34);have b2:=h.le;have b3:t.length<=100000:=by obtain⟨p,B',pk,pp,mv,R,M,h⟩:=h;exact h.lv.len
 have A:=θ G;have z:=θ (Reads.below L l);have h1:=h.less (X':=λj=>X j\/j=w.heap.size) l (λj e=>e.imp id (λe=>by subst e;simp));have hX:=λj (e:X j)=>(show j<w.heap.size by obtain⟨p,B',pk,pp,mv,R,M,h⟩:=h;exact(aV8 j B').elim (λe'=>by have :=h.lv.le;omega) (λe'=>h.lv.lv.e.xlt ⟨e',Ei e⟩));have S:=θ h1;have u:=θ I;have b4:(w.alloc (.cells #[.int .i64 3, .int .i64 k, .int .i64 n, .slice v d.length F] 34)).heap.size=w.heap.size+1:=Es;unfold bN;clear h h1 I s L;go_enter func23,ntmps23;go_wp2_with fail;refine(W.o _ l).mono ?_;rintro e w' ⟨rfl,rfl⟩;clear W;go_wp2_with fail;go_quiet (fail);go_wp2_with fail;generalize b5:w.alloc (.cells #[.int .i64 3, .int .i64 k, .int .i64 n, .slice v d.length F] 34)=w1 at *;generalize H:w.heap.size=b0 at *;obtain⟨C,a⟩:∃C:Nat->Prop,C=λj=>X j\/j=b0:=⟨_,rfl⟩;rw[<-a]at S;go_loopw [65] (λi wr=>∃j:Nat,j<=d.length/\i= .int .i64 j/\(∃D,D<=c+j*(t.length+5)/\StT B C wr q ra most (iJ t k (d.take j)) D)/\Chg (exT B C) w1 wr) (λi _=>d.length-(intOf i).toNat);case atStart=>exact⟨0,aY1 _,rfl,⟨c,E,by rw[aU2,Wm];exact S.o.below (bb5 (aJ6 _ _) _)⟩,Chg.refl.drewN _⟩
 case round=>as_aux_lemma=>
  obtain⟨j,hj,rfl,⟨c1,a2,O⟩,f⟩:=hrel;by_cases r:j<d.length
  ·obtain⟨p,B',pk,pp,mv,R,M,hE⟩:=O;have K:=Dx (t:=t) (k:=k) (d:=d.take j) (by rw[aQ1];omega);have Z:BitTab wr:=(A.o.below' (by rw[H];exact l)).below (bZ f E) N;have a7:j*(t.length+5)+(t.length+5)<=d.length*(t.length+5):=by
    rw[<-aX1];exact aW4 _ r
   obtain⟨b,P,a0⟩:∃b:Nat,d[j]? =some (b:Int)/\b<256:=by
    rw[aO0 r];have :=a1 _ (aP0 r);exact⟨(d[j]).toNat,by congr 1;omega,E⟩
   obtain⟨bd,b6,rfl,a8,g⟩:=z.o.some E;have x:=f.cell (g j r) (λe=>a4 E _ rfl ⟨e.1,λhx=>e.2 (by rw[a];exact Ei hx)⟩);rw[P]at x;have V:=θ (StE.set (hE.below (w':=wr.drew) ⟨rfl,rfl,rfl,aV3 _,λ_ _=>rfl⟩) (by exact Z) N (k:=k+j) (by rw[K];omega) a0);rw[Qo E P]at V;have y:=θ (And.intro hE.cells.1 (bb8 wr b0 1 _ _ _ (f.heap u.o (λe=>e.2 (by rw[a];exact Ej rfl)))));have a9:wr.cell? ⟨b0,0,none⟩=some (.int .i64 3):=bb8 wr b0 0 _ _ _ (f.heap u.o (λe=>e.2 (by rw[a];exact Ej rfl)));have T:=θ f;have i1:(j:Int)<(d.length:Int):=E;have i2:IntKind.i64.wrap ((j:Int)+1)=((j+1:Nat):Int):=by rw[aK8 _ E];omega
   have i3:IntKind.i64.wrap ((k:Int)+(j:Int))=((k+j:Nat):Int):=by rw[aK8 _ E];omega
   have i4:(0:Int)<=(j:Int):=E;have a5:C b0:=by rw[a];exact Ej rfl
   clear hE f S u a g z;go_wp2_with fail;refine aG (λw'=>w'.cell? ⟨q,0,none⟩=some (.pointer (some ⟨p,0,none⟩))/\w'.cell? ⟨b0,1,none⟩=some (.int .i64 k)) Ek (y.o) (λQ=>?_);refine rV 0 1 2 3 Q ?_;refine rV 4 5 6 7 Q ?_;refine rt 8 Q ?_;refine rg 9 λκ hK=>?_;go_simp;refine V.o.mono ?_;rintro e w2 ⟨rfl,⟨a6,R2,c2,M2,a3,Y⟩,m⟩;have J:=And.intro Y.cells.1 (m.cell y.o.2 (λe=>e.2 a5));have H2:=θ Y;have U:=θ (T.o.drew.trans m (λb e=>Ei e));clear Y m V;refine hK.out _ _ (J) ?_;intro Q;try simp only[pt]
   refine rz ?_;go_wp2_with fail;go_roundw;case rel=>exact⟨j+1,E,rfl,⟨c2,by rw[K]at a3;rw[aX1];omega,⟨p,B',pk,pp,a6,R2,M2,H2.o⟩⟩,U.o⟩
   case measure=>simp[intOf];omega
  ·obtain rfl:j=d.length:=E;rw[aT8]at O;have i1:¬((d.length:Int)<(d.length:Int)):=E;have HS:=θ O;have T:=θ f;clear O f;go_wp2_with fail;go_ret;refine⟨rfl,⟨c1,a2,HS.o.mono (λj e=>by rw[a];exact Ei e)⟩,(Chg.of_below (by rw[H];exact l)).trans (T.o.mono (S':=exT B X) (λj e=>⟨e.1,λhx=>e.2 (by rw[a];exact Ei hx)⟩)) (λb e=>Ei e)⟩
end
def bM(a:Option Addr)(j:Nat):Prop:=∃ad,a=some ad/\ad.block=j
def DoR(B:Nat)(X:Nat->Prop)(w:World)(q ra:Nat)(most:Int)(t:List Int)(cm:Nat)(code n:Int)(d l:List Int)(e:Ending)(w':World):Prop:=
 ∃da dc pa pc,e= .returned (.agg #[code,n, .slice da d.length dc, .slice pa l.length pc])/\Reads w' .u8 da d/\Reads w' .i64 pa l/\
  (∃c,c<=cm/\StT B (λj=>X j\/bM da j\/bM pa j) w' q ra most t c)/\Chg (exT B X) w w'/\∀j,bM da j\/bM pa j->w.heap.size<=j
section
variable {B:Nat}{X:Nat->Prop}{w w':World}{q ra:Nat}{most:Int}{t:List Int}{c:Nat}
theorem aZ{j:Nat}(h:bM none j):False:=by obtain⟨a,e,_⟩:=h;cases e
theorem xT{b:Nat}{m n o p:Value}{g:TypeId}(h:w.heap[b]? =some (.cells #[m,n,o,p] g (0,0)))(a d e f:Value):((((w.setCell b a).setCell (b,1) d).setCell (b,2) e).setCell (b,3) f).heap[b]? =some (.cells #[a,d,e,f] g (0,0))/\Chg (λj=>j=b) w ((((w.setCell b a).setCell (b,1) d).setCell (b,2) e).setCell (b,3) f):=
 ⟨bD (bD (bD (bD h 0 a) 1 d) 2 e) 3 f,by
  have i:=(Chg.refl (S:=λj=>j=b) (w:=w)).setCell b (Ei rfl) a
  have k:=i.setCell (b,1) (Ei rfl) d
  have l:=k.setCell (b,2) (Ei rfl) e
  exact l.setCell (b,3) (Ei rfl) f⟩
theorem qQ{b:Nat}{f g h i:Value}{a:Act}{e:Ending->World->Prop}(n:a.tmps[4]?.getD undef= .pointer b)(p:a.defers=[])(d:w.heap[b]? =some (.cells #[f,g,h,i] 38 (0,0)))(o:e (.returned (.agg #[f,g,h,i])) w):bodyPost prog Tryz.f11 e .ret a w:=by
 have j:=bb8 w b 0 _ _ _ d;have k:=bb8 w b 1 _ _ _ d;have l:=bb8 w b 2 _ _ _ d;have m:=bb8 w b 3 _ _ _ d;show a.defers=[]/\∃v,(results Tryz.f11 a.tmps).run prog w= .ok v w/\e (.returned v) w;refine⟨p,_,?_,o⟩;simp[results,Tryz.f11,go_sem,n,j,k,l,m]
theorem jB(h:StT B X w q ra most t c){k l n:Int}{A:Option Addr}{dn C:Nat}{m:Int}{U:List Int}{cm:Nat}(V:k=1\/k=2\/k=3)(T:∀M J,StT B J M q ra most t c->Below w w M->(∀j,J j->X j\/w.heap.size<=j)->(∀j,X j->J j)->Calls prog 23 #[.pointer q,bN k l n A dn C] M λe w'=>e= .returned m/\(∃z,z<=cm/\StT B J w' q ra most U z)/\Chg (exT B J) M w'):Calls prog 11 #[.pointer q,bN k l n A dn C] w (DoR B X w q ra most U cm m 0 [] []):=by
 have L:=θ T;have H:=θ h;clear T h;unfold bN at L⊢;rcases V with rfl | rfl | rfl
 ·go_in;go_wp2_with fail;obtain⟨d,x⟩:=Ey (w.heap.size+1);have p:=bc6 (w.alloc (.cells #[.int .i64 1,l,n, .slice A dn C] 34)) (.cells #[.int .i64 0, .int .i64 0, .slice none 0 0, .slice none 0 0] 38);have g:Below w w ((w.alloc (.cells #[.int .i64 1,l,n, .slice A dn C] 34)).alloc (.cells #[.int .i64 0, .int .i64 0, .slice none 0 0, .slice none 0 0] 38)):=((aJ6 _ _).alloc (aV3 _) _).alloc Es _;rw[bb3,x]at p;refine(L.o _ (λj=>X j\/j=d) (H.o.less g (λj e=>e.imp id (λe=>by subst e;simp;omega))) g (λj e=>e.imp id (λe=>E)) (λj e=>Ei e)).mono ?_;rintro e f ⟨rfl,⟨z,y,G⟩,i⟩;have a:=i.heap p (λe=>e.2 (Ej rfl));have I:=θ G;have u:=θ i;have s:=θ a;have P:=bc4 f d 0 _ _ a;have Q:=bc4 f d 1 _ _ a;have R:=bc4 f d 2 _ _ a;have S:=bc4 f d 3 _ _ a;have N:=bb8 f d 0 _ _ _ a;have D:=bb8 f d 1 _ _ _ a;have F:=bb8 f d 2 _ _ _ a;have O:=bb8 f d 3 _ _ _ a;clear G i a;go_wp2_with fail;obtain⟨v,r⟩:=xT s.o m (.int .i64 0) (.slice none 0 0) (.slice none 0 0);refine qQ rfl rfl v ⟨none,0,none,0,rfl,Reads.nil,Reads.nil,⟨z,y,(I.o.aside r (λj D _ F=>D.2 (Ej F))).mono (λj e=>?_)⟩,((Chg.of_below g).trans (u.o.mono (S':=exT B X) (λj e=>⟨e.1,λK=>e.2 (Ei K)⟩)) (λb e=>Ei e)).trans r (λb e=>Ej E),λj e=>(e.elim aZ aZ).elim⟩;exact e.elim (λe=>Ei (Ei e)) (λe=>(e.elim aZ aZ).elim)
 ·go_in;go_wp2_with fail;obtain⟨d,x⟩:=Ey (w.heap.size+1);have p:=bc6 (w.alloc (.cells #[.int .i64 2,l,n, .slice A dn C] 34)) (.cells #[.int .i64 0, .int .i64 0, .slice none 0 0, .slice none 0 0] 38);have g:Below w w ((w.alloc (.cells #[.int .i64 2,l,n, .slice A dn C] 34)).alloc (.cells #[.int .i64 0, .int .i64 0, .slice none 0 0, .slice none 0 0] 38)):=((aJ6 _ _).alloc (aV3 _) _).alloc Es _;rw[bb3,x]at p;refine(L.o _ (λj=>X j\/j=d) (H.o.less g (λj e=>e.imp id (λe=>by subst e;simp;omega))) g (λj e=>e.imp id (λe=>E)) (λj e=>Ei e)).mono ?_;rintro e f ⟨rfl,⟨z,y,G⟩,i⟩;have a:=i.heap p (λe=>e.2 (Ej rfl));have I:=θ G;have u:=θ i;have s:=θ a;have P:=bc4 f d 0 _ _ a;have Q:=bc4 f d 1 _ _ a;have R:=bc4 f d 2 _ _ a;have S:=bc4 f d 3 _ _ a;have N:=bb8 f d 0 _ _ _ a;have D:=bb8 f d 1 _ _ _ a;have F:=bb8 f d 2 _ _ _ a;have O:=bb8 f d 3 _ _ _ a;clear G i a;go_wp2_with fail;obtain⟨v,r⟩:=xT s.o m (.int .i64 0) (.slice none 0 0) (.slice none 0 0);refine qQ rfl rfl v ⟨none,0,none,0,rfl,Reads.nil,Reads.nil,⟨z,y,(I.o.aside r (λj D _ F=>D.2 (Ej F))).mono (λj e=>?_)⟩,((Chg.of_below g).trans (u.o.mono (S':=exT B X) (λj e=>⟨e.1,λK=>e.2 (Ei K)⟩)) (λb e=>Ei e)).trans r (λb e=>Ej E),λj e=>(e.elim aZ aZ).elim⟩;exact e.elim (λe=>Ei (Ei e)) (λe=>(e.elim aZ aZ).elim)
 ·go_in;go_wp2_with fail;obtain⟨d,x⟩:=Ey (w.heap.size+1);have p:=bc6 (w.alloc (.cells #[.int .i64 3,l,n, .slice A dn C] 34)) (.cells #[.int .i64 0, .int .i64 0, .slice none 0 0, .slice none 0 0] 38);have g:Below w w ((w.alloc (.cells #[.int .i64 3,l,n, .slice A dn C] 34)).alloc (.cells #[.int .i64 0, .int .i64 0, .slice none 0 0, .slice none 0 0] 38)):=((aJ6 _ _).alloc (aV3 _) _).alloc Es _;rw[bb3,x]at p;refine(L.o _ (λj=>X j\/j=d) (H.o.less g (λj e=>e.imp id (λe=>by subst e;simp;omega))) g (λj e=>e.imp id (λe=>E)) (λj e=>Ei e)).mono ?_;rintro e f ⟨rfl,⟨z,y,G⟩,i⟩;have a:=i.heap p (λe=>e.2 (Ej rfl));have I:=θ G;have u:=θ i;have s:=θ a;have P:=bc4 f d 0 _ _ a;have Q:=bc4 f d 1 _ _ a;have R:=bc4 f d 2 _ _ a;have S:=bc4 f d 3 _ _ a;have N:=bb8 f d 0 _ _ _ a;have D:=bb8 f d 1 _ _ _ a;have F:=bb8 f d 2 _ _ _ a;have O:=bb8 f d 3 _ _ _ a;clear G i a;go_wp2_with fail;obtain⟨v,r⟩:=xT s.o m (.int .i64 0) (.slice none 0 0) (.slice none 0 0);refine qQ rfl rfl v ⟨none,0,none,0,rfl,Reads.nil,Reads.nil,⟨z,y,(I.o.aside r (λj D _ F=>D.2 (Ej F))).mono (λj e=>?_)⟩,((Chg.of_below g).trans (u.o.mono (S':=exT B X) (λj e=>⟨e.1,λK=>e.2 (Ei K)⟩)) (λb e=>Ei e)).trans r (λb e=>Ej E),λj e=>(e.elim aZ aZ).elim⟩;exact e.elim (λe=>Ei (Ei e)) (λe=>(e.elim aZ aZ).elim)
def doW(w:World)(k at_ n:Int)(da:Option Addr)(dn dc:Nat):World:=(w.alloc (.cells #[k,at_,n, .slice da dn dc] 34)).alloc (.cells #[.int .i64 0, .int .i64 0, .slice none 0 0, .slice none 0 0] 38)
def doX(X:Nat->Prop)(b:Nat)(j:Nat):Prop:=X j\/j=b\/j=b+1
theorem qR(h:StT B X w q ra most t c)(k a n:Int)(b:Option Addr)(dn d:Nat):StT B (doX X w) (doW w k a n b dn d) q ra most t c/\(doW w k a n b dn d).heap[w.heap.size]? =some (.cells #[k,a,n, .slice b dn d] 34 (0,0))/\(doW w k a n b dn d).heap[w.heap.size+1]? =some (.cells #[.int .i64 0, .int .i64 0, .slice none 0 0, .slice none 0 0] 38 (0,0))/\Below w w (doW w k a n b dn d)/\(doW w k a n b dn d).heap.size=w.heap.size+2:=by
 have f:Below w w (doW w k a n b dn d):=((aJ6 _ _).alloc (aV3 _) _).alloc Es _;have g:(doW w k a n b dn d).heap.size=w.heap.size+2:=by unfold doW;simp
 refine⟨h.less f (λj e=>e.imp id (λe=>E)),?_,?_,f,g⟩
 ·unfold doW;rw[yN _ _ Es];exact bc6 w _
 ·have :=bc6 (w.alloc (.cells #[k,a,n, .slice b dn d] 34)) (.cells #[.int .i64 0, .int .i64 0, .slice none 0 0, .slice none 0 0] 38);rw[bb3]at this;exact this
theorem Ig{o p:World}(M:Below w w o)(Q:o.heap.size=w.heap.size+2){h pa:Option Addr}{H:List Int}{r D:Nat}(L:StT B (λj=>doX X w j\/bM h j\/bM pa j) p q ra most H r)(v:r<=D)(m:Chg (exT B (doX X w)) o p)(P:o.heap[w.heap.size+1]? =some (.cells #[.int .i64 0, .int .i64 0, .slice none 0 0, .slice none 0 0] 38 (0,0))){d l:List Int}(N:Reads p .u8 h d)(O:Reads p .i64 pa l)(A:∀j,bM h j\/bM pa j->o.heap.size<=j)(f n:Int)(k pc:Nat){F G:Nat}(y:d.length=F)(z:l.length=G){a:Act}(J:a.tmps[4]?.getD undef= .pointer (w.heap.size+1,0))(x:a.defers=[]){C:Ending->World->Prop}(K:∀w',DoR B X w q ra most H D f n d l (.returned (.agg #[f,n, .slice h d.length k, .slice pa l.length pc])) w'->C (.returned (.agg #[f,n, .slice h d.length k, .slice pa l.length pc])) w'):bodyPost prog Tryz.f11 C .ret a ((((p.setCell (w.heap.size+1,0) f).setCell (w.heap.size+1,1) n).setCell (w.heap.size+1,2) (.slice h F k)).setCell (w.heap.size+1,3) (.slice pa G pc)):=by
 subst y z;obtain⟨u,g⟩:=xT (m.heap P (λe=>e.2 (Ej (Ej rfl)))) (.int .i64 f) (.int .i64 n) (.slice h d.length k) (.slice pa l.length pc);refine qQ J x u (K _ ⟨h,k,pa,pc,rfl,g.reads N (λi e s=>?_),g.reads O (λi e s=>?_),⟨r,v,(L.aside g (λj I _ s=>I.2 (Ei (Ej (Ej s))))).mono (λj e=>Ei (e.imp Ei id))⟩,((Chg.of_below M).trans (m.mono (S':=exT B X) (λj e=>⟨e.1,λR=>e.2 (Ei R)⟩)) (λb e=>Ei e)).trans g (λb e=>Ej E),λj e=>by have :=A j e;omega⟩)
 ·have :=A i.block (Ei ⟨i,e,rfl⟩);omega
 ·have :=A i.block (Ej ⟨i,e,rfl⟩);omega
theorem vG{e w2:World}(y:Below w w e)(o:e.heap.size=w.heap.size+2){da pa:Option Addr}{u:List Int}{p r:Nat}(x:StT B (λj=>doX X w j\/bM da j\/bM pa j) w2 q ra most u p)(f:p<=r)(g:Chg (exT B (doX X w)) e w2)(C:e.heap[w.heap.size+1]? =some (.cells #[.int .i64 0, .int .i64 0, .slice none 0 0, .slice none 0 0] 38 (0,0))){d l:List Int}(z:Reads w2 .u8 da d)(A:Reads w2 .i64 pa l)(D:∀j,bM da j\/bM pa j->e.heap.size<=j)(b n:Int)(s pc:Nat){m1 m2:Nat}(k:d.length=m1)(m:l.length=m2){a:Act}(v:a.tmps[4]?.getD undef= .pointer (w.heap.size+1,0))(i:a.defers=[]):bodyPost prog Tryz.f11 (DoR B X w q ra most u r b n d l) .ret a ((((w2.setCell (w.heap.size+1,0) b).setCell (w.heap.size+1,1) n).setCell (w.heap.size+1,2) (.slice da m1 s)).setCell (w.heap.size+1,3) (.slice pa m2 pc)):=
 Ig y o x f g C z A D b n s pc k m v i (λ_ h=>h)
theorem vnil{Y:Nat->Prop}(h:StT B Y w q ra most t c):StT B (λj=>Y j\/bM none j\/bM none j) w q ra most t c:=h.mono (λj e=>e.elim id (λe=>(e.elim aZ aZ).elim))
theorem Dv(h:StT B X w q ra most t c)(o:Obj)(b n:Int){a:Act}(i:a.tmps[4]?.getD undef= .pointer (w.heap.size+1,0))(f:a.defers=[]):bodyPost prog Tryz.f11 (DoR B X w q ra most t c b n [] []) .ret a ((w.alloc o).alloc (.cells #[b,n, .slice none 0 0, .slice none 0 0] 38)):=by
 have d:Below w w ((w.alloc o).alloc (.cells #[b,n, .slice none 0 0, .slice none 0 0] 38)):=((aJ6 _ _).alloc (aV3 _) _).alloc Es _;have g:=bc6 (w.alloc o) (.cells #[b,n, .slice none 0 0, .slice none 0 0] 38);rw[bb3]at g;exact qQ i f g ⟨none,0,none,0,rfl,Reads.nil,Reads.nil,⟨c,aV3 _,vnil (h.less d (λj e=>Ei e))⟩,Chg.of_below d,λj e=>(e.elim aZ aZ).elim⟩
theorem ax4(h:StT B X w q ra most t c){d n:Int}{j:Option Addr}{dn k:Nat}:Calls prog 11 #[.pointer q,bN 4 d n j dn k] w (DoR B X w q ra most t c 0 t.length [] []):=by
 have i:=θ (λ(w':World) (l:Below w w w')=>(show ∃p,w'.cell? q=some (.pointer (some ⟨p,0,none⟩))/\Calls prog 24 #[.pointer p] w' λe g=>e= .returned t.length/\w'=g by
  obtain⟨p,m,s,u,r,R,M,h⟩:=h
  exact⟨p,(h.below l).cells.1,lM (h.below l).lv⟩))
 have H:=θ h;clear h;unfold bN;obtain⟨p,f,b⟩:=i.o _ (((aJ6 w w).alloc (aV3 _) (.cells #[.int .i64 4,d,n, .slice j dn k] 34)).alloc Es (.cells #[.int .i64 0, .int .i64 0, .slice none 0 0, .slice none 0 0] 38));have a:=θ b;clear i b;go_in;go_wp2_with fail;refine Cq a.o ?_;clear a f;go_wp2_with fail;exact Dv H.o _ _ _ rfl rfl
theorem ax3(h:StT B X w q ra most t c){k a n:Int}{b:Option Addr}{dn d:Nat}(e:¬(1<=k/\k<=8)):Calls prog 11 #[.pointer q,bN k a n b dn d] w (DoR B X w q ra most t c 1 0 [] []):=by
 have H:=θ h;clear h;unfold bN;have f:(k==1)=false:=by simp;omega
 have g:(k==2)=false:=by simp;omega
 have i:(k==3)=false:=by simp;omega
 have j:(k==4)=false:=by simp;omega
 have l:(k==5)=false:=by simp;omega
 have m:(k==6)=false:=by simp;omega
 have p:(k==7)=false:=by simp;omega
 have r:(k==8)=false:=by simp;omega
 clear e;go_in;go_wp2_with fail;exact Dv H.o _ _ _ rfl rfl
end
section
variable {B:Nat}{X:Nat->Prop}{w w':World}{q p ra:Nat}{most:Int}{t:List Int}{c B' pk pp:Nat}{mv:Int}{R:List Nat}{M:Nat->Bool}
theorem StE.own {a:Nat}{e:TypeId}{v:Value}{n:Nat}{i:List Value}(h:StE B X w q p ra most t c B' pk pp mv R M)(f:LvO a e B' (inX B' X q) w' p pk pp ra mv t R c M v n i)(d:Chg (exT B' (inX B' X q)) w w')(k:w<=a):StE B (λj=>X j\/v.ownBlock=some j) w' q p ra most t c B' pk pp mv R M/\Chg (exT B X) w w'/\∀j,v.ownBlock=some j->w.heap.size<=j:=by
 have g:∀j,v.ownBlock=some j->w.heap.size<=j:=λj e=>by have :=f.own.lt j e;omega
 refine⟨⟨f.lv.mono (λj e=>?_),h.le,d.heap h.q0 (λe=>Cx e rfl),⟨h.qx.1,λe=>e.elim h.qx.2 (λe=>by have :=g q e;have :=h.lt;omega)⟩⟩,d.mono (λj e=>Cv h.le e),g⟩;obtain⟨b,(e | e) | e⟩:=e
 ·exact Ei ⟨b,Ei e⟩
 ·exact Ej e
 ·exact Ei ⟨b,Ej e⟩
theorem qT{a:Option Addr}{n c:Nat}{j:Nat}:bM a j↔(Value.slice a n c).ownBlock=some j:=by
 cases a with
 | none=>exact⟨λh=>(aZ h).elim,λh=>nomatch h⟩
 | some b=>exact⟨λ⟨d,e,f⟩=>by cases e;rw[<-f];rfl,λh=>⟨b,rfl,by have h:some b.block=some j:=h;injection h⟩⟩
def NilOk(e:Ending):Prop:=∀(c n:Value) (k dc:Nat) (p:Value),e= .returned (.agg #[c,n, .slice none k dc,p])->dc=0
theorem xW(h:StT B X w q ra most t c)(m:BitTab w)(W:0<B){k n:Nat}{da:Option Addr}{dn dc:Nat}(I:k+n<=t.length):Calls prog 11 #[.pointer (some ⟨q,0,none⟩),bN 5 k n da dn dc] w (λe w'=>DoR B X w q ra most t c 0 0 ((t.drop k).take n) [] e w'/\NilOk e):=by
 obtain⟨⟨p,B',pk,pp,mv,R,M,G⟩,g,C,v,D⟩:=qR h 5 k n da dn dc;have V:=G.le;have s:StE B (doX X w.heap.size) (doW w 5 k n da dn dc).drew q p ra most t c B' pk pp mv R M:=G.below ⟨rfl,rfl,rfl,aV3 _,λ_ _=>rfl⟩;have O:=θ (Rc s.lv (show BitTab (doW w 5 k n da dn dc)from m.below' v) E I);have P:=θ s;have r:=θ (And.intro G.cells.1 (And.intro (bb8 _ w.heap.size 1 _ _ _ g) (bb8 _ w.heap.size 2 _ _ _ g)));have e0:=bb8 _ w.heap.size 0 _ _ _ g;have F:=θ (And.intro C (And.intro v D));clear h G s g C v D m;unfold bN;go_enter func11,ntmps11;go_wp2_with fail;change Code.wp _ _ _ _ (doW w 5 k n da dn dc);generalize Y:doW w 5 k n da dn dc=w1 at *;refine aG (λw'=>w'.cell? ⟨q,0,none⟩=some (.pointer (some ⟨p,0,none⟩))/\w'.cell? ⟨w.heap.size,1,none⟩=some (.int .i64 k)/\w'.cell? ⟨w.heap.size,2,none⟩=some (.int .i64 n)) Ek (r.o) (λA=>?_);refine rV 0 1 2 3 A ?_;refine rV 4 5 6 7 A ?_;refine rg 8 λκ U=>?_;go_simp;refine O.o.mono ?_;rintro e i ⟨a,H,rfl,K,y⟩;obtain⟨u,f,x⟩:=P.o.own K y (aV3 _);have z:=And.intro u.cells.1 (And.intro (f.cell r.o.2.1 (λe=>e.2 (Ej (Ei rfl)))) (f.cell r.o.2.2 (λe=>e.2 (Ej (Ei rfl)))));have L:=θ (And.intro u (And.intro f x));have N:=θ K;clear u f x K y O;refine U.out _ _ (z) ?_;intro A;try simp only[pt]
 refine rV 9 10 11 12 A ?_;refine rt 13 A ?_;refine rz ?_;obtain⟨u,f,x⟩:=L.o;have d:=f.heap F.o.1 (λe=>e.2 (Ej (Ej rfl)));have f0:=bc4 i _ 0 _ _ d;have f1:=bc4 i _ 1 _ _ d;have f2:=bc4 i _ 2 _ _ d;have f3:=bc4 i _ 3 _ _ d;have g0:=bb8 i _ 0 _ _ _ d;have g1:=bb8 i _ 1 _ _ _ d;have g2:=bb8 i _ 2 _ _ _ d;have g3:=bb8 i _ 3 _ _ _ d;clear u f x d;go_wp2_with fail;obtain⟨u,f,x⟩:=L.o;have J:=N.o.own;exact Ig (pa:=none) (l:=[]) F.o.2.1 F.o.2.2 (show StT B (λj=>doX X w.heap.size j\/bM a j\/bM none j) i q ra most t c from(StT.mono ⟨p,B',pk,pp,mv,R,M,u⟩ (λj e=>e.imp id (λe=>e.elim qT.1 (λe=>(aZ e).elim))))) (aV3 _) (Chg.refl.drew.trans f (λb e=>Ei e)) F.o.1 (cB N.o.own) Reads.nil (λj e=>x j (e.elim qT.1 (λe=>(aZ e).elim))) 0 0 H 0 (by rw[aQ1,aP5];omega) rfl rfl rfl (λw' h=>⟨h,λc n k dc p e=>by
  obtain⟨Z,c',Q,S,_⟩:=aD J
  cases Q
  simp at e
  obtain⟨-,-,⟨T,-,rfl⟩,-⟩:=e
  exact(S T).2⟩)
theorem Np(h:StT B X w q ra most t c){k n:Int}{f:Option Addr}{dn g:Nat}(l:fT t k n=false):Calls prog 11 #[.pointer q,bN 5 k n f dn g] w (DoR B X w q ra most t c 2 0 [] []):=by
 obtain⟨d,b,a,i,m⟩:=qR h 5 k n f dn g;have x:=θ d;obtain⟨p,B',pk,pp,mv,R,M,d⟩:=d;have v:=λu=>Xm (d.below (w':=(doW w 5 k n f dn g).drewN u) ⟨rfl,rfl,rfl,aV3 _,λ_ _=>rfl⟩).lv (at_:=k) (n:=n) (λh=>by rw[fT,bc2 h]at l;cases l);have y:=θ (λu=>(v u).mono (λe w' h=>And.intro h.1 h.2.symm));have A:=bb8 _ w 0 _ _ _ b;have C:=bb8 _ w 1 _ _ _ b;have D:=bb8 _ w 2 _ _ _ b;have O:=d.cells.1;have F:=bc4 _ _ 0 _ _ a;have G:=bc4 _ _ 1 _ _ a;have H:=bc4 _ _ 2 _ _ a;have I:=bc4 _ _ 3 _ _ a;have J:=bb8 _ _ 0 _ _ _ a;have K:=bb8 _ _ 1 _ _ _ a;have L:=bb8 _ _ 2 _ _ _ a;have N:=bb8 _ _ 3 _ _ _ a;have r:=θ (And.intro a (And.intro i m));clear h d b a i m v;unfold bN;go_in;go_wp2_with fail;change Code.wp _ _ _ _ (doW w 5 k n f dn g);generalize z:doW w 5 k n f dn g=w1 at *;go_quiet ((go_at_call 25;exact Calls.quiet_of_same (y.o _)));go_wp2_with fail;have s:Below w1 w1 (w1.drewN nq):=⟨rfl,rfl,rfl,aV3 _,λ_ _=>rfl⟩;exact vG (w2:=w1.drewN nq) r.o.2.1 r.o.2.2 (vnil (x.o.below s)) (aV3 _) (Chg.refl.drewN _) r.o.1 Reads.nil Reads.nil (λj e=>(e.elim aZ aZ).elim) 2 0 0 0 rfl rfl rfl rfl
theorem Wg(h:StT B X w q ra most t c){k n:Int}{g:Option Addr}{l:Nat}{d:List Int}(S:Reads w .u8 g d)(A:g=none->d.length=0/\l=0)(hl:d.length<=1000000)(a0:aS d){f:Nat->Bool}(hf:∀q,q<=t.length->(f q=true↔lO t d q)):Calls prog 11 #[.pointer (some ⟨q,0,none⟩),bN 6 k n g d.length l] w (DoR B X w q ra most t c 0 ((List.range (t.length+1)).countP f) [] []):=by
 obtain⟨⟨p,B',pk,pp,mv,R,M,K⟩,s,T,C,U⟩:=qR h 6 k n g d.length l;have Y:=θ (λ(w':World) (hb:Below (doW w 6 k n g d.length l).heap.size (doW w 6 k n g d.length l) w') (b:Nat) (N:w'.heap[b]? =some (.cells #[.slice g d.length l] 32 (0,0)))=>
  Pi (K.below hb).lv (some ⟨b,0,none⟩) 1 [⟨g,l,d⟩] (λi hi=>⟨b,0,rfl,(aJ2.1 N).1,λj u V=>by
   match j,V with
   | 0,V=>simp[mJ]at V;subst V;exact bb8 w' b 0 _ _ _ N⟩) (λr hr=>by
    simp only[aR9]at hr
    subst hr
    exact⟨(S.below C).below hb,A⟩) (by simp[bC];exact hl) Es (by simpa[bC]using a0))
 have P:bC [⟨g,l,d⟩]=d:=by simp[bC]
 rw[P]at Y;have W:=θ K;have I:=θ (And.intro K.lt (aJ2.1 s).1);have G:=θ (And.intro K.cells.1 (bb8 _ w.heap.size 3 _ _ _ s));have e0:=bb8 _ w.heap.size 0 _ _ _ s;have J:=θ (And.intro T (And.intro C U));clear h K s T C U S A;unfold bN;go_enter func11,ntmps11;go_wp2_with fail;change Code.wp _ _ _ _ (doW w 6 k n g d.length l);generalize a1:doW w 6 k n g d.length l=w1 at *;refine aG (λw'=>w'.cell? ⟨q,0,none⟩=some (.pointer (some ⟨p,0,none⟩))/\w'.cell? ⟨w.heap.size,3,none⟩=some (.slice g d.length l)) Ek (G.o) (λx=>?_);refine rV 0 1 2 3 x ?_;refine rU 4 5 x ?_;refine rg 6 λκ L=>?_;go_simp;refine L.out _ _ (⟨lG I.o.1 x.1,lG I.o.2 x.2⟩) ?_;intro x;try simp only[pt]
 refine rg 7 λκ L=>?_;go_simp;have D:Below w1.heap.size w1 ((w1.alloc (.cells #[.slice g d.length l] 32)).drew):=((aJ6 _ _).alloc (aV3 _) _).drew;refine(Y.o _ D w1.heap.size (bc6 w1 _)).mono ?_;rintro e y ⟨lo,hi,rfl,hN,hL,Q⟩;have z:=Nar.count (yX W.o.lv.byte W.o.lv.rows) hN hf;obtain⟨Z,O⟩:=(W.o.below D).live hL Q;have v:Chg (exT B (doX X w.heap.size)) w1 y:=(Chg.of_below D).trans O (λb e=>Ei e);have m:=And.intro Z.cells.1 (v.cell G.o.2 (λe=>e.2 (Ej (Ei rfl))));have a:=v.heap J.o.1 (λe=>e.2 (Ej (Ej rfl)));have f0:=bc4 y _ 0 _ _ a;have f1:=bc4 y _ 1 _ _ a;have f2:=bc4 y _ 2 _ _ a;have f3:=bc4 y _ 3 _ _ a;have g0:=bb8 y _ 0 _ _ _ a;have g1:=bb8 y _ 1 _ _ _ a;have g2:=bb8 y _ 2 _ _ _ a;have g3:=bb8 y _ 3 _ _ _ a;have H:=θ (And.intro Z (And.intro v z));clear hN hL Q Z O v a z Y;refine L.out _ _ (m) ?_;intro x;try simp only[pt]
 refine rt 8 x ?_;refine rg 9 λκ L=>?_;go_simp;have F:=xT (H.o.2.1.heap J.o.1 (λe=>e.2 (Ej (Ej rfl)))) (.int .i64 0) (.int .i64 (hi-lo:Nat)) (.slice none 0 0) (.slice none 0 0);refine L.out _ _ (⟨F.2.cell m.1 (λe=>H.o.1.qx.2 (Ej (Ej e))),F.2.cell m.2 (λe=>by have e:w.heap.size=w.heap.size+1:=e;omega)⟩) ?_;intro x;try simp only[pt]
 refine rz ?_;clear x F;go_wp2_with fail;rw[H.o.2.2];exact vG J.o.2.1 J.o.2.2 (vnil ⟨p,B',pk,pp,mv,R,M,H.o.1⟩) (aV3 _) H.o.2.1 J.o.1 Reads.nil Reads.nil (λj e=>(e.elim aZ aZ).elim) 0 _ 0 0 rfl rfl rfl rfl
theorem Qk(h:StT B X w q ra most t c){k n:Int}{m:Option Addr}{s:Nat}{d:List Int}(Q:Reads w .u8 m d)(z:m=none->d.length=0/\s=0)(hl:d.length<=1000000)(a0:aS d){f:Nat->Bool}(hf:∀q,q<=t.length->(f q=true↔lO t d q)):Calls prog 11 #[.pointer (some ⟨q,0,none⟩),bN 7 k n m d.length s] w (DoR B X w q ra most t c 0 ((List.range (t.length+1)).countP f) [] (bX ((List.range (t.length+1)).filter f))):=by
 obtain⟨⟨p,B',pk,pp,mv,R,M,G⟩,x,S,C,T⟩:=qR h 7 k n m d.length s;have HC:=θ (λ(w':World) (hb:Below (doW w 7 k n m d.length s).heap.size (doW w 7 k n m d.length s) w') (b:Nat) (K:w'.heap[b]? =some (.cells #[.slice m d.length s] 32 (0,0)))=>
  aj0 (G.below hb).lv G.lv.sm.1 (some ⟨b,0,none⟩) 1 [⟨m,s,d⟩] (λi hi=>⟨b,0,rfl,(aJ2.1 K).1,λj u V=>by
   match j,V with
   | 0,V=>simp[mJ]at V;subst V;exact bb8 w' b 0 _ _ _ K⟩) (λr hr=>by
    simp only[aR9]at hr
    subst hr
    exact⟨(Q.below C).below hb,z⟩) (by simp[bC];exact hl) Es (by simpa[bC]using a0) (f:=f) (λq hq=>by have :bC [⟨m,s,d⟩]=d:=(by simp[bC]);rw[this];exact hf q hq))
 have Y:(bX ((List.range (t.length+1)).filter f)).length=(List.range (t.length+1)).countP f:=by rw[gE];exact List.countP_eq_length_filter.symm
 generalize (List.range (t.length+1)).countP f=N at *;generalize bX ((List.range (t.length+1)).filter f)=F at *;have H1:=θ G;have J:=θ (And.intro G.lt (aJ2.1 x).1);have I:=θ (And.intro G.cells.1 (bb8 _ w.heap.size 3 _ _ _ x));have e0:=bb8 _ w.heap.size 0 _ _ _ x;have U:=θ (And.intro S (And.intro C T));clear h G x S C T Q z;unfold bN;go_enter func11,ntmps11;go_wp2_with fail;change Code.wp _ _ _ _ (doW w 7 k n m d.length s);generalize a1:doW w 7 k n m d.length s=w1 at *;refine aG (λw'=>w'.cell? ⟨q,0,none⟩=some (.pointer (some ⟨p,0,none⟩))/\w'.cell? ⟨w.heap.size,3,none⟩=some (.slice m d.length s)) Ek (I.o) (λy=>?_);refine rV 0 1 2 3 y ?_;refine rU 4 5 y ?_;refine rg 6 λκ Z=>?_;go_simp;refine Z.out _ _ (⟨lG J.o.1 y.1,lG J.o.2 y.2⟩) ?_;intro y;try simp only[pt]
 refine rg 7 λκ Z=>?_;go_simp;have D:Below w1.heap.size w1 ((w1.alloc (.cells #[.slice m d.length s] 32)).drew):=((aJ6 _ _).alloc (aV3 _) _).drew;refine(HC.o _ D w1.heap.size (bc6 w1 _)).mono ?_;rintro e v ⟨a,W,rfl,ho,O⟩;obtain⟨A,L,H⟩:=(H1.o.below D).own ho O (aV3 _);have l:Chg (exT B (doX X w.heap.size)) w1 v:=(Chg.of_below D).trans L (λb e=>Ei e);have P:=And.intro A.cells.1 (l.cell I.o.2 (λe=>e.2 (Ej (Ei rfl))));have HE:=θ (And.intro A (And.intro l H));have HO:=θ ho;clear ho O A L l H HC;refine Z.out _ _ (P) ?_;intro y;try simp only[pt]
 refine rt 8 y ?_;refine rz ?_;clear y;obtain⟨A,l,H⟩:=HE.o;have g:=l.heap U.o.1 (λe=>e.2 (Ej (Ej rfl)));have f0:=bc4 v _ 0 _ _ g;have f1:=bc4 v _ 1 _ _ g;have f2:=bc4 v _ 2 _ _ g;have f3:=bc4 v _ 3 _ _ g;have g0:=bb8 v _ 0 _ _ _ g;have g1:=bb8 v _ 1 _ _ _ g;have g2:=bb8 v _ 2 _ _ _ g;have g3:=bb8 v _ 3 _ _ _ g;clear A l H g;go_wp2_with fail;obtain⟨A,l,H⟩:=HE.o;refine vG (da:=none) (d:=[]) (m1:=0) (m2:=N) U.o.2.1 U.o.2.2 (show StT B (λj=>doX X w.heap.size j\/bM none j\/bM a j) v q ra most t c from(StT.mono ⟨p,B',pk,pp,mv,R,M,A⟩ (λj e=>e.imp id (λe=>e.elim (λe=>(aZ e).elim) qT.1)))) (aV3 _) l U.o.1 Reads.nil (cB HO.o.own) (λj e=>by have :=H j (e.elim (λe=>(aZ e).elim) qT.1);simp at this;omega) 0 _ 0 W rfl Y ?_ ?_<;>rfl
end
section
variable {B:Nat}{X:Nat->Prop}{w w':World}{q p ra:Nat}{most:Int}{t:List Int}{c B' pk pp:Nat}{mv:Int}{R:List Nat}{M:Nat->Bool}
theorem Zv(h:LvT B X w p pk pp ra mv t R c M):Calls prog 66 #[.pointer p] w λe w'=>e= .returned ra/\w=w':=by
 have a:=h.lv.e.cell2;clear h;go_in;go_wp2;go_ret;exact Er
theorem stRate(h:StT B X w q ra most t c):Calls prog 40 #[.pointer q] w λe w'=>e= .returned ra/\w=w':=by
 obtain⟨p,B',pk,pp,mv,R,M,h⟩:=h;have b:=h.cells.1;have a:=θ (Zv h.lv);clear h;go_in;go_wp2_with fail;refine Cq a.o ?_;go_wp2;go_ret;exact Er
theorem RowC.reads {g:Nat}{L:List Nat}{T:TypeId}(h:RowC w g (L.map wsV) T):Reads w .i64 (some (g,0)) (bH L):=λi d=>⟨g,0,rfl,h.lt,λj b=>by
 have a:j<L.length:=by simpa[bH]using b
 rw[aY0];refine h.cell ?_;rw[aO3,aO0 a];simp[bH,a,wsV]⟩
theorem Zs(h:LvT B X w p pk pp ra mv t R c M):Calls prog 44 #[.pointer p] w λe w'=>∃g,e= .returned (.slice (some ⟨g,0,none⟩) (t.length+1) (t.length+1))/\Reads w' .i64 (some (g,0)) (aO (aA t) R)/\LvT B X w' p pk pp ra mv t R c M/\Chg (exT B X) w w':=by
 have H:=θ h;have f:=h.llen;have v:=h.len;have i:=qA (dE h.byte) R;obtain⟨Y,Z,k⟩:=h.lv.e;have x:=k.cells.1;have b:=θ (wkAll k.k E);have r:=θ k;rw[f]at b;clear h k;go_in;go_wp2_with fail;refine b.o.mono ?_;rintro e w' ⟨g,rfl,a,u,m,l⟩;have n:=θ (And.intro a (r.o.stepK (m.mono (λj e=>Ei e)) l));clear a u m l b;go_wp2;go_ret;obtain⟨a,s,d⟩:=n.o;refine⟨g,rfl,?_,H.o.step s,d⟩;rw[i];exact a.reads
theorem af3(h:StT B X w q ra most t c):Calls prog 18 #[.pointer q] w λe w'=>∃g R,e= .returned (.slice (some ⟨g,0,none⟩) (t.length+1) (t.length+1))/\IsRows (aA t) R/\Reads w' .i64 (some (g,0)) (aO (aA t) R)/\StT B X w' q ra most t c/\Chg (exT B X) w w':=by
 obtain⟨p,B',pk,pp,mv,R,M,h⟩:=h;have j:=h.cells.1;have b:=θ (Zs h.lv);have H:=θ h;clear h;go_in;go_wp2_with fail;refine b.o.mono ?_;rintro e w' ⟨g,rfl,i,f,d⟩;have a:=θ (And.intro i (H.o.live f d));clear i f d b;go_wp2;go_ret;exact⟨g,R,rfl,H.o.lv.rows,a.o.1,⟨p,B',pk,pp,mv,R,M,a.o.2.1⟩,a.o.2.2⟩
theorem aC7(h:LvT B X w p pk pp ra mv t R c M):Calls prog 82 #[.pointer p] w (lB w w (prL 0 (plS M R))):=by
 obtain⟨Y,Z,k⟩:=h.lv.e;have i:=k.cells.2.1;have b:=θ (all_e k.q rfl);clear h k;go_in;go_wp2_with fail;refine b.o.mono ?_;rintro e w' ⟨a,c,rfl,f,d⟩;have g:=θ (And.intro f d);clear f d b;go_wp2;go_ret;exact⟨a,c,rfl,g.o⟩
theorem aG6(h:StT B X w q ra most t c):Calls prog 39 #[.pointer q] w λe w'=>∃R M,IsRows (aA t) R/\R.Perm (List.range (t.length+1))/\rO M (t.length+1) ra/\lB w w (prL 0 (plS M R)) e w':=by
 obtain⟨p,B',pk,pp,mv,R,M,h⟩:=h;have k:=h.cells.1;have d:=h.lv.lv.perm;rw[aE]at d;have b:=θ (And.intro h.lv.rows (And.intro d h.lv.sm));have f:=θ (aC7 h.lv);clear h d;go_in;go_wp2_with fail;refine f.o.mono ?_;rintro e w' ⟨a,c,rfl,i,g⟩;have j:=θ (And.intro i g);clear i g f;go_wp2;go_ret;exact⟨R,M,b.o.1,b.o.2.1,b.o.2.2,a,c,rfl,j.o⟩
end
theorem Pz{w:World}{b:Nat}{l:List Int}{T:TypeId}{a:Nat×Nat}(h:w.heap[b]? =some (.cells (l.map (Value.int .u8)).toArray T a)):Reads w .u8 (some (b,0)) l:=by
 intro i f;refine⟨b,0,rfl,(aJ2.1 h).1,λj d=>?_⟩;rw[aY0,bb8 w b j _ _ _ h,aO7,aO3,aO0 d];rfl
def bI(most ra:Nat)(t:List Int)(R:List Nat):List Int:=zA most ra t.length (bR (aO (aA t) R)) (fG R ra (t.length/ra+1))
section
variable {B:Nat}{X:Nat->Prop}{w w':World}{p pk pp ra:Nat}{mv:Int}{t:List Int}{R:List Nat}{c:Nat}{M:Nat->Bool}
variable {b0:Nat}{e:TypeId}{v:Value}{n:Nat}{xs:List Value}
theorem LvO.below (h:LvO b0 e B X w p pk pp ra mv t R c M v n xs)(a:Below w w w'):LvO b0 e B X w' p pk pp ra mv t R c M v n xs:=⟨h.lv.below a,fE h.own a,h.le,h.xl⟩
theorem Ds(h:LvT B X w p pk pp ra mv t R c M){most:Nat}(hm:t.length<=most)(n7:most<=2147483648)(ht:t.length<=900):Calls prog 29 #[.pointer p,most] w λe w'=>∃a i2,e= .returned (.tuple #[.slice a (bI most ra t R).length i2, .int .i64 0])/\w'.ownsRow w 5 1 (.slice a (bI most ra t R).length i2) (bI most ra t R).length ((bI most ra t R).map (Value.int .u8))/\LvT B (λj=>X j\/bM a j) w' p pk pp ra mv t R c M/\Chg (exT B X) w w':=by
 have G:Hid (∀X' w',LvT B X' w' p pk pp ra mv t R c M->Calls prog 24 #[.pointer p] w' λe g5=>e= .returned t.length/\w'=g5):=θ (λX' w' h=>lM h);have I:Hid (∀X' w',LvT B X' w' p pk pp ra mv t R c M->Calls prog 66 #[.pointer p] w' λe g5=>e= .returned ra/\w'=g5):=θ (λX' w' h=>Zv h);have F:=θ (Zs h);have m2:(aO (aA t) R).length=t.length+1:=by rw[fX,h.lv.rlen,aE]
 have h5:Hid (IsLast t (aO (aA t) R)):=θ ⟨h.byte,R,h.rows,rfl⟩;have l9:Hid (bI most ra t R=zA most ra t.length (bR (aO (aA t) R)) (fG R ra (t.length/ra+1))):=θ rfl;have a0:=θ h.rows;have HX:=θ (λj (e:X j)=>h.lv.e.xlt e);have r1:=h.r1;have o5:=h.r64;have m6:=h.le;have H:=θ h;have d1:decide ((most:Int)<(t.length:Int))=false:=bc0 E;have d2:decide (most<t.length)=false:=bc0 E;have d3:decide ((2147483648:Int)<(most:Int))=false:=bc0 E;have d4:decide (2147483648<most)=false:=bc0 E;clear h;generalize hL:aO (aA t) R=L at *;clear hL;go_in;go_wp2_with (go_at_call 24;refine Cq (G.o _ _ H.o) ?_);refine F.o.mono ?_;rintro e w1 ⟨g,rfl,k7,j9,j2⟩;have Y:=Vv (some (g,0)) (t.length+1) w1 k7 h5.o.range E;rw[m2]at Y;have b6:=θ Y;have H1:=θ (And.intro j9 j2);clear k7 j9 j2 Y F;go_wp2_with fail;refine b6.o.mono ?_;rintro e Z ⟨a2,c2,rfl,b1,f0⟩;have o0:=H1.o.2.size;have d5:∀j,(Value.slice a2 (bR L).length c2).ownBlock=some j->w1.heap.size<=j/\j<Z.heap.size:=λj hj=>b1.lt j hj;have f8:LvT B (λj=>X j\/(w1.heap.size<=j/\j<Z.heap.size)) Z p pk pp ra mv t R c M:=H1.o.1.less f0 (λj e=>e);have f5:Chg (exT B X) w Z:=H1.o.2.trans (Chg.of_below (S:=λ_=>False) f0 |>.mono (λj e=>e.elim)) (λb e=>Ei e);have V:a2=none->(bR L).length=0/\c2=0:=λe=>by obtain⟨a,c,e1,e2,_⟩:=aD b1;cases e1;exact e2 e
 have o1:=f5.size;obtain⟨X1,J⟩:∃X1:Nat->Prop,(λj=>X j\/(w1.heap.size<=j/\j<Z.heap.size))=X1:=⟨_,rfl⟩;rw[J]at f8;have l1:∀j,X1 j->j<Z.heap.size:=λj e=>by
  rw[<-J]at e;exact e.elim (λe=>by have :=HX.o j e;omega) (λe=>e.2)
 have l2:∀j,X j->X1 j:=λj e=>by rw[<-J];exact Ei e
 have d7:∀k,(Value.slice a2 (bR L).length c2).ownBlock=some k->¬exT B X1 k:=λk hk hs=>hs.2 (by rw[<-J];exact Ej (d5 k hk));have H2:=θ (And.intro b1 (And.intro f8 (And.intro f5 V)));have a1:=θ (And.intro l1 (And.intro l2 d7));have m1:B<=Z:=E;clear b1 f0 d5 f8 f5 V J l1 l2 d7 b6;generalize (bR L).length=n2 at *;go_wp2;go_loopw [8,9] (λv i wx=>∃k:Nat,k<=t.length/ra+1/\i= .int .i64 (k*ra:Nat)/\LvO Z 5 B X1 wx p pk pp ra mv t R c M v (fG R ra k).length ((fG R ra k).map (Value.int .u8))/\Chg (exT B X1) Z wx) (λ_ i _=>t.length+65-(intOf i).toNat);exact⟨0,aY1 _,by rw[aY2];rfl,LvO.start H2.o.2.1 m1 a1.o.1,Chg.refl⟩;as_aux_lemma=>
  obtain⟨k,hk,rfl,hO,hc⟩:=hrel;have o3:=hc.size;by_cases n6:k<t.length/ra+1
  ·have n5:k*ra<=t.length:=by
    have :=aW4 ra (show k<=t.length/ra by omega);exact aV4 this (Nat.div_mul_le_self _ _)
   have HO:=θ hO;have HC:=θ hc;have b7:=θ (yR hO.lv.lv hO.lv.tx hO.lv.rows (pos:=k*ra) (by rw[aE];omega));have b5:Hid ((k+1)*ra=k*ra+ra):=θ (aX1 k ra);have i0:=θ (rJ R ra k);have l7:Hid ((fG R ra k).length<=20000):=θ (by
    have h1:=sU (R:=R) (by have :=a0.o.len;rw[aE]at this;omega) ra k
    have h2:t.length/ra<=t.length:=Nat.div_le_self _ _
    omega)
   clear hO hc;generalize k*ra=q at *;generalize fG R ra k=y at *;go_wp2_with (go_at_call 24;refine Cq (G.o _ _ HO.o.lv) ?_);refine b7.o.mono ?_;rintro e l ⟨a,rfl,ha,i4,f6⟩;have i5:=HO.o.call (w':=l) ⟨HO.o.lv.byte,HO.o.lv.len,HO.o.lv.rows,i4,HO.o.lv.sm,HO.o.lv.r1,HO.o.lv.r64⟩ f6;have j3:=HC.o.trans (HO.o.chg f6) (λb e=>Ei e);have K:=(aO2.1 ha).1;have k9:=a0.o.len;rw[aE]at k9;have m7:(a:Int)%18446744073709551616=a:=E;have j8:=Ky a0.o.nodup ha;rw[j8]at i0;have D:=θ (lN [a] (by simp;omega) Es l 69);rw[show cK [a]=aK a by simp[cK]]at D;have e6:Hid ((aK a).length<=10/\0<(aK a).length):=θ (by rw[aQ];have :=cD (show a<2^64 by omega);omega);have h6:=θ i5;have g7:=θ j3;clear i5 j3 i4 f6 ha j8 k9 HO HC b7;generalize aK a=z at *;go_wp2_with fail;refine D.o.mono ?_;rintro e w4 ⟨v4,rfl,g0,f1⟩;obtain⟨a4,c4,rfl,k2,_⟩:=aD g0;have i6:=h6.o.below f1;have f7:Chg (exT B X1) Z w4:=g7.o.trans (Chg.of_below (S:=λ_=>False) f1 |>.mono (λj e=>e.elim)) (λb e=>Ei e);have l5:=θ k2;have e8:=θ (dM g0);have m3:=f7.size;have h7:=θ i6;have l4:=θ f7;have n8:=e6.o;have o2:=l7.o;clear i6 f7 g0 f1 k2 D h6 g7;go_wp2_with (at_builtin;refine dT rfl _ _ 32 rfl Z 5 Tryz.infoU8 Tryz.underlying32 rfl _ _ _ rfl h7.o.own a4 z.length c4 (z.map (Value.int .u8)) rfl Es l5.o e8.o.hnews (tR .u8 _) (by unfold maxLen;omega) E m3 ?_);intro a6 c6 m x j6 A;obtain⟨g6,n3,l0,_,j7,_,_,_,_⟩:=cS x E;obtain⟨rfl,-,rfl⟩:=Value.slice.inj l0;obtain⟨i7,j4⟩:=h7.o.push x j6 (A g6 rfl) j7;have H6:=θ (And.intro i7 (l4.o.trans j4 (λb e=>Ei e)));clear x j6 A l0 i7 j4;go_wp2_with (go_at_call 66;refine Cq (I.o _ _ H6.o.1.lv) ?_);refine⟨⟨k+1,E,by first | (rw[b5.o];rfl) | (rw[b5.o];go_num),?_,H6.o.2⟩,by simp[intOf];omega⟩;rw[i0.o,aP3,aQ2];exact H6.o.1
  ·obtain rfl:k=t.length/ra+1:=E;have hq:t.length<(t.length/ra+1)*ra:=by rw[Nat.mul_comm];exact Nat.lt_mul_div_succ _ E
   have n9:(t.length/ra+1)*ra<=100000:=by
    have h1:t.length/ra*ra<=t.length:=Nat.div_mul_le_self _ _;rw[aX1];omega
   have W:(fG R ra (t.length/ra+1)).length<=20000:=by
    have h1:=sU (R:=R) (by have :=a0.o.len;rw[aE]at this;omega) ra (t.length/ra+1);have h2:t.length/ra<=t.length:=Nat.div_le_self _ _;omega
   have b9:=vE R ra (t.length/ra+1);have b8:=vA L;have k1:n2=(bR L).length:=by have :=pK H2.o.1;rw[aP7]at this;exact this.symm
   have V:(bR L).length<=20000:=by
    have h1:(bL (aU L)).length<=(aU L).length*20:=pO (λr hr=>by
     have hi:=fY L
     have h1:=h5.o.range r.1 (by have :=kZ hr (hi.pos r hr);rwa[hi.un]at this)
     have h2:=gX hr
     omega)
    have h2:=fZ L;have h3:=cD (show (aU L).length<2^64 by omega);have h4:(bR L).length=nJ (aU L).length+1+(bL (aU L)).length:=by unfold bR;rw[aP3,aQ]
    omega
   obtain⟨a8,c8,rfl,k5,_⟩:=aD hO.own;have C:=hc.own H2.o.1 a1.o.2.2;subst k1;have HF:=θ (And.intro C (And.intro hO (And.intro hc k5)));have D:=θ (lN [most,ra,t.length] (by simp;omega) Es wr 69);have e6:Hid ((cK [most,ra,t.length]).length<=30):=θ (yV (by simp;omega));have d:=θ (And.intro V (And.intro W (And.intro b8 b9)));clear C hO hc k5 b8 b9 V W;generalize (t.length/ra+1)*ra=q at *;generalize fG R ra (t.length/ra+1)=y at *;have o4:(most:Int)%18446744073709551616=most:=E;have n0:(ra:Int)%18446744073709551616=ra:=E;have o6:(t.length:Int)%18446744073709551616=t.length:=E;go_wp2_with (first | (go_at_call 24;refine Cq (G.o _ _ HF.o.2.1.lv) ?_) | (go_at_call 66;refine Cq (I.o _ _ HF.o.2.1.lv) ?_));refine D.o.mono ?_;rintro e l ⟨v3,rfl,f9,i8⟩;obtain⟨a3,c3,rfl,W,_⟩:=aD f9;have H3:=θ (And.intro f9 (And.intro i8 W));clear f9 i8 W D;have kc:=Lib.run_convert_bytes_const (P:=prog) l 32 5 #[.int .u8 83, .int .u8 75, .int .u8 82, .int .u8 49] 4 4 aZ9 ba2;have k0:Reads (l.alloc (.cells #[.int .u8 83, .int .u8 75, .int .u8 82, .int .u8 49] 5 (4,5))) .u8 (some (l,0)) dU:=Pz (bc6 l _);have f3:=aB l (.cells #[.int .u8 83, .int .u8 75, .int .u8 82, .int .u8 49] 5 (4,5));have f4:Below wr wr (l.alloc (.cells #[.int .u8 83, .int .u8 75, .int .u8 82, .int .u8 49] 5 (4,5))):=H3.o.2.1.trans (f3.mono H3.o.2.1.size);have h8:=θ (Dr a2 c2 _ ((cB HF.o.1).below f4) H2.o.2.2.2 d.o.2.2.1 (by have :=d.o.1;omega));have HM:=θ (And.intro k0 (And.intro f3 f4));clear k0 f3 f4;go_wp2_with fail;generalize l.alloc (.cells #[.int .u8 83, .int .u8 75, .int .u8 82, .int .u8 49] 5 (4,5))=w4 at *;clear kc;refine h8.o.mono ?_;rintro e w5 ⟨v5,rfl,g1,f2⟩;obtain⟨a5,c5,rfl,k3,_⟩:=aD g1;have g4:Below wr wr w5:=HM.o.2.2.trans (f2.mono HM.o.2.2.size);have h9:=θ (Dr a8 c8 w5 ((cB HF.o.2.1.own).below g4) HF.o.2.2.2 d.o.2.2.2 (by have :=d.o.2.1;omega));have H5:=θ (And.intro g1 (And.intro f2 (And.intro k3 g4)));have n1:=θ (fK (bR L));clear g1 f2 k3 g4 h8;go_wp2_with fail;refine h9.o.mono ?_;rintro e m ⟨v6,rfl,g2,b0⟩;obtain⟨a6,c6,rfl,k4,_⟩:=aD g2;have k8:Below wr wr m:=H5.o.2.2.2.trans (b0.mono H5.o.2.2.2.size);have e9:Below w4 w4 m:=H5.o.2.1.trans (b0.mono H5.o.2.1.size);have i3:Below l l m:=HM.o.2.1.trans (e9.mono HM.o.2.1.size);have m4:=cD (show (bR L).length<2^64 by have :=d.o.1;omega);have m5:=cD (show y.length<2^64 by have :=d.o.2.1;omega);have n4:(eH most ra t.length (bR L) y).length<=100000:=by
    unfold eH;rw[aP3,aP3,aP3,fK,fK];have h1:=d.o.1;have h2:=d.o.2.1;have h3:=e6.o;have h4:dU.length=4:=rfl;omega
   have U:=oT (some (m,0)) 4 [⟨some (l,0),4,dU⟩,⟨a3,c3,cK [most,ra,t.length]⟩,⟨a5,c5,bT (bR L)⟩,⟨a6,c6,bT y⟩] (m.alloc (.cells #[.slice l 4 4, .slice a3 (cK [most,ra,t.length]).length c3, .slice a5 (bT (bR L)).length c5, .slice a6 (bT y).length c6] 32))
    (fP (bc6 m _)) (by
     have K:=aB m (.cells #[.slice l 4 4, .slice a3 (cK [most,ra,t.length]).length c3, .slice a5 (bT (bR L)).length c5, .slice a6 (bT y).length c6] 32)
     intro r hr
     simp at hr
     rcases hr with rfl | rfl | rfl | rfl
     ·exact⟨(HM.o.1.below e9).below K,λe=>nomatch e⟩
     ·exact⟨(sB H3.o.1 i3).below K,H3.o.2.2⟩
     ·exact⟨(sB H5.o.1 b0).below K,H5.o.2.2.1⟩
     ·exact⟨(cB g2).below K,k4⟩) (by
     have e:bC [⟨some (l,0),4,dU⟩,⟨a3,c3,cK [most,ra,t.length]⟩,⟨a5,c5,bT (bR L)⟩,⟨a6,c6,bT y⟩]=eH most ra t.length (bR L) y:=by simp[bC,eH]
     rw[e];omega) Es
   rw[show bC [⟨some (l,0),4,dU⟩,⟨a3,c3,cK [most,ra,t.length]⟩,⟨a5,c5,bT (bR L)⟩,⟨a6,c6,bT y⟩]=eH most ra t.length (bR L) y by simp[bC,eH],bb3]at U;have b4:=θ U;have l3:=θ (rY (most:=most) (rate:=ra) (len:=t.length) d.o.2.2.1 d.o.2.2.2);have e7:=θ k8;have l8:Hid (bI most ra t R=eH most ra t.length (bR L) y++bW (cQ (eH most ra t.length (bR L) y))):=θ (by rw[l9.o];rfl);clear g2 b0 k4 k8 e9 i3 m4 m5 U h9;generalize eH most ra t.length (bR L) y=z at *;go_wp2_with fail;refine b4.o.mono ?_;rintro e w7 ⟨v7,rfl,b2,i9⟩;obtain⟨a7,c7,rfl,_,_⟩:=aD b2;have O:Below m m w7:=(aB m _).trans (i9.mono E);have HC:=θ (vX a7 c7 w7 32 (cB b2) l3.o E);have m8:=O.size;have d8:w7.ownsRow m 5 1 (.slice a7 z.length c7) z.length (z.map (Value.int .u8)):=gG b2 E;have H7:=θ (And.intro d8 O);have j5:=lZ z;clear b2 i9 d8 O b4;have HZ:Hid (bI most ra t R=z++bW (cQ z)):=l8;generalize cQ z=s at *;go_wp2_with fail;refine HC.o.mono ?_;rintro e w8 ⟨rfl,j0⟩;have g8:=θ (xH s w8 j5);have H8:=θ j0;clear j0 HC j5;go_wp2_with fail;refine g8.o.mono ?_;rintro e w9 ⟨v9,rfl,g3,j1⟩;obtain⟨a9,c9,rfl,k6,_⟩:=aD g3;have T:Below w7 w7 w9:=H8.o.trans (j1.mono H8.o.size);have d9:=fE H7.o.1 T;have Q:Below m m w9:=H7.o.2.trans (T.mono H7.o.2.size);have l6:=θ k6;have e8:=θ (dM g3);have H9:=θ (And.intro d9 Q);have e0:=Q.size;have h0:=θ (eM s);clear g3 j1 k6 T d9 Q g8;go_wp2_with (at_builtin;refine dT rfl _ _ 32 rfl m 5 Tryz.infoU8 aZ9 rfl _ _ _ rfl H9.o.1 a9 (bW s).length c9 ((bW s).map (Value.int .u8)) rfl Es l6.o e8.o.hnews (tR .u8 _) (by rw[h0.o];unfold maxLen;omega) (by rw[h0.o];omega) e0 ?_);intro i1 m0 b3 f c1 A;have N:Below m m b3:=H9.o.2.grown c1 e0 (λj hj=>(H9.o.1.lt j hj).1);have u:Below wr wr b3:=e7.o.trans (N.mono e7.o.size);have m9:=e7.o.size;have d0:LvT B (λj=>X j\/bM i1 j) b3 p pk pp ra mv t R c M:=HF.o.2.1.lv.less u (λj e=>e.elim (λe=>Ei (Ei (a1.o.2.1 j e))) (λe=>by
    obtain⟨ad,rfl,rfl⟩:=e
    obtain⟨_,_,e1,_,e2⟩:=aD f
    cases e1
    obtain⟨g,e3,e4,e5,_⟩:=e2 _ rfl
    subst e3
    exact Ej ⟨by show _<=g;omega,e5⟩))
   have c0:Chg (exT B X) w b3:=(H2.o.2.2.1.trans (HF.o.2.2.1.mono (S':=exT B X) (λj e=>⟨e.1,λhx=>e.2 (a1.o.2.1 j hx)⟩)) (λb e=>Ei e)).trans (Chg.of_below (S:=λ_=>False) u |>.mono (λj e=>e.elim)) (λb e=>Ei e);have d6:=gG (base':=w.heap.size) f E;have g9:=θ (And.intro d6 (And.intro d0 c0));clear f c1 A N u d0 c0 d6;go_wp2;go_ret2;rw[HZ.o,aP3,aQ2];exact⟨i1,m0,rfl,g9.o⟩
end
structure RdrS (w:World) (q:Nat) (pa:Option Addr) (n pc at_:Nat):Prop where
 h:w.heap[q]? =some (.cells #[.slice pa n pc,at_, .bool false] 125 (0,0))
theorem RdrS.cells {w:World}{q n pc a:Nat}{b:Option Addr}(h:RdrS w q b n pc a):w.cell? q=some (.slice b n pc)/\w.cell? (q,1)=a/\w.cell? (q,2)=some (.bool false)/\∀j,w.frozen? ⟨q,j,none⟩=false:=
 ⟨bb8 w q 0 _ _ _ h.h,bb8 w q 1 _ _ _ h.h,bb8 w q 2 _ _ _ h.h,λj=>bc4 w q j _ _ h.h⟩
theorem RdrS.set {w:World}{q n pc b:Nat}{c:Option Addr}(h:RdrS w q c n pc b)(a:Nat):RdrS (w.setCell (q,1) a) q c n pc a:=⟨by
 have :=bc7 w q 1 _ _ a h.h;exact this⟩
theorem pW{w:World}{q j:Nat}{v:Value}:Chg (λk=>k=q) w (w.setCell (q,j) v):=(Chg.refl (S:=λk=>k=q)).setCell (q,j) (Ei rfl) v
theorem lR{l r:List Int}{q pc a n most:Nat}{g:Option Addr}{w:World}(h:RdrS w q g l.length pc a)(u:Reads w .u8 g l)(s:l.drop a=aK n++r)(K:n<=most)(C:most<=4000000000)(J:l.length<=1000000)(c:l.length<=pc)(d:pc<=9223372036854775807):Calls prog 77 #[.pointer q,most] w λe v=>e= .returned n/\RdrS v q g l.length pc (a+(nJ n+1))/\Chg (λk=>k=q) w v:=by
 have x:=θ (λm=>tQ g pc (w.drewN m) (u.below (aW (aJ6 _ _) m)) s (show n<2^64 by omega) E c d);obtain⟨G,z,H,f⟩:=h.cells;have p:Hid (∀m,(w.drewN m).frozen? (q,1)=false):=θ (λm=>f 1);have j:Hid (∀m,((w.drewN m).setCell (q,1) (.int .i64 ((a+(nJ n+1):Nat):Int))).cell? (q,2)=some (.bool false)):=θ (λm=>((RdrS.set (w:=w.drewN m) ⟨h.h⟩ (a+(nJ n+1))).cells).2.2.1);have i:Hid (∀m,(w.drewN m).cell? (q,1)=a):=θ (λm=>z);have y:Hid (∀m,RdrS ((w.drewN m).setCell (q,1) (.int .i64 ((a+(nJ n+1):Nat):Int))) q g l.length pc (a+(nJ n+1))/\Chg (λk=>k=q) w ((w.drewN m).setCell (q,1) (.int .i64 ((a+(nJ n+1):Nat):Int)))):=θ (λm=>⟨RdrS.set (w:=w.drewN m) ⟨h.h⟩ _,(Chg.of_below (S:=λk=>k=q) (aW (aJ6 _ _) m)).trans pW (λb e=>Ei e)⟩);have t:(most:Int)%18446744073709551616=most:=E;have F:¬((most:Int)<(n:Int)):=E;have D:n<=4000000000:=E;clear h u s f c;generalize a+(nJ n+1)=a2 at *;generalize l.length=m at *;go_in;go_wp2;go_quiet ((go_at_call 135;exact Calls.quiet_of_same (x.o _)));have I:=p.o;have A:=i.o;have B:=j.o;go_wp2;go_ret;exact⟨rfl,y.o nq⟩
theorem Dm{l x r:List Int}{q pc a b g:Nat}{w:World}(h:RdrS w q (some (b,g)) l.length pc a)(O:Reads w .u8 (some (b,g)) l)(N:b≠q)(H:l.drop a=bT x++r)(hk:l.length<=1000000)(P:l.length<=pc)(G:pc<=9223372036854775807):Calls prog 78 #[.pointer q] w λe R=>∃o c,e= .returned (.slice (some ⟨b,o,none⟩) x.length c)/\Reads R .u8 (some (b,o)) x/\x.length<=c/\c<=9223372036854775807/\RdrS R q (some (b,g)) l.length pc (a+(bT x).length)/\Chg (λk=>k=q) w R:=by
 have M:a+(nJ x.length+1+x.length+4)<=l.length:=by
  have :=bb9 List.length H;rw[aP5,aP3,fK]at this;omega
 have v:=lR (n:=x.length) (most:=l.length) (r:=x++bW (cQ x)++r) h O (by rw[H];simp[bT]) E E hk P G;have y:∀i,i<x.length->l[a+(nJ x.length+1)+i]? =x[i]? :=λi X=>by
  have e:l.drop a=aK x.length++(x++(bW (cQ x)++r)):=by rw[H];simp[bT]
  have T:(l.drop a)[nJ x.length+1+i]? =x[i]? :=by
   rw[e,aN7 (by rw[aQ];omega),aQ,aU6,aN6 X]
  rw[aN9]at T;rw[aU3];exact T
 have F:Hid (∀W,Chg (λk=>k=q) w W->Reads W .u8 (some (b,g+(a+(nJ x.length+1)))) x):=θ (λW U i X=>by
  obtain⟨b',Z,e,hb,hc⟩:=O i E
  cases e
  refine⟨b,_,rfl,aV7 hb U.size,λj hj=>?_⟩
  have :=hc (a+(nJ x.length+1)+j) E
  rw[y j hj]at this
  rw[aU3]
  exact U.cell this N)
 have I:=θ v;obtain⟨c0,c1,c2,f⟩:=h.cells;have J:=θ (fK x);clear v O H y h;generalize l.length=m at *;obtain⟨s,Y⟩:=Ey (a+(nJ x.length+1));have V:s+x.length+4<=m:=E;have K:Hid (a+(bT x).length=s+(x.length+4)):=θ (by rw[J.o];omega);rw[Y]at I F;clear Y M;go_in;go_wp2_with fail;refine I.o.mono ?_;rintro e B ⟨rfl,p,z⟩;obtain⟨k0,k1,k2,kf⟩:=p.cells;have C:=θ (And.intro p z);have a1:s+(x.length+4)<=m:=E;have L:Hid (∀d,RdrS ((B.drewN d).setCell (q,1) (.int .i64 ((s+(x.length+4):Nat):Int))) q (some (b,g)) m pc (s+(x.length+4))/\Chg (λk=>k=q) w ((B.drewN d).setCell (q,1) (.int .i64 ((s+(x.length+4):Nat):Int)))):=θ (λd=>⟨RdrS.set (w:=B.drewN d) ⟨p.h⟩ _,(z.trans (Chg.of_below (S:=λk=>k=q) (aW (aJ6 _ _) d)) (λb e=>Ei e)).trans pW (λb e=>Ei e)⟩);have a0:¬((m:Int)-(s:Int)-4<(x.length:Int)):=E;clear p z kf I c0 c1 c2 f;go_wp2;go_quiet (fail);have e1:∀d,(B.drewN d).cell? (q,1)=s:=λd=>C.o.1.cells.2.1;have e2:∀d,(B.drewN d).frozen? (q,1)=false:=λd=>C.o.1.cells.2.2.2 1;go_wp2_with fail;have t:=L.o nq;rw[show ((s+(x.length+4):Nat):Int)=(s:Int)+((x.length:Int)+4) by omega]at t;generalize (B.drewN nq).setCell (q,1) ((s:Int)+((x.length:Int)+4):Int)=w2 at *;have D:=θ t;obtain⟨a2,Q,a3,-⟩:=t.1.cells;rw[show ((s+(x.length+4):Nat):Int)=(s:Int)+((x.length:Int)+4) by omega]at Q;clear t e1 e2 k0 k1 k2;go_quiet (fail);rw[show s+(x.length+4)-x.length-4=s by omega,show s+(x.length+4)-4-s=x.length by omega];have A:Chg (λk=>k=q) w (w2.drewN nq):=D.o.2.trans (Chg.of_below (S:=λk=>k=q) (aW (aJ6 _ _) nq)) (λb e=>Ei e);have u:=θ (And.intro (F.o _ A) (And.intro (show RdrS (w2.drewN nq) q (some (b,g)) m pc (s+(x.length+4))from⟨D.o.1.h⟩) A));clear A;go_wp2;go_ret;rw[K.o];exact⟨g+s,pc-s,rfl,u.o.1,E,E,u.o.2⟩
theorem Qa{w:World}{a:Option Addr}{k:IntKind}{x y:List Int}(h:Reads w k a (x++y)):Reads w k a x:=by
 intro i l;obtain⟨b,c,e,d,f⟩:=h i (by rw[aP3];omega);refine⟨b,c,e,d,λj g=>?_⟩;have :=f j (by rw[aP3];omega);rwa[aN6 g]at this
theorem Ol{a b:Nat}{t:List Int}{R:List Nat}(c:IsRows (aA t) R)(x:t.length<=a)(m:a<=10000)(y:t.length<=900)(z:1<=b)(n:b<=64)(d:aS t):(bI a b t R).length<=100000:=by
 have e:IsLast t (aO (aA t) R):=⟨d,R,c,rfl⟩;have l:(aO (aA t) R).length=t.length+1:=by rw[fX,c.len,aE]
 have g:=c.len;rw[aE]at g;unfold bI;generalize aO (aA t) R=L at *;have i:(bL (aU L)).length<=(aU L).length*20:=pO (λr f=>by
  have h:=fY L
  have i:=e.range r.1 (by have :=kZ f (h.pos r f);rwa[h.un]at this)
  have k:=gX f
  omega)
 have k:=fZ L;have o:=cD (show (aU L).length<2^64 by omega);have p:(bR L).length=nJ (aU L).length+1+(bL (aU L)).length:=by unfold bR;rw[aP3,aQ]
 have q:=sU (R:=R) E b (t.length/b+1);have s:t.length/b<=t.length:=Nat.div_le_self _ _;have u:(cK [a,b,t.length]).length<=30:=yV (by simp;omega);have v:=cD (show (bR L).length<2^64 by omega);have w:=cD (show (fG R b (t.length/b+1)).length<2^64 by omega);have j:dU.length=4:=rfl;unfold zA eH;rw[aP3,aP3,aP3,aP3,eM,fK,fK];omega
theorem Cc{w:World}{a:Option Addr}{l:List Int}(h:Reads w .u8 a l):Lib.BytesIn w a l.length l:=λd=>by
 obtain⟨b,c,e,_,f⟩:=h.some d;exact⟨b,c,e,λi g=>by rw[f i g,aN4]⟩
theorem set3{w:World}{b:Nat}{f g i:Value}{e:TypeId}(h:w.heap[b]? =some (.cells #[f,g,i] e (0,0)))(a c d:Value):(((w.setCell b a).setCell (b,1) c).setCell (b,2) d).heap[b]? =some (.cells #[a,c,d] e (0,0))/\Chg (λj=>j=b) w (((w.setCell b a).setCell (b,1) c).setCell (b,2) d):=
 ⟨bD (bD (bD h 0 a) 1 c) 2 d,(((Chg.refl (S:=λj=>j=b) (w:=w)).setCell b (Ei rfl) a).setCell (b,1) (Ei rfl) c).setCell (b,2) (Ei rfl) d⟩
theorem Wf{w:World}{b p:Nat}{e f g:Value}{a:Act}{c:Ending->World->Prop}(k:a.tmps[2]?.getD undef= .pointer p)(l:a.tmps[3]?.getD undef= .pointer b)(m:a.tmps[4]?.getD undef= .int .i64 0)(o:a.defers=[])(d:w.heap[b]? =some (.cells #[e,f,g] 77 (0,0)))(n:c (.returned (.tuple #[.pointer p, .agg #[e,f,g], .int .i64 0])) w):bodyPost prog Tryz.f37 c .ret a w:=by
 have h:=bb8 w b 0 _ _ _ d;have i:=bb8 w b 1 _ _ _ d;have j:=bb8 w b 2 _ _ _ d;show a.defers=[]/\∃v,(results Tryz.f37 a.tmps).run prog w= .ok v w/\c (.returned v) w;refine⟨o,_,?_,n⟩;simp[results,Tryz.f37,go_sem,k,l,m,h,i,j]
theorem We{b d pc a c:Nat}{t:List Int}{R:List Nat}{w:World}(hp:Reads w .u8 (some (b,d)) (bI a c t R))(d5:aS t)(hR:IsRows (aA t) R)(hm:t.length<=a)(k1:a<=10000)(ht:t.length<=900)(r1:1<=c)(e9:c<=64)(k3:(bI a c t R).length<=pc)(v:pc<=9223372036854775807):Calls prog 37 #[.slice (b,d) (bI a c t R).length pc] w λe G=>∃B p pk pp R' M,e= .returned (.tuple #[.pointer (some ⟨p,0,none⟩), .agg #[a,c,t.length], .int .i64 0])/\LvT B (λ_=>False) G p pk pp c 0 t R' (t.length+1) M/\w.heap.size<=B/\Below w w G:=by
 have hS:bI a c t R=eH a c t.length (bR (aO (aA t) R)) (fG R c (t.length/c+1))++bW (cQ (eH a c t.length (bR (aO (aA t) R)) (fG R c (t.length/c+1)))):=rfl;have h0:(aO (aA t) R).length=t.length+1:=by rw[fX,hR.len,aE]
 have g9:IsLast t (aO (aA t) R):=⟨d5,R,hR,rfl⟩;have l9:=aG2 R c (t.length/c+1);have b5:=vA (aO (aA t) R);have a0:=vE R c (t.length/c+1);have j2:Hid (∀R',IsRows (aA t) R'->bI a c t R'=bI a c t R):=θ (λR' h=>by rw[gI h hR]);generalize aO (aA t) R=L at *;generalize fG R c (t.length/c+1)=y at *;obtain⟨x,hx⟩:∃x,bR L=x:=⟨_,rfl⟩;rw[hx]at hS b5;have HX:=θ hx;have d4:=rY (most:=a) (rate:=c) (len:=t.length) b5 a0;have a5:(eH a c t.length x y).drop 4=aK a++(aK c++(aK t.length++(bT x++bT y))):=by
  have e:eH a c t.length x y=dU++(aK a++(aK c++(aK t.length++(bT x++bT y)))):=by simp[eH,cK]
  rw[e];exact List.drop_left (l₁:=dU)
 have e7:(bI a c t R).length=(eH a c t.length x y).length+4:=by rw[hS,aP3,eM]
 obtain⟨D,hD⟩:∃D,eH a c t.length x y=D:=⟨_,rfl⟩;rw[hD]at hS d4 a5 e7;have j7:4+(nJ a+1)+(nJ c+1)+(nJ t.length+1)+(bT x).length+(bT y).length=D.length:=by
  have :=bb9 List.length a5;simp only[aP5,aP3,aQ]at this;have Y:=fK x;omega
 have k7:=fK x;have i5:=fK y;have j6:(bI a c t R).length<=100000:=Ol hR hm k1 ht r1 e9 d5;have l2:4<=D.length:=E;have g8:(bI a c t R).drop D.length=bW (cQ D):=by rw[hS];exact List.drop_left
 have d1:=θ (λW (C:Below w w W)=>aa7 (some (b,d)) pc W (hp.below C) g8 (lZ D) E);have A:Hid (∀W,Below w w W->Reads W .u8 (some (b,d)) D):=θ (λW C=>Qa (y:=bW (cQ D)) (by rw[<-hS];exact hp.below C));have i7:Hid (b<w):=θ (by obtain⟨b',l0,e,h,_⟩:=hp 0 (E);cases e;exact h);have d9:D.drop (4+(nJ a+1))=aK c++(aK t.length++(bT x++bT y)):=by rw[<-List.drop_drop,a5,<-aQ,List.drop_left]
 have e0:D.drop (4+(nJ a+1)+(nJ c+1))=aK t.length++(bT x++bT y):=by rw[<-List.drop_drop,d9,<-aQ,List.drop_left]
 have e1:D.drop (4+(nJ a+1)+(nJ c+1)+(nJ t.length+1))=bT x++bT y:=by rw[<-List.drop_drop,e0,<-aQ,List.drop_left]
 have g7:D.drop (4+(nJ a+1)+(nJ c+1)+(nJ t.length+1)+(bT x).length)=bT y++[]:=by rw[<-List.drop_drop,e1,List.drop_left,aL2]
 have H:=θ (And.intro a5 (And.intro d9 (And.intro e0 (And.intro e1 g7))));have i8:=θ d4;have HS:=θ hS;have b1:=θ g9;have i9:=θ (And.intro b5 a0);have HP:=θ hp;have l1:=lZ D;have HD:=θ hD;rw[e7]at k3 j6 d1⊢;clear hp g8 a5 d9 e0 e1 g7 d4 hS g9 b5 a0 hx hD j7 e7;have Q:=θ (aB w (.cells #[.int .i64 0, .int .i64 0, .int .i64 0] 77));have f5:=θ (bc6 w (.cells #[.int .i64 0, .int .i64 0, .int .i64 0] 77));have f4:=θ (λW (C:Below w w W)=>vX (some (b,d)) pc W 32 (A.o W C) i8.o E);have f6:Hid ((w.alloc (.cells #[.int .i64 0, .int .i64 0, .int .i64 0] 77)).heap.size=w.heap.size+1):=θ (bb3 _ _);have T:=θ (λW q (h:RdrS W q (some (b,d)) D.length pc 4) (C:Below w w W)=>by
  have Y:=lR (most:=2147483648) h (A.o W C) H.o.1 E E E E v
  rw[show ((2147483648:Nat):Int)=2147483648 by omega]at Y
  exact Y)
 have U:=θ (λW q (h:RdrS W q (some (b,d)) D.length pc (4+(nJ a+1))) (C:Below w w W)=>by
  have Y:=lR (most:=64) h (A.o W C) H.o.2.1 e9 E E E v
  rw[show ((64:Nat):Int)=64 by omega]at Y
  exact Y)
 have V:=θ (λW q (h:RdrS W q (some (b,d)) D.length pc (4+(nJ a+1)+(nJ c+1))) (C:Below w w W)=>by
  have Y:=lR (most:=2147483648) h (A.o W C) H.o.2.2.1 E E E E v
  rw[show ((2147483648:Nat):Int)=2147483648 by omega]at Y
  exact Y)
 have b9:=θ (λW q (h:RdrS W q (some (b,d)) D.length pc (4+(nJ a+1)+(nJ c+1)+(nJ t.length+1))) (C:Below w w W) (K:b≠q)=>Dm h (A.o W C) K H.o.2.2.2.1 E E v);have c0:=θ (λW q (h:RdrS W q (some (b,d)) D.length pc (4+(nJ a+1)+(nJ c+1)+(nJ t.length+1)+(bT x).length)) (C:Below w w W) (K:b≠q)=>Dm h (A.o W C) K H.o.2.2.2.2 E E v);generalize hn:D.length=n at *;have HN:=θ hn;clear hn;go_enter func37,ntmps37;go_wp2_with fail;refine(d1.o _ Q.o).mono ?_;rintro e w1 ⟨rfl,rfl⟩;have f3:=θ (f4.o _ Q.o);generalize cQ D=z at *;generalize w.alloc (.cells #[.int .i64 0, .int .i64 0, .int .i64 0] 77)=w1 at *;go_wp2_with fail;refine f3.o.mono ?_;rintro e w2 ⟨rfl,b3⟩;have g1:=Q.o.trans (b3.mono Q.o.size);have k9:=b3.size;have l6:=Q.o.size;have i1:RdrS (w2.alloc (.cells #[.slice (b,d) n pc, .int .i64 4, .bool false] 125)) w2 (some (b,d)) n pc 4:=⟨bc6 w2 _⟩;have g2:Below w w (w2.alloc (.cells #[.slice (b,d) n pc, .int .i64 4, .bool false] 125)):=g1.alloc g1.size _;have h4:(w2.alloc (.cells #[.slice (b,d) n pc, .int .i64 4, .bool false] 125)).heap[w.heap.size]? =some (.cells #[.int .i64 0, .int .i64 0, .int .i64 0] 77 (0,0)):=
  aT ((aB w2 _)) ((b3.block _ (by have :=f6.o;omega)).trans f5.o)
 have H2:=θ (And.intro i1 (And.intro g2 h4));clear i1 g2 h4 b3 f3 f4 d1 f5;go_wp2_with fail;clear k7 i5;generalize 4+(nJ a+1)=a1 at *;generalize a1+(nJ c+1)=a2 at *;generalize a2+(nJ t.length+1)=a3 at *;generalize w2.alloc (.cells #[.slice (b,d) n pc, .int .i64 4, .bool false] 125)=w3 at *;have HQ:Hid (w<w2.heap.size):=θ (by have :=f6.o;omega);generalize w2.heap.size=q at *;refine(T.o _ _ H2.o.1 H2.o.2.1).mono ?_;rintro e w4 ⟨rfl,h6,d6⟩;have g3:Below w w w4:=H2.o.2.1.trans (d6.below (λb K=>by rw[K];exact Nat.le_of_lt HQ.o) H2.o.2.1.size);have H4:=θ (And.intro h6 (And.intro g3 (d6.heap H2.o.2.2 (Nat.ne_of_lt HQ.o))));clear h6 d6 g3 T;go_wp2_with fail;refine(U.o _ _ H4.o.1 H4.o.2.1).mono ?_;rintro e w5 ⟨rfl,h7,d7⟩;have g4:Below w w w5:=H4.o.2.1.trans (d7.below (λb K=>by rw[K];exact Nat.le_of_lt HQ.o) H4.o.2.1.size);have H5:=θ (And.intro h7 (And.intro g4 (d7.heap H4.o.2.2 (Nat.ne_of_lt HQ.o))));clear h7 d7 g4 U;go_wp2_with fail;refine(V.o _ _ H5.o.1 H5.o.2.1).mono ?_;rintro e w6 ⟨rfl,e5,d8⟩;have d3:Below w w w6:=H5.o.2.1.trans (d8.below (λb K=>by rw[K];exact Nat.le_of_lt HQ.o) H5.o.2.1.size);have l4:q<w6:=(aJ2.1 e5.h).1;have Z:=aB w6 (.cells #[a,c,t.length] 77);have H6:Hid (RdrS (w6.alloc (.cells #[a,c,t.length] 77)) q (some (b,d)) n pc a3/\Below w w (w6.alloc (.cells #[a,c,t.length] 77))/\(w6.alloc (.cells #[a,c,t.length] 77)).heap[w.heap.size]? =some (.cells #[.int .i64 0, .int .i64 0, .int .i64 0] 77 (0,0))/\(w6.alloc (.cells #[a,c,t.length] 77)).heap[w6.heap.size]? =some (.cells #[a,c,t.length] 77 (0,0))):=
  θ ⟨⟨aT Z e5.h⟩,d3.alloc d3.size _,aT Z (d8.heap H5.o.2.2 (Nat.ne_of_lt HQ.o)),bc6 w6 _⟩
 clear e5 d8 d3 Z V;go_wp2_with fail;generalize w6.alloc (.cells #[a,c,t.length] 77)=w6' at *;generalize w6.heap.size=q9 at *;have g:Hid (b≠q/\q9≠q/\w.heap.size≠q/\w<=q):=θ (by have :=HQ.o;have :=i7.o;omega);refine(b9.o _ _ H6.o.1 H6.o.2.1 g.o.1).mono ?_;rintro e w7 ⟨o1,c1,rfl,i3,k5,k6,h8,b6⟩;have g5:Below w w w7:=H6.o.2.1.trans (b6.below (λb K=>by rw[K];exact g.o.2.2.2) H6.o.2.1.size);have H7:=θ (And.intro h8 (And.intro g5 (And.intro (b6.heap H6.o.2.2.1 g.o.2.2.1) (b6.heap H6.o.2.2.2 g.o.2.1))));have f8:=θ i3;clear h8 b6 g5 i3 b9;go_wp2_with fail;refine(c0.o _ _ H7.o.1 H7.o.2.1 g.o.1).mono ?_;rintro e w8 ⟨o2,c2,rfl,k8,l7,l8,e6,N⟩;have g6:Below w w w8:=H7.o.2.1.trans (N.below (λb K=>by rw[K];exact g.o.2.2.2) H7.o.2.1.size);have H8:=θ (And.intro e6 (And.intro g6 (And.intro (N.heap H7.o.2.2.1 g.o.2.2.1) (N.heap H7.o.2.2.2 g.o.2.1))));have f9:Hid (Reads w8 .u8 (some (b,o1)) x):=θ (λi hi=>by
  obtain⟨b',o',e,h1,Y⟩:=f8.o i hi
  cases e
  exact⟨b,_,rfl,aV7 h1 N.size,λj hj=>N.cell (Y j hj) g.o.1⟩)
 have k2:=e6.cells.2.2.1;have m0:=bb8 w8 q9 0 _ _ _ H8.o.2.2.2;have m1:=bb8 w8 q9 1 _ _ _ H8.o.2.2.2;have m2:=bb8 w8 q9 2 _ _ _ H8.o.2.2.2;clear e6 N g6 k8 c0 f8;have i0:¬((c:Int)<1):=E;have k0:¬((a:Int)<(t.length:Int)):=E;have j8:(t.length:Int).tdiv (c:Int)=((t.length/c:Nat):Int):=by rw[aK2,aK3 E]
 have j9:¬((y.length:Int)<=((t.length/c:Nat):Int)):=E;have h9:((c:Int)==0)=false:=by rw[bb6];omega
 generalize t.length/c=dv at *;go_wp2_with fail;have a6:=Vt (l:=L) (most:=t.length+1) (some (b,o1)) c1 w8 (by rw[HX.o];exact f9.o) b1.o.range E E E (by rw[HX.o];exact k5) k6;rw[HX.o,h0,show ((t.length+1:Nat):Int)=(t.length:Int)+1 by omega]at a6;refine a6.mono ?_;clear a6 m0 m1 m2 k2 i0 k0 j8 j9 h9;rintro e w9 ⟨a9,c9,rfl,h3,b4⟩;have l5:=(aJ2.1 H8.o.2.2.2).1;have l3:=(aJ2.1 H8.o.2.2.1).1;have H9:=θ (And.intro (H8.o.2.1.trans (b4.mono H8.o.2.1.size)) (And.intro (aT b4 H8.o.2.2.1) (aT b4 H8.o.2.2.2)));have d0:=θ (aj8 a9 c9 L w9 (cB h3) E);rw[h0]at d0;clear h3 b4 f9;go_wp2_with fail;refine d0.o.mono ?_;rintro e O ⟨m3,ok,rfl,s,c8,c6⟩;cases ok with
 | false=>exact absurd b1.o ((c6 rfl).2 t)
 | true=>
  obtain⟨-,F⟩:=c8 rfl;rw[<-b1.o.text]at F;obtain⟨I,J,rfl,a8,_⟩:=aD F;have d2:=H9.o.1.trans (s.mono H9.o.1.size);have b2:=aB O (.cells #[.slice I t.length J] 32);have m:=θ (And.intro (d2.alloc d2.size (.cells #[.slice I t.length J] 32)) (And.intro (aT b2 (aT s H9.o.2.1)) (aT b2 (aT s H9.o.2.2))));have m1:=bb8 O q9 1 _ _ _ (aT s H9.o.2.2);have b0:=Hj r1 e9 (some (O,0)) 1 [⟨I,J,t⟩] (O.alloc (.cells #[.slice I t.length J] 32)) (fP (bc6 O _)) (by
   intro r hr
   rw[aR9.1 hr]
   exact⟨(cB F).below b2,a8⟩) (by simp[bC];omega) Es (by simp[bC];exact d5)
  rw[show bC [⟨I,J,t⟩]=t by simp[bC]]at b0;have b8:=θ b0;clear b0 b2 d2 F s a8 c8 c6 d0;go_wp2_with fail;refine b8.o.mono ?_;rintro e i6 ⟨p,pk,pp,R',rfl,hL,u⟩;generalize O.alloc (.cells #[.slice I t.length J] 32)=wA at *;have g0:=m.o.1.trans (u.mono m.o.1.size);have e8:=Ds hL (most:=a) hm E ht;rw[j2.o R' hL.rows]at e8;have f7:=θ e8;have j1:=θ (bb9 List.length HS.o);have m0:=bb8 i6 q9 0 _ _ _ (aT u m.o.2.2);have k4:=(aJ2.1 m.o.2.2).1;have h5:=(aJ2.1 m.o.2.1).1;have P:=θ (And.intro g0 (And.intro (aT u m.o.2.1) (And.intro (aT u m.o.2.2) hL)));clear g0 e8 hL u b8;go_wp2_with fail;refine f7.o.mono ?_;rintro e b7 ⟨j3,j4,rfl,c7,a7,a4⟩;obtain⟨B',j5⟩:∃B',wA.heap.size=B':=⟨_,rfl⟩;rw[j5]at a7 a4 k4 h5;have k:Chg (λj=>B'<=j) i6 b7:=a4.mono (λj e=>e.1);have X:Below w w b7:=P.o.1.trans (k.below (λj e=>E) P.o.1.size);have i2:=k.heap P.o.2.1 (show ¬B'<=w.heap.size by omega);have i4:=k.heap P.o.2.2.1 (show ¬B'<=q9 by omega);have c3:Reads b7 .u8 (some (b,d)) (bI a c t R):=HP.o.below X;have e4:(bI a c t R).length=n+4:=by rw[j1.o,aP3,eM,HN.o]
  have e3:=Tryz.bytes_Equal_all j3 (some (b,d)) (bI a c t R).length j4 (n+4) pc (bI a c t R) (bI a c t R) b7 rfl e4 (Cc (cB c7)) (by rw[<-e4];exact Cc c3);rw[beq_self_eq_true]at e3;have j0:=θ e3;have f:=θ (And.intro a7 (And.intro X (And.intro i2 i4)));clear e3 a7 X i2 i4 c3 e4 c7 a4 k f7 m0 HP HX HS HD H b1 m P H2 H4 H5 H6 H7 H8 H9 A i9;generalize (bI a c t R).length=ns at *;go_wp2_with fail;refine j0.o.mono ?_;rintro e G ⟨rfl,rfl⟩;go_wp2_with fail;clear m1;have q0:=bb8 G w 0 _ _ _ f.o.2.2.1;have q1:=bb8 G w 1 _ _ _ f.o.2.2.1;have q2:=bb8 G w 2 _ _ _ f.o.2.2.1;have f0:=bc4 G w 0 _ _ f.o.2.2.1;have f1:=bc4 G w 1 _ _ f.o.2.2.1;have f2:=bc4 G w 2 _ _ f.o.2.2.1;have m0:=bb8 G q9 0 _ _ _ f.o.2.2.2;have m1:=bb8 G q9 1 _ _ _ f.o.2.2.2;have m2:=bb8 G q9 2 _ _ _ f.o.2.2.2;go_region;obtain⟨s0,s1⟩:=set3 f.o.2.2.1 a (.int .i64 c) (.int .i64 t.length);have hs:=s1.size;have c4:Below w w (((G.setCell w a).setCell (w,1) c).setCell (w,2) t.length):=f.o.2.1.trans (s1.below (λj e=>by rw[e];exact aV3 _) f.o.2.1.size);have c5:=(f.o.1.aside s1 (λj e _ e2=>by have :=e.1;omega)).mono (X':=λ_=>False) (λj e=>e.elim);generalize ((G.setCell w a).setCell (w,1) c).setCell (w,2) t.length=w13 at *;have S:Hid (w13.drew.heap[w.heap.size]? =some (.cells #[a,c,t.length] 77 (0,0))/\LvT B' (λ_=>False) w13.drew p pk pp c 0 t R' (t.length+1) (λq=>decide (q%c=0))/\Below w w w13.drew):=θ ⟨s0,c5.below ((aJ6 _ _).drew),c4.drew⟩;clear s0 s1 hs c4 c5 q0 q1 q2 f0 f1 f2 m0 m1 m2;go_wp2_with fail;exact Wf rfl rfl rfl rfl S.o.1 ⟨B',p,pk,pp,R',_,rfl,S.o.2.1,Nat.le_of_lt h5,S.o.2.2⟩
theorem Fy{l:List Int}{a b:Nat}(h:sufLt l a b):gS l a b=true:=fR.2 h
theorem Bm{l:List Int}{a b:Nat}(h:¬sufLt l a b):gS l a b=false:=by rw[<-aJ9];exactλe=>h (fR.1 e)
theorem Mr(s:ByteArray)(a b:Nat)(w:World)(Y:a<=s.size)(Z:b<=s.size)(hs:s.size<=1000000):Calls prog 71 #[.string s,a,b] w λe V=>e= .returned (.bool (gS (aA (bY s)) a b))/\∃n,V=w.drewN n:=by
 go_in;go_wp2;go_loopw [1,2] (λK U wr=>∃d:Nat,a+d<=s.size/\b+d<=s.size/\K= .int .i64 (a+d:Nat)/\U= .int .i64 (b+d:Nat)/\eqK (aA (bY s)) d a b/\∃n,wr=w.drewN n) (λK _ _=>s.size-(intOf K).toNat);exact⟨0,E,E,rfl,rfl,λx u=>E,0,rfl⟩;case round=>
  obtain⟨d,j,f,rfl,rfl,g,nd,rfl⟩:=hrel;have c:=af5 g;by_cases H:a+d<s.size/\b+d<s.size
  ·obtain⟨P,Q⟩:=H;have i:=sX P;have O:=sX Q;have l:Hid (sufLt (aA (bY s)) a b↔sy (aA (bY s)) (a+d)<sy (aA (bY s)) (b+d)\/(sy (aA (bY s)) (a+d)=sy (aA (bY s)) (b+d)/\sufLt (aA (bY s)) (a+d+1) (b+d+1))):=c.trans jC;have G:=θ g;have D:=θ i;have F:=θ O;clear c g i O;obtain⟨x,u⟩:=Ey (a+d);obtain⟨y,C⟩:=Ey (b+d);rw[u]at P;rw[C]at Q;rw[u,C];have L:=θ u;have M:=θ C;clear u C;have i0:(0:Int)<=(x:Int):=E;have i1:(x:Int)<(s.size:Int):=E;have j0:(0:Int)<=(y:Int):=E;have j1:(y:Int)<(s.size:Int):=E;have m:sy (aA (bY s)) (a+d)=(s[x].toNat:Int)+1:=by
    have j:=D.o;have f:=L.o;subst f;exact j
   have p:sy (aA (bY s)) (b+d)=(s[y].toNat:Int)+1:=by
    have j:=F.o;have f:=M.o;subst f;exact j
   have v:=θ m;have z:=θ p;clear m p;by_cases r:s[x].toNat=s[y].toNat
   ·have I:(s[x].toNat != s[y].toNat)=false:=by simp[r]
    have R:=θ r;clear r;go_wp2;go_quiet (fail);go_wp2;go_roundw;case rel=>
     have j:=L.o;have f:=M.o;exact⟨d+1,E,E,by congr 1;omega,by congr 1;omega,al0 G.o (by rw[v.out,z.out,R.o]),_,rfl⟩
    case measure=>simp[intOf];omega
   ·have I:(s[x].toNat != s[y].toNat)=true:=by simp[r]
    have A:Hid (decide (s[x].toNat<s[y].toNat)=gS (aA (bY s)) a b):=by
     show _=_;by_cases t:s[x].toNat<s[y].toNat
     ·rw[bc2 t,Fy (l.o.2 (Ei (by rw[v.out,z.out];omega)))]
     ·rw[bc0 t,Bm (λh=>by
       rcases l.o.1 h with k | ⟨k,_⟩
       ·rw[v.out,z.out]at k;omega
       ·rw[v.out,z.out]at k;omega)]
    clear r;go_wp2;go_quiet (fail);go_wp2;go_quiet (fail);go_wp2;go_ret;exact⟨dO A.o,_,by rw[bb0,bb0]⟩
  ·have A:Hid (decide (b+d<a+d)=gS (aA (bY s)) a b):=by
    show _=_;have N:=Ob s;have T:=(dE (yD s)).nn;by_cases t:b+d<a+d
    ·have i:a+d=s.size:=E;have j:=T (b+d) (by rw[aE,kI];omega);have f:=sX (show b+d<s.size by omega);rw[bc2 t,Fy (c.2 (jC.2 (Ei (by rw[i,N,f];omega))))]
    ·rw[bc0 t,Bm (λh=>by
      have B:=c.1 h
      rcases aV8 (a+d) s.size with k | k
      ·have i:b+d=s.size:=E
       have f:=sX k
       rw[i]at B
       rcases jC.1 B with q | ⟨q,_⟩<;>rw[N,f]at q<;>omega
      ·have i:a+d=b+d:=E
       rw[i]at B
       exact sufLt.irrefl B)]
   have J:¬a+d<s.size\/(a+d<s.size/\¬b+d<s.size):=E;clear c g;generalize a+d=x at *;generalize b+d=y at *;rcases J with h | ⟨h,S⟩
   ·have W:decide (x<s.size)=false:=bc0 h;go_wp2;go_ret;exact⟨dO A.o,_,rfl⟩
   ·have X:decide (y<s.size)=false:=bc0 S;go_wp2;go_ret;exact⟨dO A.o,_,rfl⟩
theorem aa2(r:List Nat)(k p:Nat):(cN (bX r) k (p:Int))=bX (cN r k p):=by simp[cN,bX,aQ8,aQ5]
theorem qI(s:ByteArray)(w:World)(T:s.size<=100000):Calls prog 31 #[.string s] w (zY w w (aA (bY s))):=by
 go_in;go_wp2;go_loopw [3,4] (λv3 v4 wr=>∃(q:Nat) (r:List Nat),q<=s.size+1/\v4= .int .i64 ((q:Int)-1)/\r.Perm (List.range' q (s.size+1-q))/\r.Pairwise (sufLt (aA (bY s)))/\wr.ownsRow w 3 1 v3 r.length (r.map bP)/\Below w w wr) (λ_ v4 _=>(intOf v4+1).toNat);exact⟨s.size+1,[],aV3 _,by congr 1;omega,Es,List.Pairwise.nil,bb2 _ _ _ _,aJ6 _ _⟩;case round=>
  obtain⟨q,r,hq,rfl,f,u,d,hb⟩:=hrel;have c6:=hb.size;have N:r.length=s.size+1-q:=by have :=f.length_eq;simpa using this
  rcases aV0 q with rfl | c4
  ·have G:IsRows (aA (bY s)) r:=⟨by rw[aE,kI,List.range_eq_range'];exact f,u⟩;have b2:=θ G;have H:=θ d;clear G d f u;go_wp2;go_ret;exact⟨r,b2.o,_,rfl,H.o,hb⟩
  ·obtain⟨p,rfl⟩:∃p,q=p+1:=⟨q-1,E⟩;obtain⟨a,c,rfl,P,_⟩:=aD d;have M:r.length<=c/\c<=maxLen:=by
    rcases d.2 with ⟨hv,h0⟩ | ⟨g,b4,b9,hv,_,_,h1,h2,_⟩
    ·injection hv with _ _ e3;subst e3;rw[h0];exact⟨Nat.le_refl _,by unfold maxLen;omega⟩
    ·injection hv with _ _ e3;subst e3;exact⟨h1,h2⟩
   have O:∀i (t:i<r.length),p<r[i]/\r[i]<=s.size:=λi t=>by
    have :=List.mem_range'_1.1 (f.mem_iff.1 (aP0 t));omega
   have L:=θ O;have Q:=θ f;have y:=θ u;have H:=θ d;have Y:=θ P;have K:=θ M;have b8:=θ N;have c5:r.length<=100001:=E;have HB:=θ hb;clear f u d P M O N hb;have B:((p+1:Nat):Int)-1=(p:Int):=E;rw[B];clear B;go_wp2_with fail;obtain⟨J,rfl⟩:∃J:World,J=wr:=⟨_,rfl⟩;go_loopw [5,6] (λv5 v6 wx=>∃z t:Nat,z<=t/\t<=r.length/\v5= .int .i64 z/\v6= .int .i64 t/\(∀i (h:i<r.length),i<z->sufLt (aA (bY s)) r[i] p)/\(∀i (h:i<r.length),t<=i->¬sufLt (aA (bY s)) r[i] p)/\∃n,wx=J.drewN n) (λv5 v6 _=>(intOf v6).toNat-(intOf v5).toNat);exact⟨0,r.length,E,aV3 _,rfl,rfl,λi h h'=>E,λi h h'=>E,0,rfl⟩;case round=>
    obtain⟨z,t,h1,h2,rfl,rfl,a1,a0,U,rfl⟩:=hrel;have X:=θ a1;have W:=θ a0;clear a1 a0;by_cases c0:z<t
    ·obtain⟨m,hm⟩:=Ey ((z+t)/2);have c1:z<=m:=E;have c2:m<t:=E;have F:m<r.length:=E;have c3:((z:Int)+(t:Int))/2=(m:Int):=E;obtain⟨g,b4,hv,_,_,_,_,C,_⟩:=cS H.o E;injection hv with ha b5 b6
     subst ha;clear b5 b6;have e1:(J.drewN U).cell? (g,m)=some (.int .i64 (r[m]:Int)):=by
      show J.cell? _=_;rw[C m F,aO3,aO0 F];rfl
     have hx:=L.o m F;have D:=Mr s r[m] p (J.drewN U) hx.2 E E;have HT:Hid (sufLt (aA (bY s)) r[m] p->∀i (h:i<r.length),i<m+1->sufLt (aA (bY s)) r[i] p):=λT i h b7=>by
      rcases aV8 i m with k | k
      ·exact(aS7.1 y.o i m h F k:sufLt _ _ _).trans T
      ·obtain rfl:i=m:=E;exact T
     have HF:Hid (¬sufLt (aA (bY s)) r[m] p->∀i (h:i<r.length),m<=i->¬sufLt (aA (bY s)) r[i] p):=λT i h b7 hc=>by
      rcases aV8 m i with k | k
      ·exact T ((aS7.1 y.o m i F h k:sufLt _ _ _).trans hc)
      ·obtain rfl:i=m:=E;exact T hc
     have j:=θ D;have HM:=θ hm;clear C D hm;generalize r[m]=x at *;by_cases A:sufLt (aA (bY s)) x p
     ·have l:=j.o;rw[Fy A]at l;have l:=θ l;have b3:=θ (HT.o A);clear A j;go_wp2_with fail;refine l.o.mono ?_;rintro e w' ⟨rfl,nq,rfl⟩;go_wp2;go_roundw;exact⟨m+1,t,E,h2,by go_num,rfl,b3.o,W.o,_,rfl⟩;simp[intOf];omega
     ·have l:=j.o;rw[Bm A]at l;have l:=θ l;have a7:=θ (HF.o A);clear A j;go_wp2_with fail;refine l.o.mono ?_;rintro e w' ⟨rfl,nq,rfl⟩;go_wp2;go_roundw;exact⟨z,m,E,E,rfl,rfl,X.o,a7.o,_,rfl⟩;simp[intOf];omega
    ·obtain rfl:z=t:=E;have d:(J.drewN U).ownsRow w 3 1 (.slice a r.length c) r.length (r.map bP):=H.o;have I:(bX r).length=r.length:=gE r;have a4:ReadsV (J.drewN U) a ((bX r).map (Value.int .i64)):=by
      rw[<-fI];exact dM d
     have R:=Vr a c (bX r) z (p:Int) (J.drewN U) a4 E (by rw[I];exact K.o.1) K.o.2 E (λh=>by rw[I];exact Y.o h);rw[I,aa2]at R;have a8:=θ R;have V:=θ (aW HB.o U);have a2:(cN r z p).Perm (List.range' p (s.size+1-p)):=by
      refine(vZ r z p).trans ?_;rw[show s.size+1-p=(s.size+1-(p+1))+1 by omega,List.range'_succ];exact Q.o.cons p
     have a3:(cN r z p).Pairwise (sufLt (aA (bY s))):=by
      refine Pr E y.o (λi t h=>X.o i t h) (λi t h=>?_);have hm:=L.o i t;have hl:(aA (bY s)).length=s.size+1:=by rw[aE,kI]
      rcases aG7 (dE (yD s)).nn (a:=p) (b:=r[i]) E E E with k | k
      ·exact k
      ·exact absurd k (W.o i t h)
     have b0:=θ a2;have b1:=θ a3;have a5:=V.o.size;clear d I a4 R a2 a3;go_wp2_with fail;refine a8.o.mono ?_;rintro e w' ⟨v,rfl,S,Z⟩;rw[gE,<-fI]at S;have a9:=θ (gG S a5);have a6:=θ (V.o.trans (Z.mono a5));clear S Z;go_wp2;go_roundw;exact⟨p,cN r z p,E,rfl,b0.o,b1.o,a9.o,a6.o⟩;simp[intOf]
theorem xL(s:ByteArray)(w:World)(hs:s.size<=100000):Calls prog 33 #[.string s] w (tB w w (bY s)):=by
 go_in;have l:=qI s w hs;have d:=θ l;clear l;go_wp2_with fail;refine d.o.mono ?_;rintro e t ⟨r,y,v,rfl,a,H⟩;have u:(aA (bY s)).length=s.size+1:=by rw[aE,kI]
 have x:r.length=s.size+1:=by rw[y.len];exact u
 obtain⟨n,O⟩:=Ey (s.size+1);rw[O]at x u;rw[x]at a;have U:0<n:=E;have a1:n<=100001:=E;obtain⟨g3,Y,rfl,a0,J,_,_,I,_⟩:=cS a U;have P:Hid (∀W,Below t t W->∀j,j<n->W.cell? (g3,j)=some (.int .i64 ((r[j]?.getD 0:Nat):Int))):=by
  intro W hW j C;refine(hW.cell (p:=(g3,j)) J).trans ?_;rw[I j C,aO3,aO0 E];rfl
 have h:∀k,k<n->r[k]?.getD 0<n:=by
  intro k T;have h1:k<r.length:=E;have h2:=y.lt h1;rw[cL h1];omega
 have R:Hid (∀k,k<n->(aO (aA (bY s)) r)[k]? =some (if r[k]?.getD 0=0 then 0 else sy (aA (bY s)) (r[k]?.getD 0-1))):=by
  intro k T;have B:=h k T;unfold aO;rw[aO3,aO0 (show k<r.length by omega),u];rw[aO0 (show k<r.length by omega),aY3]at B;simp only[aY6,aY3];congr 1;by_cases e:r[k]=0
  ·rw[bd0 e,e,show (0+n-1)%n=s.size by rw[<-O];simp];exact Ob s
  ·rw[bc9 e];congr 1;rw[show r[k]+n-1=(r[k]-1)+n by omega,aU4,aW1 E]
 have Q:Hid (IsLast (bY s) (aO (aA (bY s)) r)):=⟨yD s,r,y,rfl⟩;have K:(aO (aA (bY s)) r).length=n:=by rw[fX];exact x
 have G:=θ K;have S:=θ h;have HN:=θ O;have F:=θ H;clear a H y I x K h u O d;generalize aO (aA (bY s)) r=m at *;go_wp2;go_loopw [4,5] (λv i wr=>∃k:Nat,k<=n/\i= .int .i64 k/\wr.ownsRow t 3 1 v k ((m.take k).map (Value.int .i64))/\Below t t wr) (λ_ i _=>n-(intOf i).toNat);exact⟨0,aY1 _,rfl,bb2 _ _ _ _,aJ6 _ _⟩;case round=>
  obtain⟨k,T,rfl,a,f⟩:=hrel;have M:=f.size;by_cases D:k<n
  ·have N:=P.o wr f k D;have hx:=S.o k D;have z:=R.o k D;have L:=θ (λj C=>cH a (k:=j) C);by_cases B:r[k]?.getD 0=0
   ·rw[bd0 B]at z;rw[B]at N;rw[show ((0:Nat):Int)=0 from rfl]at N;have q:(m.take (k+1)).map (Value.int .i64)=(m.take k).map (Value.int .i64)++[.int .i64 0]:=by
     rw[aT5,z,aQ2];rfl
    have A:=θ q;clear q z B;generalize (m.take k).map (Value.int .i64)=row at *;go_wp2_with (at_builtin;refine fM rfl _ _ 36 rfl t 3 Tryz.infoIntG Tryz.underlying36 rfl _ _ _ rfl a rfl rfl (by unfold maxLen;omega) E E ?_);intro v' X c b;have g:Below t t X:=f.grown b M (λj C=>(L.out j C).1);go_wp2;go_roundw;exact⟨k+1,E,by go_num,by rw[A.o];exact c,g⟩;simp[intOf];omega
   ·rw[bc9 B]at z;obtain⟨p,hp⟩:∃p,r[k]?.getD 0=p+1:=⟨r[k]?.getD 0-1,E⟩;rw[hp]at N hx z;have V:p<s.size:=by have :=HN.o;omega
    rw[show p+1-1=p from rfl,sX V]at z;have q:(m.take (k+1)).map (Value.int .i64)=(m.take k).map (Value.int .i64)++[.int .i64 ((s[p].toNat:Int)+1)]:=by
     rw[aT5,z,aQ2];rfl
    have A:=θ q;have hb:s[p].toNat<256:=s[p].toNat_lt;have i0:(0:Int)<=(p:Int):=E;have i1:(p:Int)<(s.size:Int):=E;have Z:((p+1:Nat):Int)=(p:Int)+1:=rfl;rw[Z]at N;have d0:((p:Int)+1==0)=false:=by rw[bb6];omega
    have d1:(p:Int)+1-1=(p:Int):=E;clear q z B hp Z;generalize (m.take k).map (Value.int .i64)=row at *;go_wp2_with (at_builtin;refine fM rfl _ _ 36 rfl t 3 Tryz.infoIntG Tryz.underlying36 rfl _ _ _ rfl a rfl rfl (by unfold maxLen;omega) E E ?_);intro v' X c b;have g:Below t t X:=f.grown b M (λj C=>(L.out j C).1);go_wp2;go_roundw;exact⟨k+1,E,by go_num,by rw[A.o];exact c,g⟩;simp[intOf];omega
  ·obtain rfl:k=n:=E;rw[aT9 (by rw[G.o];exact aV3 _)]at a;have h3:=F.o.size;go_wp2;go_ret;exact⟨m,Q.o,_,rfl,by rw[G.o];exact gG a h3,F.o.trans (f.mono h3)⟩
end
end Go.Proofs.YtchinbgemenenaaGreatDoor
