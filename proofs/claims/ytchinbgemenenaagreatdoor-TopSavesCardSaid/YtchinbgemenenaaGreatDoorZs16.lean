/- Lemmas and contracts under the claims of this seat. No condition. -/
import Derived.Test.YtchinbgemenenaaGreatDoorZs15
namespace Go.Proofs.YtchinbgemenenaaGreatDoor
open Go.Proofs.Tryz
set_option linter.unusedVariables false
set_option linter.unusedSimpArgs false
set_option maxRecDepth 100000
set_option maxHeartbeats 12800000
section
open Go.RowKit
def vQ(s p:ByteArray)(a:Nat):Bool:=decide (a+p.size<=s.size)&&((s.extract a (a+p.size)).toList==p.toList)
theorem vY(s:ByteArray)(a b:Nat):(s.extract a b).data.toList=(s.data.toList.drop a).take (b-a):=by
 rw[ByteArray.data_extract,Array.toList_extract]
theorem aj9{t u:List Int}(y:aS t)(o:aS u)(q:Nat)(A:q<=t.length):vQ (strOfNums t) (strOfNums u) q=true↔lO t u q:=by
 have p:(strOfNums u).size=u.length:=be1 u;have r:(strOfNums t).size=t.length:=be1 t;have f:q+u.length<=t.length->(((strOfNums t).extract q (q+u.length)).toList=(strOfNums u).toList↔(t.drop q).take u.length=u):=by
  intro w;rw[ByteArray.toList_eq,ByteArray.toList_eq,vY,be0,be0,<-aQ5,<-aQ8,show q+u.length-q=u.length by omega];constructor
  ·intro h;have s:aS ((t.drop q).take u.length):=λx z=>y x (aR6 (aR7 z));have a:=bb9 (List.map λb:UInt8=>(b.toNat:Int)) h;have j:=mN s;have k:=mN o;unfold bY at j k;rw[be0]at j k;rw[j,k]at a;exact a
  ·intro h;rw[h]
 unfold vQ;rw[p,r,aJ7,bc3,bb7];constructor
 ·rintro⟨g,a⟩ d v;have e:=(f g).1 a;rw[kH E];unfold sy;have c:u[d]? =some t[q+d]:=by
   have m:=bb9 (λl:List Int=>l[d]?) e;simp only[aO6,bd0 v,aN9]at m;rw[<-m,aO0 E]
  rw[c];rfl
 ·intro h;have g:q+u.length<=t.length:=by
   rcases aV8 t.length (q+u.length)with n | n
   ·have a:=h (t.length-q) E;rw[show q+(t.length-q)=t.length by omega,rM]at a;have e:=(o _ (aP0 (show t.length-q<u.length by omega))).1;unfold sy at a;rw[aO0 E]at a;simp only[aY3]at a;omega
   ·exact n
  refine⟨g,(f g).2 ?_⟩;apply aM8
  ·rw[aQ1,aP5];omega
  ·intro i a e;rw[aP2,aO8];have c:=h i e;rw[kH E]at c;unfold sy at c;rw[aO0 e]at c;simp only[aY3]at c;omega
def be6(s p:ByteArray)(k:Nat):List Int:=bX ((List.range k).filter (vQ s p))
def be8(s p:ByteArray):List Int:=be6 s p (s.size+1)
structure StR where
 t:List Int
 code:Int
 n:Int
 d:List Int
 l:List Int
def lP(t d:List Int):List Int:=be8 (strOfNums t) (strOfNums d)
def aV(most:Int)(t:List Int)(k at_ n:Int)(d:List Int):StR:=
 if k=1 then (if fT t at_ 0=true then (if (d.length:Int)<=most-t.length then ⟨oN t at_.toNat d,0,0,[],[]⟩else ⟨t,3,0,[],[]⟩)else ⟨t,2,0,[],[]⟩)
 else if k=2 then (if fT t at_ n=true then ⟨jW t at_.toNat n.toNat,0,0,[],[]⟩else ⟨t,2,0,[],[]⟩)
 else if k=3 then (if fT t at_ d.length=true then ⟨iJ t at_.toNat d,0,0,[],[]⟩else ⟨t,2,0,[],[]⟩)
 else if k=4 then ⟨t,0,t.length,[],[]⟩
 else if k=5 then (if fT t at_ n=true then ⟨t,0,0,(t.drop at_.toNat).take n.toNat,[]⟩else ⟨t,2,0,[],[]⟩)
 else if k=6 then ⟨t,0,(lP t d).length,[],[]⟩
 else if k=7 then ⟨t,0,(lP t d).length,[],lP t d⟩
 else if k=8 then ⟨t,0,0,[],[]⟩
 else ⟨t,1,0,[],[]⟩
def dG(t:List Int)(k n:Int)(d:List Int):Nat:=if k=2 then min n.toNat t.length*(t.length+5)else d.length*(t.length+d.length+5)
theorem mB{t:List Int}{a n:Int}(h:fT t a n=true):∃x y:Nat,a=x/\n=y/\x+y<=t.length:=by
 have h:=bd6 h;exact⟨a.toNat,n.toNat,E,E,E⟩
theorem mW{x y:List Int}(a:aS x)(b:aS y):aS (x++y):=λz d=>(aR0.1 d).elim (a z) (b z)
theorem jF{x:List Int}(h:aS x)(k:Nat):aS (x.take k):=λz a=>h z (aR7 a)
theorem oS{x:List Int}(h:aS x)(k:Nat):aS (x.drop k):=λz a=>h z (aR6 a)
theorem Dy{most:Int}{t d:List Int}(k b n:Int)(a:aS t)(e:aS d):aS (aV most t k b n d).t:=by
 unfold aV;repeat' split
 all_goals first | exact a | skip
 ·exact mW (mW (jF a _) e) (oS a _)
 ·exact mW (jF a _) (oS a _)
 ·exact mW (mW (jF a _) e) (oS a _)
theorem xY{most:Int}{t d:List Int}(k b n:Int)(f:(t.length:Int)<=most):((aV most t k b n d).t.length:Int)<=most:=by
 unfold aV;repeat' split
 all_goals first | exact f | skip
 ·rename_i _ a g;obtain⟨x,y,rfl,_,e⟩:=mB a;rw[aK5];show ((oN t x d).length:Int)<=most;rw[Nq E];omega
 ·rename_i _ a;obtain⟨x,y,rfl,rfl,e⟩:=mB a;rw[aK5,aK5];show ((jW t x y).length:Int)<=most;rw[Ii E];omega
 ·rename_i _ a;obtain⟨x,y,rfl,g,e⟩:=mB a;rw[aK5];show ((iJ t x d).length:Int)<=most;rw[Dx E];exact f
theorem tP{t d:List Int}:bX ((List.range (t.length+1)).filter (vQ (strOfNums t) (strOfNums d)))=lP t d:=by
 unfold lP be8 be6;rw[be1]
theorem Rr{t d:List Int}:(List.range (t.length+1)).countP (vQ (strOfNums t) (strOfNums d))=(lP t d).length:=by
 rw[<-tP,gE,List.countP_eq_length_filter]
section
variable {B:Nat}{X:Nat->Prop}{w w':World}{q ra:Nat}{most:Int}{t:List Int}{c:Nat}
theorem DoR.up {g:List Int}{b f:Nat}{a n:Int}{d l:List Int}{e:Ending}(h:DoR B X w q ra most g b a n d l e w')(v:b<=f):DoR B X w q ra most g f a n d l e w':=by
 obtain⟨j,k,x,pc,m,o,p,⟨i,r,s⟩,u⟩:=h;exact⟨j,k,x,pc,m,o,p,⟨i,aV4 r v,s⟩,u⟩
theorem StT.byte (h:StT B X w q ra most t c):aS t/\t.length<=100000:=by obtain⟨p,a,d,e,b,R,M,h⟩:=h;exact⟨h.lv.byte,h.lv.len⟩
theorem Bk(h:StT B X w q ra most t c)(o:BitTab w)(v:0<B){k a n:Int}{G:Option Addr}{N:Nat}{d:List Int}(u:Reads w .u8 G d)(C:G=none->d.length=0/\N=0)(L:0<d.length->∀D,G=some D->¬exT B X D.block)(r:aS d)(J:0<=most)(h9:most<=10000)(ht:(t.length:Int)<=most)(a0:d.length<=10000)(K:c+dG t k n d+t.length+d.length+10<=1000000)(Z:k≠8):Calls prog 11 #[.pointer q,bN k a n G d.length N] w (DoR B X w q ra most (aV most t k a n d).t (c+dG t k n d) (aV most t k a n d).code (aV most t k a n d).n (aV most t k a n d).d (aV most t k a n d).l):=by
 have A:∀{s:Nat->Prop},(∀j,X j->s j)->0<d.length->∀D,G=some D->¬exT B s D.block:=λz J D e P=>L J D e ⟨P.1,λY=>P.2 (z _ Y)⟩;by_cases Q:k=1
 ·subst Q;by_cases f:fT t a 0=true
  ·by_cases M:(d.length:Int)<=most-t.length
   ·have e:aV most t 1 a n d=⟨oN t a.toNat d,0,0,[],[]⟩:=by unfold aV;rw[bd0 rfl,bd0 f,bd0 M]
    rw[e];obtain⟨x,y,rfl,_,I⟩:=mB f;rw[aK5];have H:dG t 1 n d=d.length*(t.length+d.length+5):=rfl;rw[H]at K⊢;exact jB h (Ei rfl) (λF s g p z i=>Jc g (o.below' p) v (u.below p) (A i) r E J E M E E)
   ·have e:aV most t 1 a n d=⟨t,3,0,[],[]⟩:=by unfold aV;rw[bd0 rfl,bd0 f,bc9 M]
    rw[e];exact(jB (cm:=c) h (Ei rfl) (λF s g p z i=>(Qm g f J E E E).mono (λe w' b=>⟨b.1,⟨c,aV3 _,g.below b.2⟩,Chg.of_below b.2⟩))).mono (λe w' b=>b.up (aV2 _ _))
  ·have e:aV most t 1 a n d=⟨t,2,0,[],[]⟩:=by unfold aV;rw[bd0 rfl,bc9 f]
   rw[e];exact(jB (cm:=c) h (Ei rfl) (λF s g p z i=>(xX g (m:=0) rfl E (by simpa using f)).mono (λe w' b=>⟨b.1,⟨c,Nat.le_refl _,g.below b.2⟩,Chg.of_below b.2⟩))).mono (λe w' b=>b.up (Nat.le_add_right _ _))
 by_cases R:k=2
 ·subst R;by_cases f:fT t a n=true
  ·have e:aV most t 2 a n d=⟨jW t a.toNat n.toNat,0,0,[],[]⟩:=by unfold aV;rw[bc9 Ed,bd0 rfl,bd0 f]
   rw[e];obtain⟨x,y,rfl,rfl,I⟩:=mB f;rw[aK5,aK5];have H:dG t 2 y d=y*(t.length+5):=by unfold dG;rw[bd0 rfl,aK5,aW0 E]
   rw[H]at K⊢;exact jB h (Ej (Ei rfl)) (λF s g p z i=>Jb g (o.below' p) v I E)
  ·have e:aV most t 2 a n d=⟨t,2,0,[],[]⟩:=by unfold aV;rw[bc9 Ed,bd0 rfl,bc9 f]
   rw[e];exact(jB (cm:=c) h (Ej (Ei rfl)) (λF s g p z i=>(xX g (m:=n) rfl E (by simpa using f)).mono (λe w' b=>⟨b.1,⟨c,Nat.le_refl _,g.below b.2⟩,Chg.of_below b.2⟩))).mono (λe w' b=>b.up (Nat.le_add_right _ _))
 by_cases S:k=3
 ·subst S;by_cases f:fT t a d.length=true
  ·have e:aV most t 3 a n d=⟨iJ t a.toNat d,0,0,[],[]⟩:=by unfold aV;rw[bc9 Ed,bc9 Ed,bd0 rfl,bd0 f]
   rw[e];obtain⟨x,y,rfl,h2,I⟩:=mB f;rw[aK5];have H:dG t 3 n d=d.length*(t.length+d.length+5):=rfl;rw[H]at K⊢;have hm:d.length*(t.length+5)<=d.length*(t.length+d.length+5):=Nat.mul_le_mul_left _ E;exact(jB h (Ej (Ej rfl)) (λF s g p z i=>Wi g (o.below' p) v (u.below p) (A i) r E E)).mono (λe w' b=>b.up E)
  ·have e:aV most t 3 a n d=⟨t,2,0,[],[]⟩:=by unfold aV;rw[bc9 Ed,bc9 Ed,bd0 rfl,bc9 f]
   rw[e];exact(jB (cm:=c) h (Ej (Ej rfl)) (λF s g p z i=>(xX g (m:=d.length) rfl E (by simpa using f)).mono (λe w' b=>⟨b.1,⟨c,Nat.le_refl _,g.below b.2⟩,Chg.of_below b.2⟩))).mono (λe w' b=>b.up (Nat.le_add_right _ _))
 by_cases T:k=4
 ·subst T;exact(ax4 h).mono (λe w' b=>b.up (aV2 _ _))
 by_cases U:k=5
 ·subst U;by_cases f:fT t a n=true
  ·have e:aV most t 5 a n d=⟨t,0,0,(t.drop a.toNat).take n.toNat,[]⟩:=by unfold aV;rw[bc9 Ed,bc9 Ed,bc9 Ed,bc9 Ed,bd0 rfl,bd0 f]
   rw[e];obtain⟨x,y,rfl,rfl,I⟩:=mB f;rw[aK5,aK5];exact(xW h o v I).mono (λe w' b=>b.1.up (aV2 _ _))
  ·have e:aV most t 5 a n d=⟨t,2,0,[],[]⟩:=by unfold aV;rw[bc9 Ed,bc9 Ed,bc9 Ed,bc9 Ed,bd0 rfl,bc9 f]
   rw[e];exact(Np h (by simpa using f)).mono (λe w' b=>b.up (Nat.le_add_right _ _))
 have O:∀q,q<=t.length->(vQ (strOfNums t) (strOfNums d) q=true↔lO t d q):=λq b=>aj9 h.byte.1 r q b;by_cases V:k=6
 ·subst V;refine(Wg h u C E r O).mono (λe w' b=>?_);rw[Rr]at b;exact b.up (aV2 _ _)
 by_cases W:k=7
 ·subst W;refine(Qk h u C E r O).mono (λe w' b=>?_);rw[Rr,tP]at b;exact b.up (aV2 _ _)
 have e:aV most t k a n d=⟨t,1,0,[],[]⟩:=by unfold aV;rw[bc9 Q,bc9 R,bc9 S,bc9 T,bc9 U,bc9 V,bc9 W,bc9 Z]
 rw[e];exact(ax3 h E).mono (λe w' b=>b.up (aV2 _ _))
end
section
variable {B:Nat}{X:Nat->Prop}{w w':World}{q ra m:Nat}{t:List Int}{c:Nat}
theorem Wo(h:StT B X w q ra (m:Int) t c)(K:t.length<=m)(L:m<=10000)(N:t.length<=900):Calls prog 13 #[.pointer (some ⟨q,0,none⟩)] w λe w'=>∃R a d,IsRows (aA t) R/\e= .returned (.tuple #[.slice a (bI m ra t R).length d, .int .i64 0])/\w'.ownsRow w.heap.size 5 1 (.slice a (bI m ra t R).length d) (bI m ra t R).length ((bI m ra t R).map (Value.int .u8))/\StT B (λj=>X j\/bM a j) w' q ra m t c/\Chg (exT B X) w w':=by
 obtain⟨p,s,P,Q,O,R,M,h⟩:=h;have x:Hid (∀n,Calls prog 29 #[.pointer (some ⟨p,0,none⟩), .int .i64 (m:Int)] (w.drewN n) λe w'=>∃a d,e= .returned (.tuple #[.slice a (bI m ra t R).length d, .int .i64 0])/\
   w'.ownsRow w.heap.size 5 1 (.slice a (bI m ra t R).length d) (bI m ra t R).length ((bI m ra t R).map (Value.int .u8))/\StT B (λj=>X j\/bM a j) w' q ra m t c/\Chg (exT B X) w w'/\w'.cell? ⟨q,0,none⟩=some (.pointer (some ⟨p,0,none⟩))/\w'.cell? ⟨q,1,none⟩=some (.int .i64 (m:Int))):=θ (λn=>by
  have C:=aW (aJ6 w.heap.size w) n
  refine(Ds (h.lv.below C) K E N).mono ?_
  rintro e w' ⟨a,d,rfl,l,J,I⟩
  have f:Chg (exT s (inX s X q)) w w':=(Chg.of_below C).trans I (λb e=>Ei e)
  have y:∀j,bM a j->w.heap.size<=j:=λj e=>(l.lt j (qT.1 e)).1
  refine⟨a,d,rfl,l,⟨p,s,P,Q,O,R,M,⟨J.mono (λj e=>?_),h.le,f.heap h.q0 (λe=>Cx e rfl),⟨h.qx.1,λe=>e.elim h.qx.2 (λe=>by have :=y q e;have :=h.lt;omega)⟩⟩⟩,f.mono (λj e=>Cv h.le e),bb8 w' q 0 _ _ _ (f.heap h.q0 (λe=>Cx e rfl)),bb8 w' q 1 _ _ _ (f.heap h.q0 (λe=>Cx e rfl))⟩
  obtain⟨z,(e | e) | e⟩:=e
  ·exact Ei ⟨z,Ei e⟩
  ·exact Ej e
  ·exact Ei ⟨z,Ej e⟩)
 have G:=θ h.lv.rows;have u:=θ h.cells;clear h;obtain⟨D,g⟩:∃D,(bI m ra t R).length=D:=⟨_,rfl⟩;rw[g]at x;have v:=θ g;clear g;go_enter func13,ntmps13;go_wp2_with fail;refine aG (λw'=>w'.cell? ⟨q,0,none⟩=some (.pointer (some ⟨p,0,none⟩))/\w'.cell? ⟨q,1,none⟩=some (.int .i64 (m:Int))) Ek (u.o) (λr=>?_);refine rV 0 1 2 3 r ?_;refine rV 4 5 6 7 r ?_;refine rg 8 λT H=>?_;go_simp;refine(x.o 1).mono ?_;rintro e S ⟨a,d,rfl,l,A,i,k⟩;have F:=θ (And.intro l (And.intro A i));clear l A i x;refine H.out _ _ (k) ?_;intro r;try simp only[pt]
 refine rV 9 10 11 12 r ?_;refine rz ?_;go_wp2_with fail;go_ret2;refine⟨R,a,d,G.o,?_⟩;rw[v.o];exact⟨rfl,F.o⟩
theorem StT.back {d b p g i:Nat}{R:List Nat}{M:Nat->Bool}{f:Int}{u:Nat}{a:Int}{v:List Int}(h:StT B X w q u a v c)(l:LvT b (λ_=>False) w' p g i ra f t R d M)(D:w<=b)(n:w'.heap[q]? =some (.cells #[.pointer p,m] 58 (0,0))):StT B X w' q ra (m:Int) t d:=by
 obtain⟨F,k,r,s,o,y,x,h⟩:=h;have A:=h.lv.le;have C:=h.le;refine⟨p,b,g,i,f,R,M,⟨l.mono (λj e=>?_),E,n,h.qx⟩⟩;obtain⟨z,e | e⟩:=e
 ·have :=h.lv.lv.e.xlt (show inX k X q j from⟨E,Ei e⟩);omega
 ·have :=h.lt;omega
theorem Wj{b y pc:Nat}{R:List Nat}{r0:Nat}{f:Int}{t0:List Int}(h:StT B X w q r0 f t0 c)(C:aS t)(hR:IsRows (aA t) R)(P:Reads w .u8 (some (b,y)) (bI m ra t R))(hm:t.length<=m)(D:m<=10000)(ht:t.length<=900)(r1:1<=ra)(J:ra<=64)(s:(bI m ra t R).length<=pc)(u:pc<=9223372036854775807):Calls prog 15 #[.pointer q, .slice (b,y) (bI m ra t R).length pc] w λe w'=>e= .returned (.int .i64 0)/\StT B X w' q ra m t (t.length+1)/\Chg (exT B X) w w':=by
 have N:=θ (We P C hR hm D ht r1 J s u);have H:=θ h;obtain⟨p0,B0,a1,a2,a0,R0,M0,h⟩:=h;have z:=θ (And.intro h.q0 (And.intro h.qx h.lt));clear h P s;generalize (bI m ra t R).length=ns at *;go_in;go_wp2_with fail;refine N.o.mono ?_;rintro e g ⟨W,p,pk,pp,Y,M,rfl,O,hB,l⟩;have d:=aT l z.o.1;have a:=aB g (.cells #[m,ra,t.length] 77);have L:Hid (LvT W (λ_=>False) (g.alloc (.cells #[m,ra,t.length] 77)) p pk pp ra 0 t Y (t.length+1) M/\Below w w (g.alloc (.cells #[m,ra,t.length] 77))):=θ ⟨O.below a,l.alloc l.size _⟩;have T:=bb8 _ q 0 _ _ _ (aT a d);have U:=bb8 _ q 1 _ _ _ (aT a d);have Z:=bc4 _ q 0 _ _ (aT a d);have f1:=bc4 _ q 1 _ _ (aT a d);have Q:=bb8 _ g 0 _ _ _ (bc6 g (.cells #[m,ra,t.length] 77));have A:=θ (aT a d);have F:g.heap.size≠q:=by have :=l.size;have :=z.o.2.2;omega
 clear O l d a N;go_wp2_with fail;generalize g.alloc (.cells #[m,ra,t.length] 77)=wa at *;generalize g.heap.size=qh at *;have G:wa.cell? q=some (.pointer p0):=T;have I:wa.cell? (q,1)=f:=U;have v:wa.cell? qh=m:=Q;have x:(wa.setCell q (.pointer p)).cell? qh=m:=(pW (w:=wa) (q:=q) (j:=0)).cell v F;clear T U Q;go_region;have V:=bD (bD A.o 0 (.pointer p)) 1 m;have K:Chg (λk=>k=q) wa ((wa.setCell q (.pointer p)).setCell (q,1) m):=pW.trans pW (λb e=>Ei e);have r:=(L.o.1.aside K (λj e _ e2=>by have :=e.1;have :=z.o.2.2;omega)).mono (X':=λ_=>False) (λj e=>e.elim);have n:Chg (exT B X) w ((wa.setCell q (.pointer p)).setCell (q,1) m):=(Chg.of_below (S:=exT B X) L.o.2).trans K (λb e=>Ei (by rw[e];exact z.o.2.1));generalize (wa.setCell q (.pointer p)).setCell (q,1) m=w2 at *;have i:=θ (And.intro (StT.back (w':=w2.drew) H.o (r.below (aJ6 _ _).drew) hB V) n.drew);clear V K r n v x G I Z f1;go_wp2;go_ret;exact⟨rfl,i.o⟩
theorem Ql(h:StT B X w q ra (m:Int) t c)(P:t.length<=m)(x:m<=10000)(S:t.length<=900){r n:Int}{I:Option Addr}{dn J:Nat}:Calls prog 11 #[.pointer q,bN 8 r n I dn J] w (DoR B X w q ra m t (t.length+1) 0 0 [] []):=by
 obtain⟨Y,A,F,z,G⟩:=qR h 8 r n I dn J;have V:=θ (Wo Y P x S);have H:=θ (And.intro z (And.intro G F));have k:Hid (1<=ra/\ra<=64):=θ (by obtain⟨p,B',pk,pp,mv,R,M,h⟩:=h;exact⟨h.lv.r1,h.lv.r64⟩);have C:=h.byte.1;have e0:=bb8 _ w 0 _ _ _ A;clear h Y A F z G;unfold bN;go_in;go_wp2_with fail;change Calls _ _ _ (doW w 8 r n I dn J) _;generalize a1:doW w 8 r n I dn J=w1 at *;refine V.o.mono ?_;rintro e w2 ⟨R,a,K,Z,rfl,Q,hS,hc⟩;have u:0<(bI m ra t R).length:=by unfold bI zA;rw[aP3,eM];omega
 obtain⟨g,W,hv,a0,_,N,L,_,_⟩:=cS Q u;obtain⟨rfl,-,rfl⟩:=Value.slice.inj hv;have O:=Ol Z P x S k.o.1 k.o.2 C;have v:K<=9223372036854775807:=by have :=L;unfold maxLen at this;omega
 have U:=θ (Wj hS C Z (cB Q) P x S k.o.1 k.o.2 N v);have HC:=θ hc;clear Q hS hc hv V u O;generalize (bI m ra t R).length=ns at *;go_wp2_with fail;refine U.o.mono ?_;rintro e s ⟨rfl,y,D⟩;have i:Chg (exT B (doX X w)) w1 s:=HC.o.trans (D.mono (S':=exT B (doX X w)) (λj e=>⟨e.1,λhx=>e.2 (Ei hx)⟩)) (λb e=>Ei e);have f:=i.heap H.o.2.2 (λe=>e.2 (Ej (Ej rfl)));have T:=θ (And.intro (vnil (y.mono (X':=doX X w) (λj e=>Ei e))) i);have f0:=bc4 s _ 0 _ _ f;have f1:=bc4 s _ 1 _ _ f;have f2:=bc4 s _ 2 _ _ f;have f3:=bc4 s _ 3 _ _ f;have g0:=bb8 s _ 0 _ _ _ f;have g1:=bb8 s _ 1 _ _ _ f;have g2:=bb8 s _ 2 _ _ _ f;have g3:=bb8 s _ 3 _ _ _ f;clear y D i f U e0;go_wp2_with fail;exact vG (da:=none) (pa:=none) (d:=[]) (l:=[]) H.o.1 H.o.2.1 T.o.1 (aV3 _) T.o.2 H.o.2.2 Reads.nil Reads.nil (λj e=>(e.elim aZ aZ).elim) 0 0 0 0 rfl rfl rfl rfl
end
def qP:Option ST->Nat
 | none=>0
 | some t=>t.size
def Bj:Option ST->Nat
 | none=>0
 | some t=>t.leaves
def rP(o:Option ST):Prop:=pS o/\(aF o).length<=2147483648/\0<(aF o).length/\aP o<=1000000000
theorem Bi{o:Option ST}(h:rP o):qP o<=(aF o).length/16+1/\Bj o<=1000000000/\qP o<=2000000000:=by
 cases o with
 | none=>exact⟨aY1 _,aY1 _,aY1 _⟩
 | some t=>
  obtain⟨a,b,c,d,e,f,g⟩:=Hl h.1.1 h.1.2 h.2.1;show t.size<=t.bits.length/16+1/\t.leaves<=_/\t.size<=_;omega
theorem zQ(o:Option ST):jA o=[.int .i64 ((aF o).length:Nat), .int .i64 (aP o:Nat), .int .i64 (Bj o:Nat), .int .i64 (qP o:Nat)]:=by
 cases o<;>rfl
def gO(ys:List (Option ST)):Nat:=(ys.map qP).sum
theorem aa3(a:List (Option ST))(o:Option ST):gO (a++[o])=gO a+qP o:=by simp[gO]
theorem aD1{a:List (Option ST)}(h:∀o∈a,rP o):gO a<=((a.map aF).map List.length).sum/16+a.length:=by
 induction a with
 | nil=>simp[gO]
 | cons y a d=>
  have e:=(Bi (h y Es)).1;have b:=d (λo c=>h o (by simp[c]));unfold gO at b⊢;simp only[aQ4,List.sum_cons,aP4];omega
theorem Fz(l:List (List Bool)):((l.filter (λb=>decide (0<b.length))).map List.length).sum=(l.map List.length).sum:=by
 induction l with
 | nil=>rfl
 | cons x l a=>
  rw[aN1];by_cases h:0<x.length
  ·simp[h,a]
  ·simp only[h,decide_false,Bool.false_eq_true,bc8,a,aQ4,List.sum_cons];omega
theorem aG9(m p:Nat)(h:p<m):((List.range m).map (λq=>if p=q then 1 else 0)).sum=1:=by
 induction m with
 | zero=>omega
 | succ m a=>
  rw[aS9,aQ2,aT4];by_cases e:p=m
  ·subst e;have :∀k,k<=p->((List.range k).map (λq=>if p=q then 1 else 0)).sum=0:=by
    intro k;induction k with
    | zero=>intro _;rfl
    | succ k a=>intro b;rw[aS9,aQ2,aT4,a E];simp;omega
   rw[this p (aV3 _)];simp
  ·rw[a E];simp[e]
theorem Qp(f g:Nat->Nat)(l:List Nat):(l.map (λq=>f q+g q)).sum=(l.map f).sum+(l.map g).sum:=by
 induction l with
 | nil=>rfl
 | cons x l a=>simp only[aQ4,List.sum_cons,a];omega
theorem aC8{L:List Nat}(b:∀s∈L,s<512){l:Nat}(d:l<=9):((List.range (pw l)).map (λp=>(lvl L l p).length)).sum=L.length:=by
 induction L with
 | nil=>
  have :∀m:Nat,((List.range m).map (λp=>(lvl [] l p).length)).sum=0:=by
   intro m;induction m with
   | zero=>rfl
   | succ m a=>rw[aS9,aQ2,aT4,a];simp[lvl]
  exact this _
 | cons s L a=>
  have e:∀p,(lvl (s::L) l p).length=(if pth s l=p then 1 else 0)+(lvl L l p).length:=by
   intro p;unfold lvl;rw[aP7,aP7,aN1];by_cases h:pth s l=p
   ·simp[h];omega
   ·simp[h]
  have c:=aG9 (pw l) _ (Di (b s Es) d);rw[aQ3 (λp _=>e p),Qp,a (λx f=>b x (by simp[f])),c,aP4];omega
theorem ap4{L:List Nat}(a:∀s∈L,s<512){l:Nat}(d:l<=9):((dC L l).map List.length).sum=l*L.length:=by
 induction l with
 | zero=>simp[dC]
 | succ l c=>
  have e:dC L (l+1)=dC L l++((List.range (pw l)).map (lvl L l)).filter (λb=>decide (0<b.length)):=by
   unfold dC;rw[aS9,aN2];simp
  rw[e,aQ2,aT4,c E,Fz,aQ6];have :=aC8 a (l:=l) E;rw[show (List.length∘lvl L l)=(λp=>(lvl L l p).length)from rfl,this,aX1]
theorem ap2{a:List (Option ST)}(h:∀o∈a,rP o){L:List Nat}(e:Syms L)(b:a.map aF=dC L 9):gO a<=9*(8*L.length/128+1024):=by
 have c:=aD1 h;have d:=ap4 (L:=L) (λs f=>by have :=e s f;omega) (l:=9) (aV3 _);have g:=Sp L;have i:=vC b;rw[b,d]at c;omega
theorem aa5{L:List Nat}(b:Syms L)(h:0<L.length):(dC L 9)[0]? =some (lvl L 0 0)/\(lvl L 0 0).length=L.length:=by
 have e:=ao3 (L:=L) (λs c=>by have :=b s c;omega);have a:=ap5 L (l:=0) (p:=0) E (Mi _) E;exact⟨by simpa[mT,dC]using a,e⟩
theorem ac3{M:Nat->Bool}{R:List Nat}{n:Nat}(g:R.Perm (List.range n)):(∀(j:Nat) (x:Int×Int),(prL 0 (plS M R))[j]? =some x->∃r p:Nat,x=((r:Int),(p:Int))/\R[r]? =some p/\M p=true/\p<n)/\(prL 0 (plS M R)).length<=n/\∀p,p<n->M p=true->∃j,j<(prL 0 (plS M R)).length/\((prL 0 (plS M R))[j]?.getD default).2=(p:Int):=by
 have A:∀r p:Int,(r,p)∈prL 0 (plS M R)->∃v d:Nat,r=v/\p=d/\R[v]? =some d/\M d=true/\d<n:=by
  intro r p h;obtain⟨j,F,b,G⟩:=(pN _ _ _ _).1 h;unfold plS at b;rw[aO3]at b;obtain⟨q,m⟩:∃q,R[j]? =some q:=by
   cases e:R[j]? with
   | none=>rw[e]at b;simp at b
   | some q=>exact⟨q,rfl⟩
  rw[m]at b;simp only[aY6,aY7]at b;have o:q<n:=by have :=(g.mem_iff (a:=q)).1 (aR5 m);simpa using this
  by_cases c:M q=true
  ·rw[bd0 c]at b;exact⟨j,q,E,E,m,c,o⟩
  ·rw[bc9 c]at b;omega
 refine⟨λj x C=>?_,?_,λp k c=>?_⟩
 ·obtain⟨r,p,t,f,w,y,z⟩:=A x.1 x.2 (aR5 C);exact⟨r,p,by rw[<-t,<-f],w,y,z⟩
 ·have s:∀(l:List Int) (i:Nat),(prL i l).length<=l.length:=by
   intro l;induction l with
   | nil=>intro i;simp[prL]
   | cons x l D=>
    intro i;have :=D (i+1);unfold prL;split<;>simp<;>omega
  have :=s (plS M R) 0;have t:(plS M R).length=R.length:=by unfold plS;rw[aP7]
  have f:=g.length_eq;rw[List.length_range]at f;omega
 ·obtain⟨r,B⟩:=List.getElem?_of_mem ((g.mem_iff (a:=p)).2 (by simpa using k));have :((r:Int),(p:Int))∈prL 0 (plS M R):=(pN _ _ _ _).2 ⟨r,E,by
   unfold plS
   rw[aO3,B]
   simp[c],E⟩
  obtain⟨j,u⟩:=aO4 this;exact⟨j,(aO2.1 u).1,by rw[u];rfl⟩
theorem ac4{M:Nat->Bool}{R:List Nat}{i j:Nat}{x y:Int×Int}(d:(prL 0 (plS M R))[i]? =some x)(e:(prL 0 (plS M R))[j]? =some y)(a:i<j):x.1<y.1:=by
 have h:=oY (plS M R) 0;rw[aS7]at h;obtain⟨b,rfl⟩:=aO2.1 d;obtain⟨c,rfl⟩:=aO2.1 e;exact h i j b c a
def jZ(M:Nat->Bool):Nat->Nat
 | 0=>0
 | k+1=>if M k=true then 0 else jZ M k+1
theorem Fk(M:Nat->Bool):∀k,jZ M k<=k/\∀j,k<=j+jZ M k->j<k->M j=false
 | 0=>⟨aV3 _,λj _ h=>absurd h E⟩
 | k+1=>by
  obtain⟨d,a⟩:=Fk M k;unfold jZ;by_cases h:M k=true
  ·rw[bd0 h];exact⟨E,λj b c=>E⟩
  ·rw[bc9 h];refine⟨E,λj b c=>?_⟩;by_cases e:j=k
   ·subst e;simpa using h
   ·exact a j E E
theorem aB1{M:Nat->Bool}{n b:Nat}(h:rO M n b){k:Nat}(g:k<=n):jZ M k<b:=by
 obtain⟨e,c⟩:=Fk M k;refine Nat.lt_of_not_le (λd=>?_);obtain⟨j,f,a⟩:=h.2 (k-jZ M k) E;have :=c (k-jZ M k+j) E E;rw[this]at a;cases a
def isP(ps:List (Int×Int))(k j:Nat):Bool:=(ps.take k).any (λx=>x.2==(j:Int))
theorem am1(a:List (Int×Int))(j:Nat):isP a 0 j=false:=by simp[isP]
theorem am0{a:List (Int×Int)}{k p:Nat}{r:Int}(h:a[k]? =some (r,(p:Int)))(j:Nat):isP a (k+1) j=if j=p then true else isP a k j:=by
 unfold isP;rw[aT5,h,List.any_append];by_cases e:j=p
 ·subst e;simp
 ·rw[bc9 e];simp;omega
theorem aC0{a:List (Int×Int)}{M:Nat->Bool}{n:Nat}(f:∀(j:Nat) (x:Int×Int),a[j]? =some x->∃r p:Nat,x=((r:Int),(p:Int))/\M p=true/\p<n)(g:∀p,p<n->M p=true->∃j,j<a.length/\(a[j]?.getD default).2=(p:Int)){p:Nat}(h:p<n):isP a a.length p=M p:=by
 unfold isP;rw[aT8];cases hM:M p with
 | true=>
  obtain⟨j,b,c⟩:=g p h hM;rw[aL0];rw[aO0 b]at c;exact⟨a[j],List.getElem_mem b,by simpa using c⟩
 | false=>
  rw[List.any_eq_false];intro x c d;obtain⟨j,b⟩:=aO4 c;obtain⟨r,q,rfl,e,_⟩:=f j x b;have :q=p:=by
   have d:(q:Int)=(p:Int):=by simpa using d
   omega
  subst this;rw[hM]at e;cases e
theorem Bq{f g:Nat->Value}{n:Nat}(h:∀j,j<n->f j=g j):aI f n=aI g n:=by
 unfold aI;exact aQ3 (λj a=>h j (aR8.1 a))
theorem Qg{w:World}{pa G:Option Addr}{pc rc n ra:Nat}{a:List (Int×Int)}{R:List Nat}{M:Nat->Bool}(N:RdP w pa a)(hr:Reads w .i64 G (bX R))(hR:R.length=n)(V:∀(j:Nat) (x:Int×Int),a[j]? =some x->∃r p:Nat,x=((r:Int),(p:Int))/\R[r]? =some p/\M p=true/\p<n)(h2:∀{i j:Nat} {x y:Int×Int},a[i]? =some x->a[j]? =some y->i<j->x.1<y.1)(h3:∀p,p<n->M p=true->∃j,j<a.length/\(a[j]?.getD default).2=(p:Int))(hs:rO M n ra)(h0:1<=n)(h9:n<=1000000)(hl:a.length<=n):Calls prog 38 #[.slice pa a.length pc, .slice G n rc,ra] w λe w'=>e= .returned (.bool true)/\Below w w w':=by
 have HP:=θ N;have HR:=θ hr;have H1:=θ V;have H2:Hid (∀{i j:Nat} {x y:Int×Int},a[i]? =some x->a[j]? =some y->i<j->x.1<y.1):=θ h2;have HM:Hid (∀p,p<n->isP a a.length p=M p):=θ (λp N=>aC0 (λj x s=>by obtain⟨r,p,J,_,K,U⟩:=V j x s;exact⟨r,p,J,K,U⟩) h3 N);have HG:Hid (∀k,k<=n->jZ M k<ra):=θ (λk L=>aB1 hs L);have Q:=θ hs.1;have Y:=λw=>Da n E w;have z:=θ hR;have a4:ra<=1000000000\/1000000000<ra:=E;clear N hr V h2 h3 hs hR;go_in;go_wp2_with fail;have I:Hid ((w.alloc (.cells (aI (λ_=> .bool false) n).toArray 4)).ownsRow w 4 1 (.slice w n n) n (aI (λj=> .bool (isP a 0 j)) n)):=θ (by
  rw[Bq (f:=λj=>Value.bool (isP a 0 j)) (g:=λ_=>Value.bool false) (λj _=>by rw[am1])]
  exact tT (heap_alloc_new w _) (Nat.le_refl _) (by unfold maxLen;omega))
 have H:Hid (Below w w (w.alloc (.cells (aI (λ_=> .bool false) n).toArray 4))):=θ ((aJ6 _ _).alloc (aV3 _) _);generalize w.alloc (.cells (aI (λ_=> .bool false) n).toArray 4)=w1 at *;clear Y;go_loopw [8] (λv wr=>∃k:Nat,k<=a.length/\v= .int .i64 k/\wr.ownsRow w 4 1 (.slice w n n) n (aI (λj=> .bool (isP a k j)) n)/\Below w w wr) (λv _=>a.length-(intOf v).toNat);exact⟨0,aY1 _,rfl,I.o,H.o⟩;as_aux_lemma=>
  clear I H;obtain⟨k,L,rfl,c,A⟩:=hrel;have I:=θ c;have H:=θ A;by_cases m:k<a.length
  ·obtain⟨b,a7,rfl,a2,d⟩:=(HP.o.below A) k m;obtain⟨x,s⟩:∃x,a[k]? =some x:=⟨_,aO0 m⟩;obtain⟨r,p,rfl,D,a1,Z⟩:=H1.o k x s;have a5:r<n:=by rw[<-z.o];exact(aO2.1 D).1
   obtain⟨q,S⟩:=d k m;have J:aC a k=(r:Int):=by unfold aC;rw[s];rfl
   have K:aJ a k=(p:Int):=by unfold aJ;rw[s];rfl
   rw[J]at q;rw[K]at S;obtain⟨b2,F,rfl,a0,h⟩:=(Reads.below HR.o A).some (by unfold bX;rw[aP7,z.o];omega);have c3:wr.cell? (b2,F+r)=some (.int .i64 (p:Int)):=by
    have :=h r (by unfold bX;rw[aP7,z.o];omega);rw[this];unfold bX;rw[aO3,D];rfl
   have c4:=kS c Z;have c5:=xI c p;have u:Hid ((wr.setCell (w,p) (.bool true)).ownsRow w 4 1 (.slice w n n) n (aI (λj=> .bool (isP a (k+1) j)) n)):=θ (by
    have :=Av c p (.bool true)
    rw[Bq (f:=λj=>Value.bool (isP a (k+1) j)) (g:=λi=>if i=p then Value.bool true else Value.bool (isP a k i)) (λj _=>by rw[am0 s];split<;>rfl)]
    exact this)
   have B:Hid (Below w w (wr.setCell (w,p) (.bool true))):=θ (A.setCell (aV3 _) _);have k0:(0:Int)<=(k:Int):=E;have O:(k:Int)<(a.length:Int):=E;have r0:decide ((r:Int)<0)=false:=bc0 E;have r1:decide (n<=r)=false:=bc0 E;cases k with
   | zero=>
    clear c A d h;rw[aY2,aU7]at q S;rw[show ((0:Nat):Int)=0 from rfl]at k0 O⊢;go_wp2;go_quiet (fail);go_wp2;go_roundw;exact⟨1,E,rfl,u.o,aW B.o _⟩;simp[intOf];omega
   | succ j=>
    obtain⟨y,hy⟩:∃y,a[j]? =some y:=⟨_,aO0 E⟩;obtain⟨P,p',rfl,_,_,_⟩:=H1.o j y hy;have a6:(P:Int)<(r:Int):=H2.o hy s E;have c6:=(d j E).1;have U:aC a j=(P:Int):=by unfold aC;rw[hy];rfl
    rw[U]at c6;have hw:IntKind.i64.wrap (((j+1:Nat):Int)-1)=(j:Int):=by rw[aK8 _ E];omega
    have T:decide ((0:Int)<((j+1:Nat):Int))=true:=bc2 E;have d2:decide ((r:Int)<=(P:Int))=false:=bc0 E;have d3:decide (r<=P)=false:=bc0 E;have j0:(0:Int)<=(j:Int):=E;have j1:(j:Int)<(a.length:Int):=E;obtain⟨i,X⟩:=Ey (j+1);rw[X]at q S k0 O hw T u⊢;have d5:decide (0<i)=true:=bc2 E;have d6:0<i:=E;have HI:=θ X;clear c A d h X s J K;go_wp2;go_quiet (fail);go_wp2;go_roundw;exact⟨i+1,by have :=HI.o;omega,by go_num,u.o,aW B.o _⟩;have :=HI.o;simp[intOf];omega
  ·obtain rfl:k=a.length:=E;have C:Hid (wr.ownsRow w 4 1 (.slice w n n) n (aI (λj=> .bool (M j)) n)):=θ (by
    rw[Bq (f:=λj=>Value.bool (M j)) (g:=λj=>Value.bool (isP a a.length j)) (λj hj=>by rw[HM.o j hj])]
    exact c)
   clear c A I L m;go_wp2;go_loopw [9,10] (λgp v wx=>∃k:Nat,k<=n/\v= .int .i64 k/\gp= .int .i64 (jZ M k:Nat)/\wx=wr) (λ_ v _=>n-(intOf v).toNat);exact⟨0,aY1 _,rfl,rfl,rfl⟩;as_aux_lemma=>
    obtain⟨k,L,rfl,rfl,rfl⟩:=hrel;by_cases m:k<n
    ·have q:=kS C.o m;have k0:(0:Int)<=(k:Int):=E;have O:(k:Int)<(n:Int):=E;have W:=HG.o (k+1) E;have a3:=(Fk M k).1;have l:jZ M (k+1)=if M k=true then 0 else jZ M k+1:=rfl
     cases hM:M k with
     | true=>
      rw[hM]at l q;rw[bd0 rfl]at l;have t:=θ l;have T:decide ((ra:Int)<=0)=false:=bc0 E;have d2:decide (ra=0)=false:=bc0 E;have d3:¬ra=0:=E;clear l W hM;go_wp2;go_roundw;exact⟨k+1,E,by go_num,by rw[t.o];rfl,trivial⟩;simp[intOf];omega
     | false=>
      rw[hM]at l q;rw[bc9 Ed]at l;have t:=θ l;have T:decide ((ra:Int)<=(jZ M k:Int)+1)=false:=bc0 E;have d2:decide (ra<=jZ M k+1)=false:=bc0 E;clear l hM;generalize jZ M k=gk at *;go_wp2;go_roundw;exact⟨k+1,E,by go_num,by rw[t.o];first | rfl | go_num,trivial⟩;simp[intOf];omega
    ·obtain rfl:k=n:=E;have q:=kS C.o (j:=0) E;rw[Q.o]at q;have O:(0:Int)<(k:Int):=E;generalize jZ M k=gk at *;go_wp2;go_ret;exact⟨rfl,H.o⟩
theorem ae9{O:Nat->Nat->Option ST}{o:Option ST}(h:o∈gR O 9):(∃l k,l<9/\k<pw l/\o=O l k)/\0<(aF o).length:=by
 unfold gR at h;obtain⟨l,e,h⟩:=List.mem_flatMap.1 h;unfold shL at h;obtain⟨b,a⟩:=List.mem_filter.1 h;obtain⟨k,d,rfl⟩:=aR4.1 b;refine⟨⟨l,k,aR8.1 e,aR8.1 d,rfl⟩,?_⟩;unfold Fp at a;simpa using a
section
variable {B:Nat}{X:Nat->Prop}{w w':World}{q p ra:Nat}{most:Int}{t:List Int}{c B' pk pp:Nat}{mv:Int}{R:List Nat}{M:Nat->Bool}{L:List Nat}
theorem aj2(h:Wv B X w p L):Calls prog 86 #[.pointer p] w λe w'=>∃v g,e= .returned v/\ShRow w' w v g/\g.map aF=dC L 9/\(∀o∈g,rP o)/\Below w w w':=by
 obtain⟨D,O,v,a,i⟩:=h;have f:∀o∈gR O 9,rP o:=λo r=>by
  obtain⟨⟨l,k,d,b,rfl⟩,n⟩:=ae9 r;exact⟨(a.tGood d b).1,(a.tGood d b).2,n,iH a l k d b⟩
 refine(zU a).mono ?_;rintro e w' ⟨v,rfl,j,m⟩;exact⟨v,_,rfl,j,Ie i,f,m⟩
theorem Zx(h:LvT B X w p pk pp ra mv t R c M):Calls prog 45 #[.pointer p] w λe w'=>∃v a,e= .returned v/\ShRow w' w v a/\a.map aF=dC (lvR (aA t) R) 9/\(∀o∈a,rP o)/\Below w w w':=by
 obtain⟨Y,Z,k⟩:=h.lv.e;have i:=k.cells.1;obtain⟨pw,pt,d⟩:=k.k;have j:=d.cells.1;have f:=θ (aj2 d.v);clear h k d;go_in;go_wp2_with fail;refine f.o.mono ?_;rintro e w' ⟨v,a,rfl,b⟩;obtain⟨l,m,rfl,_,_⟩:=aD b.1;have g:=θ b;clear b f;go_wp2;go_ret;exact⟨_,a,rfl,g.o⟩
theorem Ij(h:StT B X w q ra most t c):Calls prog 19 #[.pointer q] w λe w'=>∃L a d b,L.length=t.length+1/\Syms L/\e= .returned (.slice a b.length d)/\ShRow w' w (.slice a b.length d) b/\b.map aF=dC L 9/\(∀o∈b,rP o)/\Below w w w':=by
 obtain⟨p,B',pk,pp,mv,R,M,h⟩:=h;have n:=h.cells.1;have g:=θ (And.intro h.lv.llen (show Syms (lvR (aA t) R) by obtain⟨Y,Z,k⟩:=h.lv.lv.e;exact k.k.sy));have i:=θ (Zx h.lv);clear h;go_in;go_wp2_with fail;refine i.o.mono ?_;rintro e w' ⟨v,b,rfl,f⟩;obtain⟨l,m,rfl,_,_⟩:=aD f.1;have j:=θ f;clear f i;go_wp2;go_ret;exact⟨_,l,m,b,g.o.1,g.o.2,rfl,j.o⟩
theorem aG0{b n k:Nat}{a:Option Addr}{j:List (Option ST)}(h:ShRow w b (.slice a n k) j){i:Nat}{o:Option ST}(u:j[i]? =some o):∃g:Nat,a=some ⟨g,0,none⟩/\g<w/\w.cell? (g,i*4)=some (.int .i64 ((aF o).length:Nat))/\w.cell? (g,i*4+1)=some (.int .i64 (aP o:Nat))/\w.cell? (g,i*4+2)=some (.int .i64 (Bj o:Nat))/\w.cell? (g,i*4+3)=some (.int .i64 (qP o:Nat)):=by
 obtain⟨g,v,x,l,m,d,r,s,e,f⟩:=shRead h u;rw[zQ]at d;simp only[List.cons.injEq,Value.int.injEq,true_and,bb4]at d;rw[<-d.1]at e;rw[<-d.2]at f;exact⟨g,l,m,r,s,e,f⟩
end
theorem Qd(a b:Option Addr)(n m c d:Nat)(f g:List Int)(w:World)(q:Reads w .i64 a f)(r:Reads w .i64 b g)(p:n=f.length)(o:m=g.length)(i:f.length<=9223372036854775806)(l:f=g):Calls prog 17 #[.slice a n c, .slice b m d] w λe j=>e= .returned (.bool true)/\∃k,j=w.drewN k:=by
 refine(Qc a b n m c d f g w q r p o i).mono ?_;rintro e j ⟨rfl,h⟩;exact⟨dO (bc2 l),h⟩
def ShRd(w:World)(a:Option Addr)(ys:List (Option ST)):Prop:=∀(i:Nat) (o:Option ST),ys[i]? =some o->∃g:Nat,a=some ⟨g,0,none⟩/\g<w/\w.cell? (g,i*4)=some (.int .i64 ((aF o).length:Nat))/\w.cell? (g,i*4+1)=some (.int .i64 (aP o:Nat))/\
   w.cell? (g,i*4+2)=some (.int .i64 (Bj o:Nat))/\w.cell? (g,i*4+3)=some (.int .i64 (qP o:Nat))
theorem ShRd.below {w w':World}{a:Option Addr}{d:List (Option ST)}(h:ShRd w a d)(b:Below w w w'):ShRd w' a d:=by
 intro i o l;obtain⟨g,rfl,c,e,f,j,k⟩:=h i o l;have :=b.size;exact⟨g,rfl,E,(b.cell (p:=(g,i*4)) c).trans e,(b.cell (p:=(g,i*4+1)) c).trans f,(b.cell (p:=(g,i*4+2)) c).trans j,(b.cell (p:=(g,i*4+3)) c).trans k⟩
theorem shV_eq(o:Option ST):xV o= .agg #[((aF o).length:Nat),(aP o:Nat),(Bj o:Nat),(qP o:Nat)]:=by
 rw[Nl,zQ]
theorem ai5{w:World}{a:Option Addr}{cap n:Nat}{b:List (Option ST)}{A:Option ST}(h:ShRd w a b)(j:∀o∈b,rP o)(u:b[0]? =some A)(G:(aF A).length=n)(Q:b.length<=1000000):Calls prog 41 #[.slice a b.length cap,n] w λe l=>e= .returned (.bool true)/\Below w w l:=by
 have B:=θ h;have t:=θ j;have C:=θ u;have H:=(aO2.1 u).1;clear h j u;go_in;go_wp2;go_loopw [5] (λv wr=>∃k:Nat,k<=b.length/\v= .int .i64 k/\Below w w wr) (λv _=>b.length-(intOf v).toNat);exact⟨0,aY1 _,rfl,aJ6 _ _⟩;as_aux_lemma=>
  obtain⟨k,P,rfl,i⟩:=hrel;have m:=θ i;by_cases y:k<b.length
  ·obtain⟨o,z⟩:∃o,b[k]? =some o:=⟨_,aO0 y⟩;obtain⟨g,rfl,F,q,J,K,L⟩:=(B.o.below i) k o z;have c:=t.o o (aR5 z);have s:=θ (Vs c.1 c.2.1 wr);rw[shV_eq]at s;have R:=c.2.2.1;have D:∀l,Below wr wr l->l.cell? (g,k*4)=some (.int .i64 ((aF o).length:Nat)):=λl x=>(x.cell (p:=(g,k*4)) F).trans q;have f:=θ D;have S:(0:Int)<=(k:Int):=E;have T:(k:Int)<(b.length:Int):=E;clear i c z D C G;generalize (aF o).length=M at *;generalize aP o=n1 at *;generalize Bj o=n2 at *;generalize qP o=n3 at *;have O:decide ((M:Int)<1)=false:=bc0 E;go_wp2_with fail;refine s.o.mono ?_;rintro e I ⟨rfl,d⟩;have N:=f.o I d;have r:Hid (Below w w I):=θ (m.o.trans (d.mono m.o.size));clear s f d m q J K L;go_wp2;go_roundw;exact⟨k+1,E,by go_num,r.o⟩;simp[intOf];omega
  ·obtain rfl:k=b.length:=E;obtain⟨g,rfl,F,q,_,_,_⟩:=(B.o.below i) 0 A C.o;rw[G,aY2]at q;clear i;go_wp2;go_ret;exact⟨rfl,m.o⟩
theorem aa4(n:Nat)(q:n<=1000000)(w:World):Calls prog 43 #[n] w λe a=>e= .returned (.int .i64 ((9*(8*(n+1)/128+1024):Nat):Int))/\w=a:=by
 have b:Hid (Calls prog 84 #[n] w λe a=>e= .returned (.int .i64 (n:Int))/\w=a):=by
  show Calls _ _ _ _ _;have d:decide ((n:Int)<0)=false:=bc0 E;have f:decide ((n:Int)<2147483648)=true:=bc2 E;have g:¬((n:Int)<0):=E;have h:(n:Int)<2147483648:=E;have i:¬((2147483648:Int)<(n:Int)):=E;have j:min (n:Int) 2147483648=(n:Int):=E;go_in;go_wp2;go_ret;exact Er
 have k:IntKind.i64.wrap (8*((n:Int)+1)/128)=((8*(n+1)/128:Nat):Int):=by
  rw[aK8 _ E];omega
 have l:(8*((n:Int)+1)).tdiv 128=((8*(n+1)/128:Nat):Int):=by
  rw[aK3 E];omega
 have m:8*((n:Int)+1)/128=((8*(n+1)/128:Nat):Int):=E;have p:8*(n+1)/128<=1000000:=E;generalize c:8*(n+1)/128=x at *;clear c;go_in;go_wp2_with fail;refine Cq b.o ?_;go_wp2;go_ret;exact⟨by first | rfl | go_num,rfl⟩
theorem ap1{ys:List (Option ST)}(h:∀o∈ys,rP o):gO ys<=2000000000*ys.length:=by
 induction ys with
 | nil=>simp[gO]
 | cons y ys c=>
  have d:=(Bi (h y Es)).2.2;have a:=c (λo b=>h o (by simp[b]));unfold gO at a⊢;simp only[aQ4,List.sum_cons,aP4];omega
theorem sumFin{w:World}{b:Nat}{e f g h:Value}{a:Act}{d:Ending->World->Prop}(m:a.tmps[2]?.getD undef= .pointer b)(o:a.defers=[])(c:w.heap[b]? =some (.cells #[e,f,g,h] 85 (0,0)))(n:d (.returned (.agg #[e,f,g,h])) w):bodyPost prog Tryz.f42 d .ret a w:=by
 have i:=bb8 w b 0 _ _ _ c;have j:=bb8 w b 1 _ _ _ c;have k:=bb8 w b 2 _ _ _ c;have l:=bb8 w b 3 _ _ _ c;show a.defers=[]/\∃v,(results Tryz.f42 a.tmps).run prog w= .ok v w/\d (.returned v) w;refine⟨o,_,?_,n⟩;simp[results,Tryz.f42,go_sem,m,i,j,k,l]
theorem aG8{w:World}{a:Option Addr}{O:Nat}{i:List (Option ST)}(h:ShRd w a i)(B:∀o∈i,rP o)(hl:i.length<=1000000):Calls prog 42 #[.slice a i.length O] w λe l=>∃x y z:Int,e= .returned (.agg #[.int .i64 x, .int .i64 y, .int .i64 z, .int .i64 (gO i:Int)])/\Below w.heap.size w l:=by
 have HH:=θ h;have s:=θ B;clear h B;go_enter func42,ntmps42;go_wp2_with fail;have u:Below w.heap.size w ((w.alloc (.cells #[.int .i64 0, .int .i64 0, .int .i64 0, .int .i64 0] 85)).alloc (.cells #[.int .i64 0, .int .i64 0, .int .i64 0, .int .i64 0] 85)):=((aJ6 _ _).alloc (aV3 _) _).alloc Es _;have f:=bc6 w (.cells #[.int .i64 0, .int .i64 0, .int .i64 0, .int .i64 0] 85);have c:=bc6 (w.alloc (.cells #[.int .i64 0, .int .i64 0, .int .i64 0, .int .i64 0] 85)) (.cells #[.int .i64 0, .int .i64 0, .int .i64 0, .int .i64 0] 85);rw[bb3]at c;have C:=(Chg.of_below (S:=λ_=>False) (aB (w.alloc (.cells #[.int .i64 0, .int .i64 0, .int .i64 0, .int .i64 0] 85)) (.cells #[.int .i64 0, .int .i64 0, .int .i64 0, .int .i64 0] 85))).heap f (λe=>e);have G:=θ (And.intro u (And.intro C c));clear u f c C;generalize (w.alloc (.cells #[.int .i64 0, .int .i64 0, .int .i64 0, .int .i64 0] 85)).alloc (.cells #[.int .i64 0, .int .i64 0, .int .i64 0, .int .i64 0] 85)=w1 at *;go_loopw [4] (λv wr=>∃(k:Nat) (x y z:Int),k<=i.length/\v= .int .i64 k/\Below w.heap.size w wr/\wr.heap[w.heap.size]? =some (.cells #[.int .i64 0, .int .i64 0, .int .i64 0, .int .i64 0] 85 (0,0))/\
   wr.heap[w.heap.size+1]? =some (.cells #[.int .i64 x, .int .i64 y, .int .i64 z, .int .i64 (gO (i.take k):Nat)] 85 (0,0))) (λv _=>i.length-(intOf v).toNat)
 case atStart=>exact⟨0,0,0,0,aY1 _,rfl,G.o.1,G.o.2.1,G.o.2.2⟩
 case round=>as_aux_lemma=>
  clear G;obtain⟨k,x,y,z,hk,rfl,n,f,c⟩:=hrel;have V:=θ n;have N:=θ f;have t:=θ c;by_cases U:k<i.length
  ·obtain⟨o,p⟩:∃o,i[k]? =some o:=⟨_,aO0 U⟩;obtain⟨g,rfl,hg,c0,c1,c2,c3⟩:=(HH.o.below n) k o p;have a1:=Bi (s.o o (aR5 p));have A:gO (i.take (k+1))=gO (i.take k)+qP o:=by rw[aT5,p];exact aa3 _ _
   have a0:gO (i.take k)<=2000000000*k:=by
    have :=ap1 (ys:=i.take k) (λo p=>s.o o (aR7 p));rw[aQ1,aW0 hk]at this;exact this
   have P:=bb8 wr (w.heap.size+1) 0 _ _ _ c;have Q:=bb8 wr (w.heap.size+1) 1 _ _ _ c;have R:=bb8 wr (w.heap.size+1) 2 _ _ _ c;have T:=bb8 wr (w.heap.size+1) 3 _ _ _ c;have W:=bc4 wr (w.heap.size+1) 0 _ _ c;have X:=bc4 wr (w.heap.size+1) 1 _ _ c;have Y:=bc4 wr (w.heap.size+1) 2 _ _ c;have Z:=bc4 wr (w.heap.size+1) 3 _ _ c;have k0:(0:Int)<=(k:Int):=E;have k1:(k:Int)<(i.length:Int):=E;have L:=θ A;clear n f c p A;generalize (aF o).length=I at *;generalize aP o=J at *;generalize Bj o=K at *;generalize qP o=D at *;generalize gO (i.take k)=F at *;obtain⟨q,hq⟩:∃q,w.heap.size+1=q:=⟨_,rfl⟩;rw[hq]at P Q R T W X Y Z t⊢;have a2:IntKind.i64.wrap ((F:Int)+(D:Int))=((F+D:Nat):Int):=by rw[aK8 _ E];omega
   have M:Hid (Below w.heap.size w ((((wr.setCell ⟨q,0,none⟩ (.int .i64 (wrap64 (x+(I:Nat))))).setCell ⟨q,1,none⟩ (.int .i64 (max y (J:Nat)))).setCell ⟨q,2,none⟩ (.int .i64 (wrap64 (z+(K:Nat))))).setCell ⟨q,3,none⟩ (.int .i64 ((F+D:Nat):Int)))/\_/\_):=θ (by
    obtain⟨m,j⟩:=xT t.o (.int .i64 (wrap64 (x+(I:Nat)))) (.int .i64 (max y (J:Nat))) (.int .i64 (wrap64 (z+(K:Nat)))) (.int .i64 ((F+D:Nat):Int))
    exact⟨V.o.trans (j.below (λb e=>E) V.o.size),j.heap N.o (λe=>E),m⟩)
   go_upto_region 5 with fail
   refine as7 (λl=>l.cell? ⟨q,0,none⟩=some (.int .i64 x)/\l.cell? ⟨q,1,none⟩=some (.int .i64 y)/\l.cell? ⟨q,2,none⟩=some (.int .i64 z)/\l.cell? ⟨q,3,none⟩=some (.int .i64 (F:Nat))/\l.cell? ⟨g,k*4,none⟩=some (.int .i64 (I:Nat))/\l.cell? ⟨g,k*4+1,none⟩=some (.int .i64 (J:Nat))/\l.cell? ⟨g,k*4+2,none⟩=some (.int .i64 (K:Nat))/\l.cell? ⟨g,k*4+3,none⟩=some (.int .i64 (D:Nat))) 33 Ek (⟨P,Q,R,T,c0,c1,c2,c3⟩) (λd=>?_);refine rl 0 d ?_;refine rl 1 d ?_;refine rl 2 d ?_;refine rl 3 d ?_;refine rl 4 d ?_;refine rl 5 d ?_;refine rl 6 d ?_;refine rl 7 d ?_;refine rl 8 d ?_;refine rl 9 d ?_;refine rl 10 d ?_;refine rl 11 d ?_;refine rl 12 d ?_;refine rl 13 d ?_;refine rl 14 d ?_;refine rl 15 d ?_;refine rl 16 d ?_;refine rl 17 d ?_;refine rl 18 d ?_;refine rl 19 d ?_;refine rl 20 d ?_;refine rl 21 d ?_;refine rl 22 d ?_;refine rl 23 d ?_;refine rl 24 d ?_;refine rl 25 d ?_;refine rl 26 d ?_;refine rl 27 d ?_;refine rl 28 d ?_;refine rl 29 d ?_;refine rl 30 d ?_;refine rl 31 d ?_;refine rl 32 d ?_;refine aF5 rfl Ek Ek rfl ?_;clear d;go_simp;go_wp2_with fail;go_roundw;case rel=>exact⟨k+1,wrap64 (x+(I:Nat)),max y (J:Nat),wrap64 (z+(K:Nat)),E,by go_num,by
    have H:=M.o
    rw[Int.natCast_add]at H
    rw[L.o,Int.natCast_add]
    exact⟨aW H.1 1,H.2.1,H.2.2⟩⟩
   case measure=>simp[intOf];omega
  ·obtain rfl:k=i.length:=E;rw[aT8]at c;have P:=bb8 wr (w.heap.size+1) 0 _ _ _ c;have Q:=bb8 wr (w.heap.size+1) 1 _ _ _ c;have R:=bb8 wr (w.heap.size+1) 2 _ _ _ c;have T:=bb8 wr (w.heap.size+1) 3 _ _ _ c;have g0:=bb8 wr w.heap.size 0 _ _ _ f;have g1:=bb8 wr w.heap.size 1 _ _ _ f;have g2:=bb8 wr w.heap.size 2 _ _ _ f;have g3:=bb8 wr w.heap.size 3 _ _ _ f;have W:=bc4 wr w.heap.size 0 _ _ f;have X:=bc4 wr w.heap.size 1 _ _ f;have Y:=bc4 wr w.heap.size 2 _ _ f;have Z:=bc4 wr w.heap.size 3 _ _ f;obtain⟨m,j⟩:=xT f (.int .i64 x) (.int .i64 y) (.int .i64 z) (.int .i64 (gO i:Nat));have r:=θ (And.intro m (n.trans (j.below (λb e=>E) n.size)));clear n m j f c;go_wp2_with fail;exact sumFin rfl rfl r.o.1 ⟨x,y,z,rfl,r.o.2⟩
section
variable {B:Nat}{X:Nat->Prop}{w w':World}{q ra:Nat}{most:Int}{t:List Int}{c:Nat}
theorem Kq(h:StT B X w q ra most t c)(s:ByteArray)(hs:bY s=t)(hl:t.length<=100000):Calls prog 16 #[.pointer q, .string s] w λe w'=>e= .returned (.bool true)/\StT B X w' q ra most t c/\Chg (exT B X) w w':=by
 have f0:s.size=t.length:=by rw[<-hs,kI]
 have HR:=θ (qI s w E);have HQ:Hid (∀w,Calls prog 33 #[.string s] w (tB w.heap.size w t)):=θ (λw=>by have :=xL s w (E);rw[hs]at this;exact this);rw[hs]at HR;have H:=θ h;have c9:=θ f0;have g4:s.size<=100000:=E;clear h hs f0;go_in;go_wp2_with fail;refine HR.o.mono ?_;rintro e w1 ⟨R,hR,v,rfl,ho,hb⟩;obtain⟨ga,gc,rfl,_,d6⟩:=aD ho;have d5:R.length=t.length+1:=by rw[hR.len,aE]
 have c0:Hid (StT B (λj=>X j\/(w<=j/\j<w1)) w1 q ra most t c):=θ (H.o.less hb (λj e=>e));have a7:Hid (Chg (exT B X) w w1):=θ (Chg.of_below hb);have b8:=θ (Ur ho);have a6:Hid (∀W,ga=some W->w<=W.block/\W.block<w1):=θ (λW e=>by obtain⟨g,rfl,h1,h2,_⟩:=d6 W e;exact⟨h1,h2⟩);have f6:=θ hR;have b5:=θ (af3 c0.o);clear hR ho hb d6 HR;obtain⟨nn,F⟩:=Ey R.length;have d8:nn=t.length+1:=by rw[<-F,d5]
 rw[F];have d:=θ (And.intro F d8);clear F d8 d5;go_wp2_with fail;refine b5.o.mono ?_;rintro e w2 ⟨g2,R2,rfl,d3,e7,Q,a1⟩;have c1:=θ Q;have a8:Hid (Chg (exT B X) w w2):=θ (a7.o.trans (a1.mono (λj e=>cJ (λk hk=>Ei hk) e)) (λb e=>Ei e));have K:Hid (Reads w2 .i64 ga (bX R)):=θ (a1.reads b8.o (λW e e2=>e2.2 (Ej (a6.o W e))));have b7:=θ (HQ.o w2);have a:=θ (And.intro d3 e7);clear d3 e7 Q a1 b5 a7 b8 c0 a6;go_wp2_with fail;refine b7.o.mono ?_;rintro e J ⟨m,hm,v3,rfl,a2,l⟩;obtain⟨f8,f9,rfl,_,_⟩:=aD a2;have g0:m.length=t.length+1:=hm.len;have c7:=θ (Qd (some (g2,0)) f8 (t.length+1) m.length (t.length+1) f9 (aO (aA t) R2) m J (Reads.below a.o.2 l) (cB a2) (by rw[fX,a.o.1.len,aE]) rfl (by rw[fX,a.o.1.len,aE];omega)
  (by obtain⟨_,r,h1,h2⟩:=hm;rw[<-h2,gI a.o.1 h1]))
 have c2:=θ (c1.o.below l);have a9:Hid (Chg (exT B X) w J):=θ (a8.o.trans (Chg.of_below l) (λb e=>Ei e));have N:Hid (Reads J .i64 ga (bX R)):=θ (Reads.below K.o l);clear hm a2 l g0 b7 a c1 a8 K;go_wp2_with fail;refine c7.o.mono ?_;rintro e w4 ⟨rfl,k4,rfl⟩;have A:Below J J (J.drewN k4):=⟨rfl,rfl,rfl,aV3 _,λ_ _=>rfl⟩;have T:=θ (c2.o.below A);have b0:Hid (Chg (exT B X) w (J.drewN k4)):=θ (a9.o.trans (Chg.of_below A) (λb e=>Ei e));have O:Hid (Reads (J.drewN k4) .i64 ga (bX R)):=θ (Reads.below N.o A);clear A c7 c2 a9 N;generalize J.drewN k4=w4 at *;have b6:=θ (aG6 T.o);go_wp2_with fail;refine b6.o.mono ?_;rintro e w5 ⟨R5,M,d4,e6,e8,pa,pc,rfl,e0,C⟩;obtain rfl:R5=R:=gI d4 f6.o;obtain⟨f1,f2,f3⟩:=ac3 (M:=M) e6;have U:=θ (T.o.below C);have b1:Hid (Chg (exT B X) w w5):=θ (b0.o.trans (Chg.of_below C) (λb e=>Ei e));have b9:=θ (stRate U.o);have c5:=θ (Qg (pc:=pc) (rc:=gc) (aF3 e0 rfl) (Reads.below O.o C) (n:=nn) (ra:=ra) (by have :=d.o;omega) (λj x hx=>by obtain⟨r,p,e1,e2,e3,e4⟩:=f1 j x hx;exact⟨r,p,e1,e2,e3,by have :=d.o;omega⟩) (λh1 h2 h3=>ac4 h1 h2 h3) (λp hp hM=>f3 p (by have :=d.o;omega) hM) (by rw[d.o.2];exact e8) (by have :=d.o;omega) (by have :=d.o;omega) (by have :=d.o;omega));clear d4 e6 e8 e0 C f1 f2 f3 b6 T b0 O;generalize prL 0 (plS M R5)=ps at *;go_wp2_with fail;refine Cq b9.o ?_;clear b9;go_wp2_with fail;refine c5.o.mono ?_;rintro e w6 ⟨rfl,Y⟩;have V:=θ (U.o.below Y);have b2:Hid (Chg (exT B X) w w6):=θ (b1.o.trans (Chg.of_below Y) (λb e=>Ei e));clear Y c5 U b1;have c6:=θ (Ij V.o);go_wp2_with fail;refine c6.o.mono ?_;rintro e w7 ⟨L,sa,sc,S,hL,a4,rfl,e9,I,G,Z⟩;have a3:ShRd w7 sa S:=λi o hi=>aG0 e9 hi;have u:=ap2 G a4 I;have f4:S.length<=1000000:=by have :=vC I;have :=Sp L;omega
 obtain⟨f,d7⟩:=aa5 a4 E;obtain⟨o0,d9,e5⟩:∃o0,S[0]? =some o0/\aF o0=lvl L 0 0:=by
  rw[<-I,aO3]at f;cases h:S[0]? with
  | none=>rw[h]at f;simp at f
  | some o=>rw[h]at f;exact⟨o,rfl,by simpa using f⟩
 have d0:=θ (ai5 (cap:=sc) a3 G d9 (n:=s.size+1) (by rw[e5,d7,hL,c9.o]) f4);have c8:Hid (∀w',Below w7 w7 w'->Calls prog 42 #[.slice sa S.length sc] w' λe a5=>∃x y z:Int,e= .returned (.agg #[x,y,z,(gO S:Int)])/\Below w' w' a5):=θ (λw' hb=>aG8 (a3.below hb) G f4);have c3:=θ (V.o.below Z);have b3:Hid (Chg (exT B X) w w7):=θ (b2.o.trans (Chg.of_below Z) (λb e=>Ei e));have g3:gO S<=9*(8*(s.size+1)/128+1024):=by rw[hL,<-c9.o]at u;exact u
 clear hL a4 e9 I G Z a3 u f d7 d9 e5 c6 V b2;have g5:IntKind.i64.wrap ((s.size:Int)+1)=((s.size+1:Nat):Int):=by rw[aK8 _ E];omega
 have HN:Hid (∀w',Calls prog 43 #[s.size] w' λe a5=>e= .returned (.int .i64 ((9*(8*(s.size+1)/128+1024):Nat):Int))/\w'=a5):=θ (λw'=>aa4 s.size E w');generalize 9*(8*(s.size+1)/128+1024)=nx at *;generalize gO S=ny at *;have d1:decide ((ny:Int)<=(nx:Int))=true:=bc2 E;have d2:decide (ny<=nx)=true:=bc2 E;go_wp2_with fail;refine d0.o.mono ?_;rintro e w8 ⟨rfl,D⟩;have c4:=θ (c3.o.below D);have b4:Hid (Chg (exT B X) w w8):=θ (b3.o.trans (Chg.of_below D) (λb e=>Ei e));have P:=θ (c8.o w8 D);clear D d0 c8 c3 b3;go_wp2_with fail;refine P.o.mono ?_;rintro e w9 ⟨x,y,z,rfl,a0⟩;have f7:=θ (c4.o.below a0);have f5:Hid (Chg (exT B X) w w9):=θ (b4.o.trans (Chg.of_below a0) (λb e=>Ei e));clear a0 P c4 b4;have g1:∀w:World,(Instr.field 85 (.agg #[x,y,z,(ny:Int)]) 3).run prog w= .ok (.int .i64 (ny:Int)) w:=λw=>Ek;go_wp2_with fail;refine Cq (HN.o w9) ?_;go_wp2;go_ret;exact⟨rfl,f7.o.mono (λj e=>Ei e),f5.o⟩
end
def gQ(most:Int):List Int->List Stp->List Int
 | t,[]=>t
 | t,s::xs=>gQ most (aV most t s.k s.p s.n s.r.l).t xs
def xR(most:Int):List Int->List Stp->List StR
 | _,[]=>[]
 | t,s::xs=>aV most t s.k s.p s.n s.r.l::xR most (aV most t s.k s.p s.n s.r.l).t xs
theorem Ib(most:Int)(s:Stp):∀(xs:List Stp) (t:List Int),gQ most t (xs++[s])=(aV most (gQ most t xs) s.k s.p s.n s.r.l).t
 | [],t=>rfl
 | x::xs,t=>by show gQ most _ (xs++[s])=_;rw[Ib most s xs];rfl
theorem Ia(most:Int)(s:Stp):∀(xs:List Stp) (t:List Int),xR most t (xs++[s])=xR most t xs++[aV most (gQ most t xs) s.k s.p s.n s.r.l]
 | [],t=>rfl
 | x::xs,t=>by show _::xR most _ (xs++[s])=_;rw[Ia most s xs];rfl
theorem ad8{most:Int}{t:List Int}{xs:List Stp}{k:Nat}{s:Stp}(h:xs[k]? =some s):gQ most t (xs.take (k+1))=(aV most (gQ most t (xs.take k)) s.k s.p s.n s.r.l).t:=by
 rw[aT5,h];exact Ib _ _ _ _
theorem ad7{most:Int}{t:List Int}{xs:List Stp}{k:Nat}{s:Stp}(h:xs[k]? =some s):xR most t (xs.take (k+1))=xR most t (xs.take k)++[aV most (gQ most t (xs.take k)) s.k s.p s.n s.r.l]:=by
 rw[aT5,h];exact Ia _ _ _ _
theorem at1{most:Int}(xs:List Stp):∀t:List Int,(t.length:Int)<=most->((gQ most t xs).length:Int)<=most:=by
 induction xs with
 | nil=>intro t h;exact h
 | cons x xs a=>intro t h;exact a _ (xY _ _ _ h)
def RdS(w:World)(a:Option Addr)(xs:List Stp):Prop:=∀i,i<xs.length->∃b off,a=some ⟨b,off,none⟩/\b<w.heap.size/\∀j,j<xs.length->
  w.cell? (b,off+j*4)=some (.int .i64 (xs[j]?.getD default).k)/\w.cell? (b,off+j*4+1)=some (.int .i64 (xs[j]?.getD default).p)/\w.cell? (b,off+j*4+2)=some (.int .i64 (xs[j]?.getD default).n)/\
  w.cell? (b,off+j*4+3)=some (.slice (xs[j]?.getD default).r.a (xs[j]?.getD default).r.l.length (xs[j]?.getD default).r.cap)
theorem RdS.chg {S:Nat->Prop}{w w':World}{a:Option Addr}{xs:List Stp}(h:RdS w a xs)(e:Chg S w w')(d:∀g,a=some g->¬S g.block):RdS w' a xs:=by
 intro i p;obtain⟨b,f,rfl,x,u⟩:=h i p;have d:=d _ rfl;have y:=e.size;refine⟨b,f,rfl,E,λj r=>?_⟩;obtain⟨l,m,n,o⟩:=u j r;exact⟨e.cell l d,e.cell m d,e.cell n d,e.cell o d⟩
structure RsR where
 o:StR
 da:Option Addr
 dc:Nat
 pa:Option Addr
 pc:Nat
def RsR.cells (r:RsR):List Value:=[.int .i64 r.o.code, .int .i64 r.o.n, .slice r.da r.o.d.length r.dc, .slice r.pa r.o.l.length r.pc]
def RsOk(w:World)(Y:Nat->Prop)(v:Value)(r:RsR):Prop:=Reads w .u8 r.da r.o.d/\Reads w .i64 r.pa r.o.l/\∀j,bM r.da j\/bM r.pa j->Y j/\j<w.heap.size/\v.ownBlock≠some j
theorem RsOk.chg {S Y Z:Nat->Prop}{w w':World}{v v':Value}{r:RsR}(h:RsOk w Y v r)(i:Chg S w w')(l:∀j,Y j->v.ownBlock≠some j->¬S j)(o:∀j,Y j->Z j)(u:∀j,j<w.heap.size->v.ownBlock≠some j->v'.ownBlock≠some j):RsOk w' Z v' r:=by
 obtain⟨m,n,g⟩:=h;have x:=i.size;refine⟨i.reads m (λd e=>?_),i.reads n (λd e=>?_),λj p=>?_⟩
 ·obtain⟨a,f,b⟩:=g d.block (Ei ⟨d,e,rfl⟩);exact l _ a b
 ·obtain⟨a,f,b⟩:=g d.block (Ej ⟨d,e,rfl⟩);exact l _ a b
 ·obtain⟨a,f,b⟩:=g j p;exact⟨o j a,E,u j f b⟩
theorem Tryz.infoRes:(prog.info? 38).map (λi=>(i.zero,i.size,i.bytes))=some (some (.agg #[.int .i64 0, .int .i64 0, .slice none 0 0, .slice none 0 0]),4,64):=Ek
structure TdJ (B:Nat) (X:Nat->Prop) (w:World) (q ra:Nat) (most:Int) (t:List Int) (C:Nat) (xs:List Stp) (k:Nat) (v:Value) (wr:World) (rs:List RsR) (Y:Nat->Prop) (c:Nat):Prop where
 len:rs.length=k
 told:rs.map RsR.o=xR most t (xs.take k)
 own:wr.ownsRow w 38 4 v k (rs.flatMap RsR.cells)
 xy:∀j,X j->Y j
 vy:∀j,v.ownBlock=some j->Y j
 ok:∀r∈rs,RsOk wr Y v r
 cb:c<=C+k*900
 st:StT B Y wr q ra most (gQ most t (xs.take k)) c
 chg:Chg (exT B X) w wr
def TdI(B:Nat)(X:Nat->Prop)(w:World)(q ra:Nat)(most:Int)(t:List Int)(C:Nat)(xs:List Stp)(k:Nat)(v:Value)(wr:World):Prop:=∃rs Y c,TdJ B X w q ra most t C xs k v wr rs Y c
structure TdS (B:Nat) (X:Nat->Prop) (w:World) (most:Int) (t:List Int) (C:Nat) (xs:List Stp):Prop where
 ok:∀s∈xs,Reads w .u8 s.r.a s.r.l/\(s.r.a=none->s.r.l.length=0/\s.r.cap=0)/\(∀ad,s.r.a=some ad->¬exT B X ad.block)/\aS s.r.l/\s.r.l.length<=20/\s.k≠8
 tab:BitTab w
 tl:0<B
 le:B<=w
 m0:0<=most
 m9:most<=20
 t:(t.length:Int)<=most
 len:xs.length<=100
 c:C<=100000
section
variable {B:Nat}{X:Nat->Prop}{w w':World}{q ra:Nat}{most:Int}{t:List Int}{c:Nat}
theorem StT.xlt (h:StT B X w q ra most t c){j:Nat}(d:X j):j<w:=by
 obtain⟨p,a,g,i,f,R,M,h⟩:=h;by_cases b:a<=j
 ·exact h.lv.lv.e.xlt ⟨b,Ei d⟩
 ·have :=h.lv.le;omega
theorem ax6{t:List Int}{k n:Int}{d:List Int}(b:t.length<=20)(a:d.length<=20):dG t k n d<=900:=by
 unfold dG;split
 ·have :=aW3 (show min n.toNat t.length<=20 by omega) (show t.length+5<=25 by omega);omega
 ·have :=aW3 a (show t.length+d.length+5<=45 by omega);omega
section
variable {C k:Nat}{xs:List Stp}{v:Value}{wr wa:World}{rs:List RsR}{Y:Nat->Prop}{s:Stp}
theorem TdJ.call (h:TdJ B X w q ra most t C xs k v wr rs Y c)(b:TdS B X w most t C xs)(m:xs[k]? =some s)(P:k<xs.length)(g:Below wr wr wa):Calls prog 11 #[.pointer q,bN s.k s.p s.n s.r.a s.r.l.length s.r.cap] wa (DoR B (λj=>Y j\/(wr<=j/\j<wa)) wa q ra most (gQ most t (xs.take (k+1))) (C+(k+1)*900) (aV most (gQ most t (xs.take k)) s.k s.p s.n s.r.l).code (aV most (gQ most t (xs.take k)) s.k s.p s.n s.r.l).n (aV most (gQ most t (xs.take k)) s.k s.p s.n s.r.l).d (aV most (gQ most t (xs.take k)) s.k s.p s.n s.r.l).l):=by
 obtain⟨H,I,o,J,K,L⟩:=b.ok s (aR5 m);have A:=at1 (most:=most) (xs.take k) t b.t;have O:=b.m9;have i:=b.len;have y:=b.c;have M:=h.cb;have N:=ax6 (t:=gQ most t (xs.take k)) (k:=s.k) (n:=s.n) (d:=s.r.l) E K;have D:=h.st.le;have f:Below B w wr:=h.chg.below (λj e=>e.1) b.le;have x:=(b.tab.below f b.tl).below' g;rw[ad8 m];refine(Bk (h.st.less g (λj e=>e)) x b.tl ((h.chg.reads H o).below g) I (λ_ u e G=>o u e (cJ (λj z=>Ei (h.xy j z)) G)) J b.m0 E A E E L).mono ?_;intro e w' F;exact F.up E
theorem TdJ.push {m w2 I:World}(h:TdJ B X w q ra most t C xs k v wr rs Y c)(hs:xs[k]? =some s)(Q:Below wr wr wa){g i:Option Addr}{J pc u K:Nat}{o:StR}(ho:o=aV most (gQ most t (xs.take k)) s.k s.p s.n s.r.l)(h1:Reads m .u8 g o.d)(h2:Reads m .i64 i o.l)(h3:∃c,c<=C+(k+1)*900/\StT B (λj=>(Y j\/(wr.heap.size<=j/\j<wa.heap.size))\/bM g j\/bM i j) m q ra most (gQ most t (xs.take (k+1))) c)(N:Chg (exT B (λj=>Y j\/(wr.heap.size<=j/\j<wa.heap.size))) wa m)(h5:∀j,bM g j\/bM i j->wa.heap.size<=j)(A:Below m m w2)(h7:I.ownsRow w 38 4 (.slice u (k+1) K) (k+1) (rs.flatMap RsR.cells++RsR.cells ⟨o,g,J,i,pc⟩))(O:w2.grownBy I v.ownBlock)(P:v.ownBlock=some u\/w2<=u)(M:u<I):TdI B X w q ra most t C xs (k+1) (.slice u (k+1) K) I:=by
 obtain⟨c',R,F⟩:=h3;have hB:=h.st.le;have s1:=Q.size;have s2:=N.size;have s3:=A.size;have s4:=O.size;have T:∀j,v.ownBlock=some j->j<wr.heap.size:=λj a=>(h.own.lt j a).2;have y:Chg (λj=>v.ownBlock=some j) w2 I:=Chg.refl.grown O (λj e=>Ei e);have G:=F.below A;have H:=G.aside y (λj z _ b=>z.2 (Ei (Ei (h.vy j b))));have f:∀j,Value.ownBlock (.slice u (k+1) K)=some j->u=j:=λj e=>by
  have e:some u=some j:=e;injection e
 refine⟨rs++[⟨o,g,J,i,pc⟩],_,c',⟨by rw[aP3,h.len];rfl,by rw[aQ2,h.told,ad7 hs,ho];rfl,by rw[aN2];simpa using h7,λj a=>Ei (Ei (Ei (h.xy j a))),λj a=>?_,λr D=>?_,R,H,?_⟩⟩
 ·obtain rfl:=f j a;exact P.elim (λe=>Ei (Ei (Ei (h.vy _ e)))) (λe=>Ej ⟨e,M⟩)
 ·rcases aR0.1 D with D | D
  ·have U:=(h.ok r D).chg (v':=v) (Z:=Y) (Chg.of_below (S:=λ_=>False) Q) (λ_ _ _ e=>e) (λ_ e=>e) (λ_ _ e=>e);have k2:=U.chg (v':=v) (Z:=Y) N (λj z _ b=>b.2 (Ei z)) (λ_ e=>e) (λ_ _ e=>e);have V:=k2.chg (v':=v) (Z:=Y) (Chg.of_below (S:=λ_=>False) A) (λ_ _ _ e=>e) (λ_ e=>e) (λ_ _ e=>e);exact V.chg y (λj _ b x=>b x) (λj e=>Ei (Ei (Ei e))) (λj z b x=>by
    have L:=f j x
    subst L
    exact P.elim b (λe=>E))
  ·obtain rfl:r=⟨o,g,J,i,pc⟩:=by simpa using D
   have W:∀j,bM g j\/bM i j->j<m.heap.size/\v.ownBlock≠some j:=λj a=>⟨F.xlt (Ej a),λe=>by have :=T j e;have :=h5 j a;omega⟩;have U:RsOk m (λj=>bM g j\/bM i j) v ⟨o,g,J,i,pc⟩:=⟨h1,h2,λj a=>⟨a,(W j a).1,(W j a).2⟩⟩;have V:=U.chg (v':=v) (Z:=λj=>bM g j\/bM i j) (Chg.of_below (S:=λ_=>False) A) (λ_ _ _ e=>e) (λ_ e=>e) (λ_ _ e=>e);exact V.chg y (λj _ b x=>b x) (λj e=>Ei (Ej e)) (λj z b x=>by
    have L:=f j x
    subst L
    exact P.elim b (λe=>E))
 ·have c1:Chg (exT B X) wr wa:=Chg.of_below Q;have c2:Chg (exT B X) wa m:=N.mono (λj e=>cJ (λj a=>Ei (h.xy j a)) e);have c3:Chg (exT B X) m w2:=Chg.of_below A;have c4:=((h.chg.trans c1 (λ_ e=>Ei e)).trans c2 (λ_ e=>Ei e)).trans c3 (λ_ e=>Ei e);exact c4.grown O (λj e=>Ej (h.own.lt j e).1)
end
theorem Vx(h:StT B X w q ra most t c){a:Option Addr}{cap:Nat}{xs:List Stp}(hS:RdS w a xs)(V:∀ad,a=some ad->¬exT B X ad.block)(J:TdS B X w most t c xs):Calls prog 51 #[.func (.func 11) #[.pointer q] #[], .slice a xs.length cap] w λe w'=>∃v,e= .returned v/\TdI B X w q ra most t c xs xs.length v w':=by
 have H:=θ h;have HS:=θ hS;have a1:=θ V;have a5:=J.len;have a0:=θ J;have eg:∀y w,(callFunc 11 y).run prog w= .ok (.enter 11 y) w:=enters_of func11 Ek rfl;clear h hS V J;go_in;go_wp2;go_loopw [5,10] (λv i wr=>∃k:Nat,k<=xs.length/\i= .int .i64 k/\TdI B X w q ra most t c xs k v wr) (λ_ i _=>xs.length-(intOf i).toNat);exact⟨0,aY1 _,rfl,[],X,c,⟨rfl,rfl,bb2 _ _ _ _,λj e=>e,λj e=>by simp[Value.ownBlock]at e,λr hr=>by simp at hr,E,H.o,Chg.refl⟩⟩;as_aux_lemma=>
  obtain⟨k,hk,rfl,rs,Y,c1,F⟩:=hrel;by_cases x:k<xs.length
  ·obtain⟨s,hs⟩:∃s,xs[k]? =some s:=⟨_,aO0 x⟩;obtain⟨b,a6,rfl,a3,g⟩:=(HS.o.chg F.chg a1.o) k x;obtain⟨s0,s1,s2,s3⟩:=g k x;rw[hs]at s0 s1 s2 s3;simp only[aY3]at s0 s1 s2 s3;have k0:(0:Int)<=(k:Int):=E;have k1:(k:Int)<(xs.length:Int):=E;have O:=θ F;have G:=aB wr (.cells #[s.k,s.p,s.n, .slice s.r.a s.r.l.length s.r.cap] 34);have HD:=θ (F.call a0.o hs x G);have D:=θ G;have a2:=θ hs;clear F g G hs;go_wp2_with fail;clear s0 s1 s2 s3;generalize wr.alloc (.cells #[s.k,s.p,s.n, .slice s.r.a s.r.l.length s.r.cap] 34)=wa at *;refine HD.o.mono ?_;rintro e N ⟨da,dc,pa,pc,rfl,R,S,W,M,Z⟩;obtain⟨o,T⟩:∃o,o=aV most (gQ most t (xs.take k)) s.k s.p s.n s.r.l:=⟨_,rfl⟩;rw[<-T]at R S⊢;have HF:=θ (And.intro T (And.intro R (And.intro S (And.intro W (And.intro M Z)))));have f:N.ownsRow w.heap.size 38 4 u5 k (rs.flatMap RsR.cells):=M.own (fE O.o.own D.o) (λj e1 e2=>e2.2 (Ei (O.o.vy j e1)));have a4:w<=N.heap.size:=by have :=M.size;have :=D.o.size;have :=O.o.chg.size;omega
   clear HD T R S W M Z;obtain⟨d,hd⟩:=Ey o.d.length;obtain⟨l,hl⟩:=Ey o.l.length;obtain⟨oc,I⟩:=Ey o.code;obtain⟨n,K⟩:=Ey o.n;have P:Hid (RsR.cells ⟨o,da,dc,pa,pc⟩=[.int .i64 oc, .int .i64 n, .slice da d dc, .slice pa l pc]):=θ (by unfold RsR.cells;rw[hd,hl,I,K]);rw[hd,hl,I,K];clear hd hl I K;obtain⟨ys,L⟩:=Ey (rs.flatMap RsR.cells);rw[L]at f;have Q:=θ L;clear L;go_wp2_with (at_builtin;refine yI rfl _ _ 59 rfl w.heap.size 38 Tryz.infoRes Tryz.underlying59 rfl Ed _ _ _ rfl (bb1 f _) N 1 [.int .i64 oc, .int .i64 n, .slice da d dc, .slice pa l pc] rfl rfl ?hus ?h1 ?c1 ?c2 ?c3 ?_);case hus=>
    intro j u hj;rw[bb8 _ N j _ _ _ (bc6 N _)];simpa using hj
   case h1=>intro u hu;simp at hu;rcases hu with rfl | rfl | rfl | rfl<;>rfl
   case c1=>unfold maxLen;omega
   case c2=>omega
   case c3=>simp;omega
   intro gg cp w4 A m U z;have HN:Hid (TdI B X w q ra most t c xs (k+1) (.slice gg (k+1) cp) w4):=θ (by
    obtain⟨T,R,S,W,M,Z⟩:=HF.o
    exact O.o.push a2.o D.o T R S W M Z (aB N _) (by rw[Q.o,P.o];exact A) m (U.imp id (λe=>by simpa using e)) z)
   clear A m U z f HF O Q P;go_wp2;go_roundw;exact⟨k+1,E,by go_num,HN.o⟩;simp[intOf];omega
  ·obtain rfl:k=xs.length:=E;obtain⟨va,vc,rfl,_,_⟩:=aD F.own;have HH:Hid (TdI B X w q ra most t c xs xs.length (.slice va xs.length vc) wr):=θ ⟨rs,Y,c1,F⟩;clear F;go_wp2;go_ret;exact⟨_,rfl,HH.o⟩
theorem ae1(h:StT B X w q ra most t c){a:Option Addr}{cap:Nat}{xs:List Stp}(l:RdS w a xs)(d:∀g,a=some g->¬exT B X g.block)(b:TdS B X w most t c xs):Calls prog 22 #[.pointer q, .slice a xs.length cap] w λe w'=>∃v,e= .returned v/\TdI B X w q ra most t c xs xs.length v w':=by
 have f:=θ (Vx h l d b (cap:=cap));clear h l d b;go_in;go_wp2_with fail;refine f.o.mono ?_;rintro e w' ⟨v,rfl,i⟩;have m:=θ i;obtain⟨rs,Y,n,j⟩:=i;obtain⟨p,r,rfl,_,_⟩:=aD j.own;clear j f;go_wp2;go_ret;exact⟨_,rfl,m.o⟩
end
section
variable {w w':World}{b:Nat}{most:Int}{t:List Int}
theorem sJ{w:World}{a:Option Addr}{c:Nat}{xs:List Int}(h:Reads w .u8 a xs):(convert 32 9 (.slice a xs.length c)).run prog w= .ok (.string (strOfNums xs)) w:=Kl (P:=prog) aZ9 ba2 ba3 h
end
theorem tY{w:World}{k:IntKind}{a:Option Addr}{d:List Int}(h:Reads w k a d)(n:Nat):Reads w k a (d.take n):=λi l=>by
 rw[aQ1]at l;obtain⟨b,c,e,f,g⟩:=h i E;refine⟨b,c,e,f,λj m=>?_⟩;rw[aQ1]at m;rw[g j E,aO6,bd0 E]
theorem Jv{w:World}{k:IntKind}{a:Option Addr}{c:Nat}{d:List Int}(h:ArgI k w a c d)(g:0<d.length):∀f,a=some f->f.block<w:=λf e=>by
 obtain⟨b,j,rfl,i,_⟩:=h.reads 0 g;injection e with e
 subst e;exact i
section
variable {B:Nat}{Z Z':Nat->Prop}{w0 w w':World}{q b ra:Nat}{most:Int}{ts t:List Int}{C C':Nat}
end
def tK(xs:List Stp)(m:Int):Bool:=xs.all (λs=>decide (s.r.l.length<=60))&&decide ((xs.length:Int)<=m)
theorem Rx{w:World}{a:Option Addr}{cap:Nat}{c:List Stp}(h:RdS w a c)(q:c.length<=maxLen)(m:Int):Calls prog 8 #[.slice a c.length cap,m] w λe B=>e= .returned (.bool (tK c m))/\w=B:=by
 have u:=θ h;unfold maxLen at q;clear h;go_in;go_wp2;go_loopw [5] (λv wr=>∃k:Nat,k<=c.length/\v= .int .i64 k/\(c.take k).all (λs=>decide (s.r.l.length<=60))=true/\wr=w) (λv _=>c.length-(intOf v).toNat);exact⟨0,aY1 _,rfl,rfl,rfl⟩;as_aux_lemma=>
  obtain⟨k,C,rfl,g,rfl⟩:=hrel;have j:=θ g;clear g;by_cases i:k<c.length
  ·obtain⟨s,p⟩:∃s,c[k]? =some s:=⟨_,aO0 i⟩;obtain⟨b,A,rfl,z,d⟩:=u.o k i;obtain⟨_,_,_,t⟩:=d k i;rw[p]at t;simp only[aY3]at t;have D:(0:Int)<=(k:Int):=E;have F:(k:Int)<(c.length:Int):=E;clear d;by_cases n:s.r.l.length<=60
   ·have f:Hid ((c.take (k+1)).all (λs=>decide (s.r.l.length<=60))=true):=θ (by
     rw[aT5,p,List.all_append,j.o];simpa using n)
    have x:decide (60<(s.r.l.length:Int))=false:=bc0 E;have y:decide (60<s.r.l.length)=false:=bc0 E;clear p;go_wp2;go_roundw;exact⟨k+1,E,by go_num,f.o,trivial⟩;simp[intOf];omega
   ·have f:Hid (tK c m=false):=θ (by
     unfold tK
     have :c.all (λs=>decide (s.r.l.length<=60))=false:=by
      rw[List.all_eq_false]
      exact⟨s,List.mem_of_getElem? p,by simpa using n⟩
     rw[this];rfl)
    have x:decide (60<(s.r.l.length:Int))=true:=bc2 E;have y:decide (60<s.r.l.length)=true:=bc2 E;clear p;go_wp2;go_ret;rw[f.o];exact Er
  ·obtain rfl:k=c.length:=E;have f:Hid (tK c m=decide ((c.length:Int)<=m)):=θ (by
    unfold tK
    have :=j.o
    rw[aT8]at this
    rw[this];rfl)
   go_wp2;go_ret;rw[f.o];exact Er
theorem Yv{c:Type}(f:c->List Value)(b:∀x,(f x).length=4):∀(a:List c) (i:Nat) (o:c) (j:Nat),a[i]? =some o->j<4->(a.flatMap f)[i*4+j]? =(f o)[j]?
 | [],i,o,j,h,_=>by simp at h
 | y::a,0,o,j,h,hj=>by
  simp only[List.getElem?_cons_zero,aY7]at h;subst h;rw[aN3,aN6 (by rw[b];omega),aY2,aY0]
 | y::a,i+1,o,j,h,hj=>by
  rw[aN8]at h;rw[aN3,aN7 (by rw[b];omega),b,show (i+1)*4+j-4=i*4+j by omega];exact Yv f b a i o j h hj
theorem Fv{w:World}{f n c:Nat}{a:Option Addr}{e:List RsR}(h:w.ownsRow f 38 4 (.slice a n c) n (e.flatMap RsR.cells)){i:Nat}{r:RsR}(m:e[i]? =some r):∃g:Nat,a=some ⟨g,0,none⟩/\g<w/\w.cell? (g,i*4)=r.o.code/\w.cell? (g,i*4+1)=r.o.n/\w.cell? (g,i*4+2)=some (.slice r.da r.o.d.length r.dc)/\w.cell? (g,i*4+3)=some (.slice r.pa r.o.l.length r.pc):=by
 have p:=(aO2.1 m).1;obtain⟨C,t⟩:=h;have A:(e.flatMap RsR.cells).length=e.length*4:=by
  clear m C t p;induction e with
  | nil=>rfl
  | cons x e H=>rw[aN3,aP3,H,show x.cells.length=4 from rfl,aP4];omega
 rcases t with ⟨_,I⟩ | ⟨g,v,k,G,L,s,z,M,N,D⟩
 ·omega
 ·injection G with y J K
  have b:∀j u,j<4->r.cells[j]? =some u->w.cell? (g,i*4+j)=some u:=by
   intro j u B F;have q:=Yv RsR.cells (λ_=>rfl) e i r j m B;rw[F,<-D,aO6,bd0 E]at q;rw[bb8 w g (i*4+j) k _ (0,0) s];simpa using q
  exact⟨g,y,(aJ2.1 s).1,b 0 _ E rfl,b 1 _ E rfl,b 2 _ E rfl,b 3 _ E rfl⟩
theorem Tr(w:World)(C:Array Value)(n c g:Nat)(a:g=w.heap.size):(convert 32 32 (.slice g n c)).run prog (w.alloc (.cells C 5))= .ok (.slice g n c) (w.alloc (.cells C 5 (C.size,C.size+1))):=by
 subst a;exact Lib.run_convert_bytes_const (P:=prog) w 32 5 C n c aZ9 ba2
def Eo(a0 a1 a2:Option Addr):List Stp:=[⟨1,0,0,⟨a0,6,[98,97,110,97,110,97]⟩⟩,⟨6,0,0,⟨a1,3,[97,110,97]⟩⟩,⟨7,0,0,⟨a2,3,[97,110,97]⟩⟩,⟨5,1,3,⟨none,0,[]⟩⟩]
theorem aH9(a b c:Option Addr):gQ 20 [] (Eo a b c)=[98,97,110,97,110,97]:=Ek
theorem aH8(a b c:Option Addr):xR 20 [] (Eo a b c)=[⟨[98,97,110,97,110,97],0,0,[],[]⟩,⟨[98,97,110,97,110,97],0,2,[],[]⟩,⟨[98,97,110,97,110,97],0,2,[],[1,3]⟩,⟨[98,97,110,97,110,97],0,0,[97,110,97],[]⟩]:=Ek
theorem qH{w:World}{b:Nat}{C:Array Value}{e:TypeId}{c:Nat×Nat}{k:IntKind}{a:List Int}(h:w.heap[b]? =some (.cells C e c))(f:C=(a.map (Value.int k)).toArray):Reads w k (some (b,0)) a:=λi g=>
 ⟨b,0,rfl,(aJ2.1 h).1,λj d=>by
  rw[aY0,bb8 w b j _ _ _ h,f]
  simp[d]⟩
def gU:Obj:= .cells #[.int .u8 98, .int .u8 97, .int .u8 110, .int .u8 97, .int .u8 110, .int .u8 97] 5 (6,7)
def eT:Obj:= .cells #[.int .u8 97, .int .u8 110, .int .u8 97] 5 (3,4)
def Em(s:Nat):Obj:= .cells #[.int .i64 1, .int .i64 0, .int .i64 0, .slice s 6 6, .int .i64 6, .int .i64 0, .int .i64 0, .slice (s+1,0) 3 3, .int .i64 7, .int .i64 0, .int .i64 0, .slice (s+1+1,0) 3 3, .int .i64 5, .int .i64 1, .int .i64 3, .slice none 0 0] 34
def eB(w:World):World:=(((w.alloc gU).alloc eT).alloc eT).alloc (Em w)
def iN(s:Nat):List Stp:=Eo (some (s,0)) (some (s+1,0)) (some (s+1+1,0))
theorem Rd(w:World):Below w w (eB w)/\(eB w).heap.size=w.heap.size+4/\(eB w).heap[w.heap.size]? =some gU/\(eB w).heap[w.heap.size+1]? =some eT/\(eB w).heap[w.heap.size+1+1]? =some eT/\(eB w).heap[w.heap.size+1+1+1]? =some (Em w):=by
 have p:=aB w gU;have f:=aB (w.alloc gU) eT;have c:=aB ((w.alloc gU).alloc eT) eT;have a:=aB (((w.alloc gU).alloc eT).alloc eT) (Em w);have l:(w.alloc gU).heap.size=w.heap.size+1:=bb3 _ _;have m:((w.alloc gU).alloc eT).heap.size=w.heap.size+1+1:=by rw[bb3,l]
 have n:(((w.alloc gU).alloc eT).alloc eT).heap.size=w.heap.size+1+1+1:=by rw[bb3,m]
 have k:∀{W d:World} {b:Nat} {o:Obj},W.heap[b]? =some o->Below W W d->d.heap[b]? =some o:=λh q=>(Chg.of_below (S:=λ_=>False) q).heap h (λe=>e);have r:=bc6 w gU;have g:=bc6 (w.alloc gU) eT;have i:=bc6 ((w.alloc gU).alloc eT) eT;have j:=bc6 (((w.alloc gU).alloc eT).alloc eT) (Em w);rw[l]at g;rw[m]at i;rw[n]at j;refine⟨p.trans ((f.mono E).trans ((c.mono E).trans (a.mono E))),?_,k (k (k r f) c) a,k (k g c) a,k i a,j⟩;unfold eB;rw[bb3,n]
theorem zT(w:World)(hT:BitTab w):Calls prog 9 #[] w λe w'=>e= .returned (.bool true)/\Below w.heap.size w w':=by
 have HN:=θ (rK (most:=20) (ra:=4) E E E E w);have HT:=θ hT;clear hT;have kc:=λ(w:World) (C:Array Value) (n c g:Nat) (hg:g=w.heap.size)=>Tr w C n c g hg;go_enter func9,ntmps9;go_wp2_with fail;refine HN.o.mono ?_;rintro e d ⟨q,rfl,F,a0⟩;have V:=θ F;have y:=θ a0;clear F a0 HN;go_wp2_with fail;change Calls _ _ #[_, .slice _ (iN d.heap.size).length 4] (eB d) _;obtain⟨z,b0,h0,h1,h2,h3⟩:=Rd d;have a2:Reads (eB d) .u8 (some ⟨d.heap.size,0,none⟩) [98,97,110,97,110,97]:=qH h0 rfl;have a3:Reads (eB d) .u8 (some ⟨d.heap.size+1,0,none⟩) [97,110,97]:=qH h1 rfl;have a4:Reads (eB d) .u8 (some ⟨d.heap.size+1+1,0,none⟩) [97,110,97]:=qH h2 rfl;have K:=(aJ2.1 h3).1;have a5:RdS (eB d) (some ⟨d.heap.size+1+1+1,0,none⟩) (iN d.heap.size):=λi hi=>⟨_,0,rfl,K,λj hj=>by
  rw[aY0]
  have c:=λn=>bb8 (eB d) (d.heap.size+1+1+1) n _ _ _ h3
  rw[c,c,c,c]
  match j,hj with
  | 0,_=>exact⟨rfl,rfl,rfl,rfl⟩
  | 1,_=>exact⟨rfl,rfl,rfl,rfl⟩
  | 2,_=>exact⟨rfl,rfl,rfl,rfl⟩
  | 3,_=>exact⟨rfl,rfl,rfl,rfl⟩⟩
 have hX:∀b n:Nat,b=d.heap.size+n->n<4->∀B,¬exT B (λj=>d.heap.size<=j/\j<(eB d).heap.size) b:=λb n e hn B I=>I.2 ⟨E,E⟩;have F:=V.o.less z (X':=λj=>d.heap.size<=j/\j<(eB d).heap.size) (λj e=>Ej e);have Q:∀(k p n:Int) (b m Z:Nat) (l:List Int),Reads (eB d) .u8 (some ⟨b,0,none⟩) l->b=d.heap.size+m->m<4->aS l->l.length<=20->k≠8->∀s:Stp,s=⟨k,p,n,⟨some ⟨b,0,none⟩,Z,l⟩⟩->
   Reads (eB d) .u8 s.r.a s.r.l/\(s.r.a=none->s.r.l.length=0/\s.r.cap=0)/\(∀W,s.r.a=some W->¬exT w.heap.size (λj=>d.heap.size<=j/\j<(eB d).heap.size) W.block)/\aS s.r.l/\s.r.l.length<=20/\s.k≠8:=by
  intro k p n b m Z l h1 h2 h3 h4 h5 h6 s e;subst e;exact⟨h1,(λe=>nomatch e),(λW e=>by cases e;exact hX _ m h2 h3 _),h4,h5,h6⟩
 have a6:TdS w.heap.size (λj=>d.heap.size<=j/\j<(eB d).heap.size) (eB d) 20 [] 1 (iN d.heap.size):=by
  refine⟨λs hs=>?_,(HT.o.below' y.o).below' z,HT.o.lt,by have :=y.o.size;have :=z.size;omega,E,E,Es,by simp[iN,Eo],E⟩;simp only[iN,Eo,aR1,aS5,bd7]at hs;rcases hs with e | e | e | e
  ·exact Q 1 0 0 _ 0 6 _ a2 rfl E (by intro x I;simp at I;omega) Ed Ed s e
  ·exact Q 6 0 0 _ 1 3 _ a3 rfl E (by intro x I;simp at I;omega) Ed Ed s e
  ·exact Q 7 0 0 _ 2 3 _ a4 rfl E (by intro x I;simp at I;omega) Ed Ed s e
  ·subst e;exact⟨Reads.nil,(λ_=>⟨rfl,rfl⟩),(λW e=>nomatch e),(λx I=>nomatch I),Ed,Ed⟩
 have J:=θ (ae1 F a5 (cap:=4) (λW e=>by cases e;exact hX _ 3 rfl E _) a6);have N:Hid (Below w.heap.size w (eB d)):=θ (y.o.trans (z.mono y.o.size));have U:Hid (w.heap.size<=(eB d).heap.size):=θ N.o.size;clear z b0 h0 h1 h2 h3 a2 a3 a4 K a5 hX F a6 kc HT V y;generalize eB d=w2 at *;generalize (λj=>d.heap.size<=j/\j<w2.heap.size)=X at *;refine J.o.mono ?_;rintro e M ⟨v,rfl,rs,Y,c,H⟩;obtain⟨a,cp,rfl,_,_⟩:=aD H.own;have f:=H.told;rw[show (iN d.heap.size).take (iN d.heap.size).length=iN d.heap.size from aT8]at f;unfold iN at f;rw[aH8]at f;obtain⟨r0,R,L,u,rfl,e0,e1,e2,e3⟩:∃r0 R L u:RsR,rs=[r0,R,L,u]/\r0.o=⟨[98,97,110,97,110,97],0,0,[],[]⟩/\R.o=⟨[98,97,110,97,110,97],0,2,[],[]⟩/\L.o=⟨[98,97,110,97,110,97],0,2,[],[1,3]⟩/\u.o=⟨[98,97,110,97,110,97],0,0,[97,110,97],[]⟩:=by
  match rs,f with
  | [r0,R,L,u],h=>simp only[aQ4,aQ7,List.cons.injEq,bb4]at h;exact⟨r0,R,L,u,rfl,h⟩
 obtain⟨g,rfl,hg,_,c1,_,_⟩:=Fv H.own (i:=1) (r:=R) rfl;obtain⟨_,A,_,_,_,_,c2⟩:=Fv H.own (i:=2) (r:=L) rfl;injection A with A
 injection A with A _ _
 subst A;obtain⟨_,D,_,_,_,c3,_⟩:=Fv H.own (i:=3) (r:=u) rfl;injection D with D
 injection D with D _ _
 subst D;have k2:=(H.ok L Es).2.1;have k3:=(H.ok u Es).1;rw[e1]at c1;rw[e2]at c2 k2;rw[e3]at c3 k3;obtain⟨b2,G,a1,a9,O⟩:=k2.some Ed;have p0:=O 0 Ed;have p1:=O 1 Ed;rw[a1]at c2;have kv:=Kl (P:=prog) (src:=32) (dst:=9) (c:=u.dc) aZ9 ba2 ba3 k3;rw[show strOfNums [97,110,97]={data:=#[97,110,97]} by decide]at kv;have t:=H.st;rw[show (iN d.heap.size).take (iN d.heap.size).length=iN d.heap.size from aT8]at t;unfold iN at t;rw[aH9]at t;have T:=θ (Kq t {data:=#[98,97,110,97,110,97]} Ed Ed);have a7:Hid (Below w.heap.size w M):=θ (N.o.trans (H.chg.below (λj e=>e.1) U.o));have S:=θ t.le;have d1:M.cell? ⟨g,5,none⟩=some (.int .i64 2):=c1;have d2:M.cell? ⟨g,11,none⟩=some (.slice (some ⟨b2,G,none⟩) 2 L.pc):=c2;have d3:M.cell? ⟨g,14,none⟩=some (.slice u.da 3 u.dc):=c3;have d4:M.cell? ⟨b2,G,none⟩=some (.int .i64 1):=p0;have d5:M.cell? ⟨b2,G+1,none⟩=some (.int .i64 3):=p1;have b1:(convert 32 9 (.slice u.da 3 u.dc)).run prog M= .ok (.string {data:=#[97,110,97]}) M:=kv;rw[show (iN d.heap.size).length=4 from rfl];clear f H c1 c2 c3 p0 p1 O kv t e0 e1 e2 e3 k2 k3 a1 hg a9 J U N;go_wp2_with fail;refine T.o.mono ?_;rintro e w4 ⟨rfl,_,hc⟩;have a8:Hid (Below w.heap.size w w4):=θ (a7.o.trans (bZ hc S.o));clear hc T d1 d2 d3 d4 d5 b1;go_wp2_with fail;go_ret;exact⟨rfl,a8.o⟩
theorem RdS.below {w w':World}{a:Option Addr}{c:List Stp}(h:RdS w a c)(d:Below w w w'):RdS w' a c:=h.chg (S:=λ_=>False) (Chg.of_below d) (λ_ _ e=>e)
theorem Jt{w:World}{a:Option Addr}{c:Nat}{d:List Int}(h:ArgI .u8 w a c d):aS d:=λx g=>by
 obtain⟨i,f⟩:=aO4 g;have e:=h.wf i (aO2.1 f).1;rw[f]at e;simp[Lit.wf,IntKind.min,IntKind.max,IntKind.signed,IntKind.bits]at e;omega
section
variable {B:Nat}{Z:Nat->Prop}{w0 w w':World}{q b ra:Nat}{most:Int}{ts t:List Int}{C:Nat}
end
section
variable {B:Nat}{X:Nat->Prop}{w w':World}{q ra m:Nat}{t:List Int}{c:Nat}
theorem vF(h:StT B X w q ra (m:Int) t c)(a:BitTab w)(p:0<B){k at_ n:Int}{da:Option Addr}{dc:Nat}{d:List Int}(o:Reads w .u8 da d)(b:da=none->d.length=0/\dc=0)(i:0<d.length->∀r,da=some r->¬exT B X r.block)(f:aS d)(x:m<=900)(v:t.length<=m)(g:d.length<=10000)(u:c+dG t k n d+t.length+d.length+10<=1000000):Calls prog 11 #[.pointer q,bN k at_ n da d.length dc] w (DoR B X w q ra m (aV m t k at_ n d).t (c+dG t k n d+t.length+1) (aV m t k at_ n d).code (aV m t k at_ n d).n (aV m t k at_ n d).d (aV m t k at_ n d).l):=by
 by_cases s:k=8
 ·subst s;have e:aV m t 8 at_ n d=⟨t,0,0,[],[]⟩:=rfl;rw[e];exact(Ql h v E E).mono (λe w' j=>j.up E)
 ·exact(Bk h a p o b i f E E E g u s).mono (λe w' j=>j.up E)
end
theorem Ao{w:World}{b:Nat}{f g h i:Value}{a:Act}{e:Ending->World->Prop}(o:a.tmps[6]?.getD undef= .pointer b)(r:a.defers=[])(d:w.heap[b]? =some (.cells #[f,g,h,i] 34 (0,0)))(p:e (.returned (.agg #[f,g,h,i])) w):bodyPost prog Tryz.f10 e .ret a w:=by
 have j:=bb8 w b 0 _ _ _ d;have k:=bb8 w b 1 _ _ _ d;have l:=bb8 w b 2 _ _ _ d;have n:=bb8 w b 3 _ _ _ d;show a.defers=[]/\∃v,(results Tryz.f10 a.tmps).run prog w= .ok v w/\e (.returned v) w;refine⟨r,_,?_,p⟩;simp[results,Tryz.f10,go_sem,o,j,k,l,n]
theorem Aq{w:World}(A C:Obj):Below w w ((w.alloc A).alloc C):=((aJ6 _ _).alloc (aV3 _) _).alloc Es _
theorem Ap{w:World}(A C:Obj):((w.alloc A).alloc C).heap[w.heap.size+1]? =some C:=by
 have :=bc6 (w.alloc A) C;rwa[bb3]at this
theorem Lo{k at_ n:Int}{da:Option Addr}{dn d n0 i:Nat}(w:World)(K:n0<=10000)(J:i<=10000)(j:dn<=d)(l:dn<=10000):Calls prog 10 #[bN k at_ n da dn d,n0,i] w λe w'=>∃G f H a,e= .returned (bN G f H da a d)/\a<=dn/\Below w w w':=by
 unfold bN;by_cases I:i%7=6
 ·have o:(i:Int).tmod 7=6:=by rw[aK4 E];omega
  go_in;go_wp2_with fail;exact Ao rfl rfl (Ap _ _) ⟨k,at_,n,dn,rfl,aV3 _,Aq _ _⟩
 ·have o:((i:Int).tmod 7==6)=false:=by rw[aK4 E,bb6];omega
  obtain⟨u,r,s,L⟩:=Gd k;obtain⟨v,y,z,M⟩:=Gd at_;obtain⟨x,D,F,N⟩:=Gd n;have A:IntKind.i64.wrap ((n0:Int)+1)=(n0:Int)+1:=aK8 _ E;have C:IntKind.u64.wrap ((n0:Int)+1)=(n0:Int)+1:=by rw[aK7];omega
  have p:((n0:Int)+1==0)=false:=by rw[bb6];omega
  by_cases b:6<dn
  ·have g:decide ((6:Int)<(dn:Int))=true:=bc2 E;have h:decide (6<dn)=true:=bc2 b;go_in;go_wp2_with fail;exact Ao rfl rfl (Ap _ _) ⟨_,_,_,6,rfl,E,Aq _ _⟩
  ·have g:decide ((6:Int)<(dn:Int))=false:=bc0 E;have h:decide (6<dn)=false:=bc0 b;go_in;go_wp2_with fail;exact Ao rfl rfl (Ap _ _) ⟨_,_,_,dn,rfl,aV3 _,Aq _ _⟩
end
end Go.Proofs.YtchinbgemenenaaGreatDoor
