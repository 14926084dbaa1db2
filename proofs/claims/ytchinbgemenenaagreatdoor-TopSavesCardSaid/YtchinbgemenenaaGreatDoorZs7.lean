/- Lemmas and contracts under the claims of this seat. No condition. -/
import Derived.Test.YtchinbgemenenaaGreatDoorRows
import Derived.Lib.LaidTab
import Derived.Lay
import Derived.LaidSub
import Derived.SevenTiedAt
import Derived.Test.YtchinbgemenenaaGreatDoorZs6
namespace Go.Proofs.YtchinbgemenenaaGreatDoor
open Go.Proofs.Tryz
set_option linter.unusedVariables false
set_option linter.unusedSimpArgs false
set_option maxRecDepth 100000
set_option maxHeartbeats 12800000
section
open Go.RowKit
theorem xor_u8{a b:Nat}(f:a<256)(g:b<256):bits .xor .u8 (a:Int) (b:Int)=((a^^^b:Nat):Int):=by
 have c:((a:Int)%2^8).toNat=a:=E;have d:((b:Int)%2^8).toNat=b:=E;have e:a^^^b<2^8:=Nat.xor_lt_two_pow f g;show IntKind.u8.wrap (((((a:Int)%2^8).toNat^^^((b:Int)%2^8).toNat:Nat)):Int)=_;rw[c,d,IntKind.wrap_u8];generalize a^^^b=q at e⊢;omega
theorem Jk{s:Nat}(h:s<2^32):bits .xor .u32 IntKind.u32.max (s:Int)=((4294967295-s:Nat):Int):=by
 have e:(2^32-1)^^^s=2^32-(s+1):=by
  apply Nat.eq_of_testBit_eq;intro i;rw[Nat.testBit_xor,Nat.testBit_two_pow_sub_one,aX8 h];by_cases b:i<32
  ·simp[b]
  ·have :s.testBit i=false:=aX4 (aV7 h (aW7 E E));simp[b,this]
 have a:=yJ (show 2^32-1<2^32 by decide) h;rw[e]at a;rw[show IntKind.u32.max=((2^32-1:Nat):Int) by decide,a];omega
theorem Ym{l:List Int}{k c:Nat}(h:l[k]? =some (c:Int))(s:Nat):gM (l.take (k+1)) s=dW 8 ((gM (l.take k) s%256)^^^c)^^^(gM (l.take k) s/256):=by
 rw[aT5,h];exact Gs _ _ _
theorem Pg{l:List Int}(S:Option Addr)(pc:Nat)(w:World)(R:Reads w .u8 S l)(P:∀c∈l,0<=c/\c<256)(a1:l.length<=1000000000):Calls prog 133 #[.int .u32 0, .slice S l.length pc] w (λe w'=>e= .returned (.int .u32 (cQ l:Nat))/\Below w w w'):=by
 have X:=θ (Ko w);have W:=θ R;have L:=θ P;have C:=To;generalize N:aI (λ_=>Value.int .u32 0) 256=V at *;have Y:=θ N;clear R P N;go_in;go_wp2_with fail;refine X.o.mono ?_;rintro e a ⟨rfl,O⟩;have D:=θ O;have M:Tab (a.alloc (.cells V.toArray 214)) a (λ_=>0):=by rw[<-Y.o];exact bc6 a _
 have K:=θ M;clear O M;go_wp2_with fail;rw[Ip K.o];simp only[Result.andThen];rw[Oper.upon_skip];have r:((a.alloc (.cells V.toArray 214)).setRow a gT).heap[a.heap.size]? =some (.cells gT 214 (0,0)):=setRow_heap _ a _ gT _ _ K.o;have q:Below w w ((a.alloc (.cells V.toArray 214)).setRow a gT):=vR (D.o.alloc D.o.size _) D.o.size gT;have F:=θ r;have n:=θ q;clear r q;generalize (a.alloc (.cells V.toArray 214)).setRow a gT=w2 at *;generalize a.heap.size=Q at *;clear C;go_wp2_with fail;rw[show bits .xor .u32 IntKind.u32.max 0=4294967295 from Jk (show 0<2^32 by decide)];go_loopw [0,7,13] (λs _ i wx=>∃k:Nat,k<=l.length/\i= .int .i64 k/\s= .int .u32 (gM (l.take k) 4294967295:Nat)/\wx=w2) (λ_ _ i _=>l.length-(intOf i).toNat);exact⟨0,aY1 _,rfl,rfl,rfl⟩;as_aux_lemma=>
  obtain⟨k,hk,rfl,rfl,rfl⟩:=hrel;have j:gM (l.take k) 4294967295<2^32:=Rv (λc t=>L.o c (aR7 t)) Ed;by_cases h:k<l.length
  ·obtain⟨b,J,rfl,G,z⟩:=W.o.some E;have f:=L.o _ (aP0 h);obtain⟨c,t⟩:=aK0 f.1;rw[t]at f;have g:l[k]? =some (c:Int):=by rw[aO0 h,t]
   have H:=(n.o.cell (p:=(b,J+k)) G).trans (z k h);rw[g,aY3]at H;have U:=θ (Ym g 4294967295);generalize gM (l.take k) 4294967295=x at *;have u:c<256:=E;have a2:(x:Int)%256=((x%256:Nat):Int):=E;have A:x%256<256:=aW2 _ E;have hd:(x:Int)/256=((x/256:Nat):Int):=E;have I:x/256<2^32:=E;generalize x%256=m at *;generalize x/256=d at *;have a3:=xor_u8 A u;have a4:m^^^c<2^8:=Nat.xor_lt_two_pow A u;generalize m^^^c=y at *;have B:=Ff 8 (show y<2^32 by omega);have a0:wr.cell? (Q,y)=some (.int .u32 (dW 8 y:Nat)):=by
    rw[bb8 wr Q y _ _ _ F.o,gT,aO7,dP E]
   have C:=yJ B I;rw[<-U.o]at C;generalize dW 8 y=v at *;have a5:(y:Int)<256:=E;have Z:=θ C;clear g z t f j C B;go_wp2_with fail;refine⟨⟨k+1,E,by first | rfl | go_num,by rw[Z.o],trivial⟩,?_⟩;simp[intOf];omega
  ·obtain rfl:k=l.length:=E;rw[aT8]at j⊢;have hn:=Jk j;have T:Hid (cQ l=4294967295-gM l 4294967295):=θ rfl;generalize gM l 4294967295=x at *;go_wp2;go_ret;rw[T.out];exact⟨rfl,n.o⟩
theorem Yo{l:List Int}(g:Option Addr)(pc:Nat)(m:Option Addr)(u:Nat)(w:World)(r:ReadsV w m [.slice g l.length pc])(k:Reads w .u8 g l)(j:∀c∈l,0<=c/\c<256)(f:l.length<=1000000000):Calls prog 70 #[.slice m 1 u] w (λe v=>e= .returned (.int .u32 (cQ l:Nat))/\Below w w v):=by
 obtain⟨b,t,rfl,a,h⟩:=r.some Es;have d:=h 0 _ rfl;rw[aU7]at d;have q:=θ (Pg g pc w k j f);clear h k j;generalize cQ l=z at *;go_in;go_wp2;go_loopw [3,5,8] (λs _ i n=>(s= .int .u32 0/\i= .int .i64 0/\n=w)\/(s= .int .u32 (z:Nat)/\i= .int .i64 1/\Below w w n)) (λ_ _ i _=>1-(intOf i).toNat);exact Ei ⟨rfl,rfl,rfl⟩;as_aux_lemma=>
  rcases hrel with ⟨rfl,rfl,rfl⟩ | ⟨rfl,rfl,a⟩
  ·go_wp2_with fail;refine q.o.mono ?_;rintro e x ⟨rfl,a⟩;have p:=θ a;clear a;go_wp2_with fail;exact⟨Ej ⟨rfl,rfl,p.o⟩,by simp[intOf]⟩
  ·go_wp2;go_ret;exact⟨rfl,a⟩
def shC(Q:Nat->Nat->Nat)(l k:Nat):List Value:=(List.range k).flatMap (λi=>[.pointer (Q l i,0), .int .i64 l, .int .i64 i])
theorem qO(Q:Nat->Nat->Nat)(l k:Nat):shC Q l (k+1)=shC Q l k++[.pointer (Q l k,0), .int .i64 l, .int .i64 k]:=by
 unfold shC;rw[aS9,aN2];simp
theorem Td(Q:Nat->Nat->Nat)(l k:Nat):(shC Q l k).length=k*3:=by
 induction k with
 | zero=>rfl
 | succ k a=>rw[qO,aP3,a];simp;omega
theorem Id{Q Q':Nat->Nat->Nat}{l k:Nat}(h:∀i,i<k->Q l i=Q' l i):shC Q l k=shC Q' l k:=by
 induction k with
 | zero=>rfl
 | succ k a=>rw[qO,qO,a (λi b=>h i E),h k E]
theorem aF9(Q:Nat->Nat->Nat)(l:Nat){i k:Nat}(h:i<k):(shC Q l k)[i*3]? =some (.pointer (Q l i,0))/\(shC Q l k)[i*3+1]? =some (.int .i64 l)/\(shC Q l k)[i*3+2]? =some (.int .i64 i):=by
 induction k with
 | zero=>omega
 | succ k f=>
  rw[qO];by_cases e:i=k
  ·subst e;have d:=Td Q l i;refine⟨?_,?_,?_⟩
   ·rw[aN7 E,d,aW9];rfl
   ·rw[aN7 E,d,show i*3+1-i*3=1 by omega];rfl
   ·rw[aN7 E,d,show i*3+2-i*3=2 by omega];rfl
  ·obtain⟨a,b,c⟩:=f E;have d:=Td Q l k;refine⟨?_,?_,?_⟩
   ·rw[aN6 E];exact a
   ·rw[aN6 E];exact b
   ·rw[aN6 E];exact c
def jT(V:Nat->Value)(n:Nat):Array Value:=#[V 0,V 1,V 2,V 3,V 4,V 5,V 6,V 7,V 8,n, .int .i64 0]
def cE(V:Nat->Value)(l:Nat)(v:Value):Nat->Value:=λl'=>if l'=l then v else V l'
def pZ(c:Nat->Nat)(l:Nat):Nat->Nat:=λl'=>if l'=l then c l+1 else c l'
theorem Zg(V:Nat->Value)(n:Nat){l:Nat}(h:l<9)(v:Value):(jT V n).setIfInBounds l v=jT (cE V l v) n:=by
 have :l=0\/l=1\/l=2\/l=3\/l=4\/l=5\/l=6\/l=7\/l=8:=E;rcases this with rfl | rfl | rfl | rfl | rfl | rfl | rfl | rfl | rfl<;>rfl
theorem Ha(V:Nat->Value)(n:Nat){l:Nat}(h:l<9):(jT V n)[l]? =some (V l):=by
 have :l=0\/l=1\/l=2\/l=3\/l=4\/l=5\/l=6\/l=7\/l=8:=E;rcases this with rfl | rfl | rfl | rfl | rfl | rfl | rfl | rfl | rfl<;>rfl
structure WavePt (w:World) (base p:Nat) (V:Nat->Value) (c:Nat->Nat) (Q:Nat->Nat->Nat) (O:Nat->Nat->Option ST) (S:Nat->Nat->Nat->Prop) (n:Nat):Prop where
 head:w.heap[p]? =some (.cells (jT V n) 178 (0,0))
 rows:∀l,l<9->w.ownsRow base 181 3 (V l) (c l) (shC Q l (c l))
 rdis:∀l l' g,l<9->l'<9->l≠l'->(V l).ownBlock=some g->(V l').ownBlock≠some g
 tree:∀l k,l<9->k<c l->∃made,TreeIs (S l k) w (Q l k) (O l k) made 0
 dis:∀l k l' k',l<9->k<c l->l'<9->k'<c l'->(l≠l'\/k≠k')->∀j,S l k j->¬S l' k' j
 low:base<=p/\∀l k j,l<9->k<c l->S l k j->base<=j
section
variable {w w':World}{base p n:Nat}{V:Nat->Value}{c:Nat->Nat}{Q:Nat->Nat->Nat}{O:Nat->Nat->Option ST}{S:Nat->Nat->Nat->Prop}
theorem Df{w:World}{base:Nat}{e:TypeId}{a:Nat}{v:Value}{n:Nat}{j:List Value}(h:w.ownsRow base e a v n j){g:Nat}(d:v.ownBlock=some g):TypeAt w g e:=by
 rcases h.2 with ⟨rfl,_⟩ | ⟨k,i,b,rfl,_,f,_⟩
 ·simp[Value.ownBlock]at d
 ·simp[Value.ownBlock]at d;subst d;exact⟨b,f⟩
theorem WavePt.tyP (h:WavePt w base p V c Q O S n):TypeAt w p 178:=⟨_,h.head⟩
theorem WavePt.tyG (h:WavePt w base p V c Q O S n){l g:Nat}(b:l<9)(a:(V l).ownBlock=some g):TypeAt w g 181:=Df (h.rows l b) a
theorem WavePt.chg {Z:Nat->Prop}(h:WavePt w base p V c Q O S n)(b:Chg Z w w')(i:¬Z p)(o:∀l g,l<9->(V l).ownBlock=some g->¬Z g)(q:∀l k j,l<9->k<c l->S l k j->¬Z j):WavePt w' base p V c Q O S n:=
 ⟨b.heap h.head i,λl a=>b.own (h.rows l a) (λg e=>o l g a e),h.rdis,λl k a d=>by obtain⟨m,t⟩:=h.tree l k a d;exact⟨m,t.chg b (λj f=>q l k j a d f)⟩,h.dis,h.low⟩
theorem WavePt.below (h:WavePt w base p V c Q O S n)(a:Below w w w'):WavePt w' base p V c Q O S n:=
 h.chg (Z:=λ_=>False) (Chg.of_below a) id (λ_ _ _ _=>id) (λ_ _ _ _ _ _=>id)
theorem WavePt.start (w:World)(n:Nat)(b:base<=w)(Q:Nat->Nat->Nat)(O:Nat->Nat->Option ST)(S:Nat->Nat->Nat->Prop):WavePt (w.alloc (.cells (jT (λ_=> .slice none 0 0) n) 178)) base w (λ_=> .slice none 0 0) (λ_=>0) Q O S n:=
 ⟨bc6 w _,λl e=>bb2 _ _ _ _,λl d g _ _ _ h=>by simp[Value.ownBlock]at h,λl k _ a=>E,λl k d f _ a=>E,b,λl k j _ a=>E⟩
theorem WavePt.push {W w2 K:World}(h:WavePt w base p V c Q O S n){l:Nat}(T:l<9){N:Nat->Prop}{q m:Nat}{o:Option ST}(ht:TreeIs N W q o m 0)(Y:∀j,N j->w.heap.size<=j)(h1:Chg (λ_=>False) w W)(h2:Below W W w2){v:Value}{g:Nat}(Z:v.ownBlock=some g)(M:K.ownsRow base 181 3 v (c l+1) (shC Q l (c l)++[.pointer q, .int .i64 l, .int .i64 (c l:Nat)]))(hg:w2.grownBy K (V l).ownBlock)(B:(V l).ownBlock=some g\/w2<=g):WavePt (K.setCell (p,l) v) base p (cE V l v) (pZ c l) (eP Q l (c l) q) (eP O l (c l) o) (eP S l (c l) N) n/\Chg (λj=>j=p\/(V l).ownBlock=some j) w (K.setCell (p,l) v):=by
 have R:Chg (λ_=>False) w w2:=h1.trans (Chg.of_below (S:=λ_=>False) h2) (λb hb=>hb.elim);have X:Chg (λj=>(V l).ownBlock=some j) w K:=(R.mono (λj s=>s.elim)).grown hg (λk u=>Ei u);have a0:Chg (λj=>(V l).ownBlock=some j) W K:=(Chg.of_below (S:=λj=>(V l).ownBlock=some j) h2).grown hg (λk u=>Ei u);have b7:=h.tyP.lt;have a9:(V l).ownBlock≠some p:=λe=>TypeAt.ne (h.tyG T e) h.tyP Ed rfl;have F:Chg (λj=>j=p) K (K.setCell (p,l) v):=Chg.refl.setCell (S:=λj=>j=p) (p,l) (Ei rfl) v;have a5:TypeAt K g 181:=Df M Z;have I:K.heap[p]? =some (.cells (jT V n) 178 (0,0)):=X.heap h.head a9;have b6:g≠p:=λe=>TypeAt.ne a5 ⟨_,I⟩ Ed e;have nP:∀a k,a<9->k<c a->¬S a k p:=λa k f u=>by obtain⟨m,t⟩:=h.tree a k f u;exact t.notT h.tyP Ed
 have nG:∀a k P,a<9->k<c a->(V l).ownBlock=some P->¬S a k P:=λa k P f u e=>by obtain⟨m,t⟩:=h.tree a k f u;exact t.notT (h.tyG T e) Ed
 have b0:∀j,N j->(V l).ownBlock≠some j:=λj s e=>by have :=(h.tyG T e).lt;have :=Y j s;omega
 have b5:¬N p:=λs=>by have :=Y p s;omega
 have b8:=R.size;refine⟨⟨?_,λa f=>?_,λr H P z D d x y=>?_,λa k f u=>?_,λr G H k2 z J D a8 d j a6 a7=>?_,h.low.1,λa k j f u s=>?_⟩,Chg.setCell (S:=λj=>j=p\/(V l).ownBlock=some j) (X.mono (λj s=>Ej s)) (p,l) (Ei (Ei rfl)) v⟩
 ·have :=bc7 K p l _ _ v I;rw[Zg V n T v]at this;exact this
 ·by_cases e:a=l
  ·subst e;have L:cE V a v a=v:=by simp[cE]
   have C:pZ c a a=c a+1:=by simp[pZ]
   rw[L,C,qO,cO,Id (Q':=Q) (λi hi=>eE Q q E)];exact F.own M (λk u e=>by rw[Z]at u;injection u with u;omega)
  ·have L:cE V l v a=V a:=by simp[cE,e]
   have C:pZ c l a=c a:=by simp[pZ,e]
   rw[L,C,Id (Q':=Q) (λi hi=>eE Q q (Ei e))];refine F.own (X.own (h.rows a f) (λk u e3=>h.rdis l a k T f (Ne.symm e) e3 u)) (λk u e3=>?_);exact TypeAt.ne (h.tyG f u) h.tyP Ed e3
 ·by_cases e:r=l
  ·subst e;have L:cE V r v r=v:=by simp[cE]
   have C:cE V r v H=V H:=by simp[cE,Ne.symm d]
   rw[L,Z]at x;injection x with x;subst x
   rw[C]at y;rcases B with B | B
   ·exact h.rdis r H g z D d B y
   ·have :=(h.tyG D y).lt;omega
  ·by_cases e':H=l
   ·subst e';have L:cE V H v r=V r:=by simp[cE,e]
    have C:cE V H v H=v:=by simp[cE]
    rw[C,Z]at y;injection y with y;subst y
    rw[L]at x;rcases B with B | B
    ·exact h.rdis r H g z D d x B
    ·have :=(h.tyG z x).lt;omega
   ·have L:cE V l v r=V r:=by simp[cE,e]
    have C:cE V l v H=V H:=by simp[cE,e']
    rw[L]at x;rw[C]at y;exact h.rdis r H P z D d x y
 ·by_cases e:a=l/\k=c l
  ·obtain⟨rfl,rfl⟩:=e;rw[cO,cO,cO];exact⟨m,(ht.chg a0 b0).chg F (λj s e=>b5 (e▸s))⟩
  ·have d:a≠l\/k≠c l:=E;have A:k<c a:=by
    unfold pZ at u;split at u
    ·next C=>subst C;omega
    ·exact u
   rw[eE _ _ d,eE _ _ d,eE _ _ d];obtain⟨m,t⟩:=h.tree a k f A;exact⟨m,(t.chg X (λj s e=>nG a k j f A e s)).chg F (λj s e=>nP a k f A (e▸s))⟩
 ·have U:∀r G,r<9->G<pZ c l r->eP S l (c l) N r G j->(r=l/\G=c l/\w.heap.size<=j)\/((r≠l\/G≠c l)/\G<c r/\S r G j/\j<w.heap.size):=by
   intro r G z J s;by_cases e:r=l/\G=c l
   ·obtain⟨rfl,rfl⟩:=e;rw[cO]at s;exact Ei ⟨rfl,rfl,Y j s⟩
   ·have d:r≠l\/G≠c l:=E;have A:G<c r:=by
     unfold pZ at J;split at J
     ·next C=>subst C;omega
     ·exact J
    rw[eE _ _ d]at s;obtain⟨m,t⟩:=h.tree r G z A;exact Ej ⟨d,A,s,t.lt j s⟩
  rcases U r G z J a6 with ⟨a1,a2,a3⟩ | ⟨a1,a2,a3,a4⟩<;>rcases U H k2 D a8 a7 with ⟨b1,b2,b3⟩ | ⟨b1,b2,b3,b4⟩
  ·omega
  ·omega
  ·omega
  ·exact h.dis r G H k2 z a2 D b2 d j a3 b3
 ·by_cases e:a=l/\k=c l
  ·obtain⟨rfl,rfl⟩:=e;rw[cO]at s;have :=Y j s;have :=h.low.1;omega
  ·have d:a≠l\/k≠c l:=E;have A:k<c a:=by
    unfold pZ at u;split at u
    ·next C=>subst C;omega
    ·exact u
   rw[eE _ _ d]at s;exact h.low.2 a k j f A s
theorem WavePt.mid {i w2 d:World}(h:WavePt w base p V c Q O S n){l:Nat}(m:l<9)(o:Chg (λ_=>False) w i)(q:Below i i w2)(t:w2.grownBy d (V l).ownBlock):d.cell? (p,l)=some (V l)/\d.frozen? (p,l)=false:=by
 have f:Chg (λ_=>False) w w2:=o.trans (Chg.of_below (S:=λ_=>False) q) (λb s=>s.elim);have r:Chg (λj=>(V l).ownBlock=some j) w d:=(f.mono (λj u=>u.elim)).grown t (λk v=>Ei v);have g:(V l).ownBlock≠some p:=λe=>TypeAt.ne (h.tyG m e) h.tyP Ed rfl;have a:d.heap[p]? =some (.cells (jT V n) 178 (0,0)):=r.heap h.head g;exact⟨by rw[bb8 d p l _ _ _ a,Ha V n m],bc4 d p l _ _ a⟩
theorem WavePt.done (h:WavePt w base p V c Q O S n)(x:∀l,l<9->c l=pw l)(u:base<=w):∃D,WaveE base (λ_=>False) w p D O n 0 bF:=by
 have B:∀l,∃g o,l<9->V l= .slice (some ⟨g,0,none⟩) (pw l) o/\∃e:Array Value,base<=g/\w.heap[g]? =some (.cells e 181 (0,0))/\e.toList.take (pw l*3)=shC Q l (pw l):=by
  intro l;by_cases d:l<9
  ·have K:=h.rows l d;rw[x l d]at K;rcases K.2 with ⟨_,T⟩ | ⟨g,o,e,s,u,y,_,_,_,J⟩
   ·have :=Mi l;omega
   ·exact⟨g,o,λ_=>⟨s,e,u,y,J⟩⟩
  ·exact⟨0,0,λh=>absurd h d⟩
 obtain⟨G,N⟩:=Classical.axiomOfChoice B;obtain⟨C,f⟩:=Classical.axiomOfChoice N;refine⟨⟨G,C,Q⟩,⟨S,⟨?_,λl d=>?_,λl k d q=>?_,λl k d q=>?_,λl k L R d q A H I j z=>h.dis l k L R d (by rw[x l d];exact q) A (by rw[x L A];exact H) I j z⟩,λj z=>?_⟩,u,λ_ P=>P.elim⟩
 ·have F:=h.head;unfold jT at F;rw[(f 0 E).1,(f 1 E).1,(f 2 E).1,(f 3 E).1,(f 4 E).1,(f 5 E).1,(f 6 E).1,(f 7 E).1,(f 8 E).1]at F;exact F
 ·obtain⟨_,e,_,y,_⟩:=f l d;exact⟨e,y⟩
 ·obtain⟨_,e,_,y,J⟩:=f l d;obtain⟨a,b,M⟩:=aF9 Q l q;have r:∀i v,(shC Q l (pw l))[i]? =some v->w.cell? ⟨G l,i,none⟩=some v:=by
   intro i v s;rw[bb8 w (G l) i _ _ _ y];rw[<-J,aO6]at s;split at s
   ·simpa using s
   ·cases s
  exact⟨r _ _ a,r _ _ b,r _ _ M⟩
 ·obtain⟨m,t⟩:=h.tree l k d (by rw[x l d];exact q);exact⟨m,0,trivial,t⟩
 ·rcases z with rfl | ⟨l,d,rfl⟩ | ⟨l,k,d,q,z⟩
  ·exact⟨h.low.1,id⟩
  ·obtain⟨_,e,u,_,_⟩:=f l d;exact⟨u,id⟩
  ·exact⟨h.low.2 l k j d (by rw[x l d];exact q) z,id⟩
end
structure BitsR (w:World) (base b N:Nat) (vs:Nat->Value) (F:Nat->List Bool):Prop where
 blk:w.heap[b]? =some (.cells (aI vs N).toArray 132 (0,0))
 rows:∀k,k<N->w.ownsRow base 4 1 (vs k) (F k).length ((F k).map Value.bool)
 dis:∀k k' g,k<N->k'<N->k≠k'->(vs k).ownBlock=some g->(vs k').ownBlock≠some g
 low:base<=b
def Ay(F:Nat->List Bool)(k:Nat)(x:Bool):Nat->List Bool:=λk'=>if k'=k then F k++[x]else F k'
section
variable {w w':World}{base b N:Nat}{vs:Nat->Value}{F:Nat->List Bool}
theorem BitsR.lt (h:BitsR w base b N vs F):b<w:=(aJ2.1 h.blk).1
theorem BitsR.cell (h:BitsR w base b N vs F){k:Nat}(a:k<N):w.cell? (b,k)=some (vs k):=by
 rw[bb8 w b k _ _ _ h.blk,aO7,dP a]
theorem BitsR.frz (h:BitsR w base b N vs F)(k:Nat):w.frozen? (b,k)=false:=bc4 w b k _ _ h.blk
theorem BitsR.chg {Z:Nat->Prop}(h:BitsR w base b N vs F)(c:Chg Z w w')(a:∀j,base<=j->¬Z j):BitsR w' base b N vs F:=
 ⟨c.heap h.blk (a b h.low),λk d=>c.own (h.rows k d) (λg e=>a g ((h.rows k d).lt g e).1),h.dis,h.low⟩
theorem BitsR.start (w:World)(N:Nat)(a:base<=w):BitsR (w.alloc (.cells (aI (λ_=> .slice none 0 0) N).toArray 132)) base w N (λ_=> .slice none 0 0) (λ_=>[]):=
 ⟨bc6 w _,λk c=>bb2 _ _ _ _,λk d g _ _ _ h=>by simp[Value.ownBlock]at h,a⟩
theorem BitsR.nB (h:BitsR w base b N vs F){k:Nat}(a:k<N):(vs k).ownBlock≠some b:=λe=>TypeAt.ne (Df (h.rows k a) e) (⟨_,h.blk⟩:TypeAt w b 132) Ed rfl
theorem BitsR.push {w2 n:World}(h:BitsR w base b N vs F){k:Nat}(B:k<N){x:Bool}(I:Below w w w2){v:Value}{g:Nat}(C:v.ownBlock=some g)(u:n.ownsRow base 4 1 v ((F k).length+1) ((F k).map Value.bool++[.bool x]))(K:w2.grownBy n (vs k).ownBlock)(d:(vs k).ownBlock=some g\/w2<=g):BitsR (n.setCell (b,k) v) base b N (cE vs k v) (Ay F k x)/\Chg (λj=>j=b\/(vs k).ownBlock=some j) w (n.setCell (b,k) v):=by
 have G:Chg (λj=>(vs k).ownBlock=some j) w n:=(Chg.of_below (S:=λj=>(vs k).ownBlock=some j) I).grown K (λk B=>Ei B);have y:Chg (λj=>j=b) n (n.setCell (b,k) v):=Chg.refl.setCell (S:=λj=>j=b) (b,k) (Ei rfl) v;have t:n.heap[b]? =some (.cells (aI vs N).toArray 132 (0,0)):=G.heap h.blk (h.nB B);have L:g≠b:=λe=>TypeAt.ne (Df u C) (⟨_,t⟩:TypeAt n b 132) Ed e;have M:=I.size;refine⟨⟨?_,λl z=>?_,λf m J i r s a c=>?_,h.low⟩,Chg.setCell (S:=λj=>j=b\/(vs k).ownBlock=some j) (G.mono (λj q=>Ej q)) (b,k) (Ei (Ei rfl)) v⟩
 ·have :=bc7 n b k _ _ v t;rw[aT0,vM]at this;exact this
 ·by_cases e:l=k
  ·subst e;have o:cE vs l v l=v:=by simp[cE]
   have p:Ay F l x l=F l++[x]:=by simp[Ay]
   rw[o,p,aP3,aQ2];exact y.own u (λj q e=>by rw[C]at q;injection q with q;omega)
  ·have o:cE vs k v l=vs l:=by simp[cE,e]
   have p:Ay F k x l=F l:=by simp[Ay,e]
   rw[o,p];exact y.own (G.own (h.rows l z) (λj q D=>h.dis k l j B z (Ne.symm e) D q)) (λj q D=>h.nB z (D▸q))
 ·have A:∀f,f<N->(vs f).ownBlock=some g->g<w:=λf i e=>((h.rows f i).lt g e).2;by_cases e:f=k
  ·subst e;have o:cE vs f v f=v:=by simp[cE]
   have p:cE vs f v m=vs m:=by simp[cE,Ne.symm s]
   rw[o,C]at a;injection a with a;subst a
   rw[p]at c;rcases d with d | d
   ·exact h.dis f m g i r s d c
   ·have :=A m r c;omega
  ·by_cases H:m=k
   ·subst H;have o:cE vs m v f=vs f:=by simp[cE,e]
    have p:cE vs m v m=v:=by simp[cE]
    rw[p,C]at c;injection c with c;subst c
    rw[o]at a;rcases d with d | d
    ·exact h.dis f m g i r s a d
    ·have :=A f i a;omega
   ·have o:cE vs k v f=vs f:=by simp[cE,e]
    have p:cE vs k v m=vs m:=by simp[cE,H]
    rw[o]at a;rw[p]at c;exact h.dis f m J i r s a c
end
theorem BitsR.mid {w w2 c:World}{base b N:Nat}{vs:Nat->Value}{F:Nat->List Bool}(h:BitsR w base b N vs F){k:Nat}(d:k<N)(e:Below w w w2)(g:w2.grownBy c (vs k).ownBlock):c.cell? (b,k)=some (vs k)/\c.frozen? (b,k)=false:=by
 have f:Chg (λj=>(vs k).ownBlock=some j) w c:=(Chg.of_below (S:=λj=>(vs k).ownBlock=some j) e).grown g (λk d=>Ei d);have a:c.heap[b]? =some (.cells (aI vs N).toArray 132 (0,0)):=f.heap h.blk (h.nB d);exact⟨by rw[bb8 c b k _ _ _ a,aO7,dP d],bc4 c b k _ _ a⟩
def iI(L:List Nat)(l j:Nat):Nat->List Bool:=λk=>lvl (L.take j) l k
theorem Pk(L:List Nat)(l:Nat):iI L l 0=λ_=>[]:=by funext k;simp[iI,lvl]
theorem Cp(L:List Nat)(l k:Nat):iI L l L.length k=lvl L l k:=by simp[iI]
theorem Pj{L:List Nat}{l j s:Nat}(h:L[j]? =some s):iI L l (j+1)=Ay (iI L l j) (pth s l) (dN s l):=by
 funext k;have c:L.take (j+1)=L.take j++[s]:=by rw[aT5,h];rfl
 unfold iI Ay lvl;rw[c,aN0,aQ2];by_cases e:k=pth s l
 ·subst e;simp
 ·have a:¬pth s l=k:=λx=>e x.symm;simp[e,a]
theorem Hk(L:List Nat)(l k j:Nat):(iI L l j k).length<=L.length:=by
 unfold iI lvl;rw[aP7];exact aV4 (aP6 _ _) (by rw[aQ1];omega)
theorem Tryz.infoBools:(prog.info? 132).map (λi=>(i.zero,i.size,i.bytes))=some (some (.slice none 0 0),1,24):=Ek
theorem Tryz.infoShelf:(prog.info? 181).map (λi=>(i.zero,i.size,i.bytes))=some (some (.agg #[.pointer none, .int .i64 0, .int .i64 0]),3,24):=Ek
theorem Zz(n:Nat)(h:n<=1000000000)(w:World):(Instr.makeSlice 222 (.int .i64 (n:Int)) (.int .i64 (n:Int))).run prog w= .ok (.slice w n n) (w.alloc (.cells (aI (λ_=> .slice none 0 0) n).toArray 132)):=
 xS Tryz.infoBools Tryz.underlying222 rfl n E (by unfold maxLen;omega) w
end
def bY(s:ByteArray):List Int:=s.data.toList.map λb=>(b.toNat:Int)
theorem kI(s:ByteArray):(bY s).length=s.size:=by unfold bY;rw[aP7];rfl
theorem yD(s:ByteArray):aS (bY s):=by
 intro x a;obtain⟨b,_,rfl⟩:=aR4.1 a;have :=b.toNat_lt;omega
theorem mN{t:List Int}(h:aS t):bY (strOfNums t)=t:=by
 unfold bY;rw[be0,aQ6];apply aM8
 ·simp
 ·intro i b a;have :=h _ (aP0 a);simp only[aO9,Function.comp];rw[UInt8.toNat_ofNat',aW1 E];omega
theorem sX{s:ByteArray}{k:Nat}(h:k<s.size):sy (aA (bY s)) k=(s[k].toNat:Int)+1:=by
 have a:k<(bY s).length:=by rw[kI];exact h
 rw[kH a];have e:(bY s)[k]? =some (s[k].toNat:Int):=by
  unfold bY;rw[aO3,aO0 (by exact h)];rfl
 rw[aO0 a]at e;injection e with e
 rw[e]
theorem Ob(s:ByteArray):sy (aA (bY s)) s.size=0:=by
 have :=rM (bY s);rwa[kI]at this
theorem af5{l:List Int}{d a b:Nat}(h:eqK l d a b):sufLt l a b↔sufLt l (a+d) (b+d):=by
 constructor
 ·rintro⟨w,e,i,g,f⟩;have c:d<=e:=by
   rcases aV8 e d with k | k
   ·have :=h e k;omega
   ·exact k
  obtain⟨v,rfl⟩:=aV1 c;refine⟨v+1,v,E,(pH.1 g).2,by rwa[aU3,aU3]⟩
 ·rintro⟨w,f⟩;exact⟨d+w,pI.2 (Ej ⟨h,f⟩)⟩
theorem al0{l:List Int}{d a b:Nat}(h:eqK l d a b)(e:sy l (a+d)=sy l (b+d)):eqK l (d+1) a b:=
 pH.2 ⟨h,λx c=>by
                obtain rfl:x=0:=E
                simpa using e⟩
def cN{α:Type}(l:List α)(k:Nat)(x:α):List α:=l.take k++x::l.drop k
theorem mC{a:Type}{l:List a}{k:Nat}{x:a}(h:k<=l.length):(cN l k x).length=l.length+1:=by simp[cN];omega
theorem vZ{a:Type}(l:List a)(k:Nat)(x:a):(cN l k x).Perm (x::l):=by
 unfold cN;refine List.perm_middle.trans ?_;rw[aT6]
theorem Pr{R:Nat->Nat->Prop}{l:List Nat}{k x:Nat}(g:k<=l.length)(h:l.Pairwise R)(d:∀i (a:i<l.length),i<k->R l[i] x)(e:∀i (a:i<l.length),k<=i->R x l[i]):(cN l k x).Pairwise R:=by
 unfold cN;rw[List.pairwise_append];refine⟨h.sublist (aU0 _ _),aS6.2 ⟨λy b=>?_,h.sublist (List.drop_sublist _ _)⟩,λy b z c=>?_⟩
 ·obtain⟨i,a,rfl⟩:=aP1 b;rw[aP5]at a;rw[aO8];exact e (k+i) E E
 ·obtain⟨i,a,rfl⟩:=aP1 b;rw[aQ1]at a;rw[aP2];rcases aR1.1 c with rfl | c
  ·exact d i E E
  ·obtain⟨j,f,rfl⟩:=aP1 c;rw[aP5]at f;rw[aO8];exact aS7.1 h i (k+j) E E (E)
section
open Go.RowKit
theorem al2{a:Ar}(h:a.Ok){i:Nat}(d:i<a.T.length)(f:i∉a.F):a.free [(i:Int)]=(0,⟨a.T.set i false,a.F++[i],a.M⟩):=by
 have g:a.T[i]? =some true:=by
  have b:¬a.T[i]? =some false:=λe=>f ((h.iff i).1 e);rw[aO0 d]at b⊢;cases hb:a.T[i]
  ·rw[hb]at b;exact absurd rfl b
  ·rfl
 have c:lW a.T (i:Int)=true:=pT.2 ⟨E,by simpa using g⟩;unfold Ar.free;simp only[clr,c,bd1,aK5];rfl
def vP(P:Program)(md:Region.Mode)(ops:Array Oper)(Q:Exit->Act->World->Prop)(S:World->Prop)(z:Nat):Nat->Array Bool->Act->World->Prop
 | 0,l,a,w=>Region.ready md ops l=[]/\Q .normal a w
 | n+1,l,a,w=>(Region.ready md ops l=[]->Q .normal a w)/\∀i∈Region.ready md ops l,wpOp P ops Q i (λa' w'=>(i=z\/S w')/\vP P md ops Q S z n (l.setIfInBounds i true) a' w') a w
section
variable {P:Program}{md:Region.Mode}{ops:Array Oper}{Q:Exit->Act->World->Prop}{S:World->Prop}{z i:Nat}{oi:Oper}{v:Value}{a:Act}{w:World}
theorem aj5:∀(n:Nat) (l:Array Bool) (a:Act) (w:World),vP P md ops Q S z n l a w->wpAny P md ops Q n l a w:=by
 intro n;induction n with
 | zero=>exactλ_ _ _ h=>h
 | succ n d=>exactλl a w h=>⟨h.1,λi c=>wpOp_mono (λb e k=>d _ b e k.2) (h.2 i c)⟩
theorem Qb{l:Array Bool}{j:Nat}{g:Oper}(p:i∈Region.ready md ops l)(q:j∈Region.ready md ops l)(s:ops[j]? =some g):∀e∈g.after,Region.binds md e=true->e.on≠i:=by
 intro e m k h;obtain⟨f,_⟩:=bd3.1 p;obtain⟨_,o,b,c⟩:=bd3.1 q;rw[s]at b;injection b with b
 subst b;have d:=c e m k;rw[h]at d;by_cases r:i<l.size<;>simp[r]at f d
 rw[f]at d;cases d
theorem as3{l:Array Bool}{j:Nat}{f:Oper}(m:j∈Region.ready md ops l)(q:ops[j]? =some f):∀e∈f.after,Region.binds md e=true->¬l.getD e.on true=false:=by
 intro e k g h;obtain⟨_,o,b,c⟩:=bd3.1 m;rw[q]at b;injection b with b
 subst b;have d:=c e k g;by_cases p:e.on<l.size<;>simp[p]at h d
 rw[h]at d;cases d
theorem Bt(F:ops[i]? =some oi)(f:∀(j:Nat) (o:Oper) q b,ops[j]? =some o->o.op≠ .select q b)(K:∀c a w,Q (.panic c) (a.put oi.dst v) w->Q (.panic c) a w){k:Nat}(u:∀M,ops[z]? =some M->∃e∈M.after,Region.binds md e=true/\e.on=k):∀(n:Nat) (l:Array Bool) (a:Act) (w:World),(k=i\/(l.getD k true=false/\∀D,ops[k]? =some D->∃e∈D.after,Region.binds md e=true/\e.on=i))->(∀j g,ops[j]? =some g->j≠i->l.getD j true=false->(∀e∈g.after,Region.binds md e=true->e.on≠i)->oi.apart ops g=true)->i∈Region.ready md ops l->YieldsIf P ops S oi v a->S w->vP P md ops Q S z n (l.setIfInBounds i true) (a.put oi.dst v) w->vP P md ops Q S z (n+1) l a w
 | n,l,a,w,hz,hf,hr,hy,hS,H=>by
  refine⟨λT=>absurd hr (by rw[T];simp),λj C=>?_⟩;by_cases e:j=i
  ·subst e;exact hy.wpOp F hS ⟨Ej hS,H⟩
  ·have p:j∈Region.ready md ops (l.setIfInBounds i true):=ready_mono C e;match n,H with
   | 0,H=>rw[H.1]at p;cases p
   | n+1,H=>
    obtain⟨t,g,d,_⟩:=bd3.1 C;have m:=Qb hr C d;have G:j≠z:=λO=>by
     subst O;obtain⟨x,y,A,B⟩:=u g d;rcases hz with h | ⟨h,_⟩
     ·exact m x y A (B.trans h)
     ·exact as3 C d x y A (by rw[B];exact h)
    refine wpOp_mono ?_ (wpOp_putIf d (hf j g d e t m) (λq b=>f i oi q b F) (λq b=>f j g q b d) K hy (H.2 j p));rintro N X ⟨V,W,L⟩;have r:=W.resolve_left G;rw[Array.setIfInBounds_comm _ _ (Ne.symm e)]at L;refine⟨Ej r,Bt F f K u n _ N X (hz.imp id (λh=>⟨by rw[getD_set_ne true (λR=>by subst R;obtain⟨x,y,A,B⟩:=h.2 g d;exact m x y A B)];exact h.1,h.2⟩)) (λk D U I J=>?_) (ready_mono hr (Ne.symm e)) V r L⟩;refine hf k D U I ?_;by_cases s:j=k
    ·subst s;exact t
    ·rwa[getD_set_ne true s]at J
end
section
variable {P:Program}{md:Region.Mode}{l:List Oper}{Q:Exit->Act->World->Prop}{S:World->Prop}{z n:Nat}{oi:Oper}{listed:Array Bool}{a:Act}{w:World}
theorem as7{d:Nat}(S:World->Prop)(z:Nat)(c:P.follows .mixedOrders=true)(b:S w.drew)(h:S w.drew->vP P .any l.toArray (NoPanic Q) S z l.length (Array.replicate l.length false) a w.drew):(Code.region d l.toArray true).wp P Q a w:=by
 refine wp_region_noPanic (wp_region_any c (aj5 (S:=S) (z:=z) _ _ _ _ ?_));rw[aT3];exact h b
def qU(md:Region.Mode)(l:List Oper)(z i:Nat):Bool:=match (l.drop z).head? with
 | some o=>o.after.any (λe=>Region.binds md e&&e.on==i)
 | none=>true
theorem zV{z i:Nat}(h:qU md l z i=true):∀b,l.toArray[z]? =some b->∃e∈b.after,Region.binds md e=true/\e.on=i:=λb c=>by
 unfold qU at h;have e:(l.drop z).head?=some b:=by rw[List.head?_drop];simpa using c
 rw[e]at h;simpa only[Array.any_eq_true',Bool.and_eq_true,beq_iff_eq]using h
def Hg(md:Region.Mode)(l:List Oper)(listed:Array Bool)(z i:Nat):Bool:=qU md l z i||(List.range l.length).any (λk=>qU md l z k&&qU md l k i&& !(listed.getD k true))
theorem rl{v:Value}{f:Act}(i:Nat){oi:Oper}(p:S w)(h:vP P md l.toArray (NoPanic Q) S z n (listed.setIfInBounds i true) f w)(j:(l.drop i).head?=some oi:=by rfl)(b:(Region.noSelect l.toArray&&Region.free md l.toArray listed i&&(Region.ready md l.toArray listed).contains i&&Hg md l listed z i)=true:=by kernel_rfl)(r:Region.wanted oi (yielded l.toArray a.tmps)=true:=by rfl)(s:∀w,S w->(execOp a.eval oi).run P w= .ok (.value v) w:=by (intro w e;(try dsimp only at e);go_simp;all_goals with_reducible rfl))(q:a.put oi.dst v=f:=by ((try simp only[pt]);rfl)):vP P md l.toArray (NoPanic Q) S z (n+1) listed a w:=by
 subst q;simp only[aJ7]at b;obtain⟨k,m,o⟩:∃k,qU md l z k=true/\(k=i\/(listed.getD k true=false/\qU md l k i=true)):=by
  have g:=b.2;unfold Hg at g;rcases Bool.or_eq_true _ _▸g with d | d
  ·exact⟨i,d,Ei rfl⟩
  ·obtain⟨k,_,c⟩:=aL0.1 d;simp only[aJ7,Bool.not_eq_true']at c;exact⟨k,c.1.1,Ej ⟨c.2,c.1.2⟩⟩
 exact Bt (dH j) (Region.noSelect_spec b.1.1.1) (λ_ _ _ h=>h) (zV m) n listed a w (o.imp id (λh=>⟨h.1,zV h.2⟩)) (Region.free_spec (dH j) b.1.1.2) (by simpa using b.1.2) (Ei ⟨r,s⟩) p h
theorem aF5{c:Oper}(p:(l.drop z).head?=some c)(g:Region.ready md l.toArray listed=[z])(b:Region.ready md l.toArray (listed.setIfInBounds z true)=[])(o:Region.wanted c (yielded l.toArray a.tmps)=true)(h:Oper.wp P c a w (λd j=>Q .normal d j) (NoPanic Q)):vP P md l.toArray (NoPanic Q) S z (n+1) listed a w:=by
 refine⟨λk=>absurd (k.symm.trans g) Es,λi e=>?_⟩;rw[g]at e;obtain rfl:i=z:=by simpa using e
 refine wpOp_step (dH p) (λK m=>?_);rw[bd0 o];refine Oper.wp_mono (λd j f=>m _ _ ⟨Ei rfl,?_⟩) h;cases n with
 | zero=>exact⟨b,NoPanic.normal f⟩
 | succ n=>exact⟨λ_=>NoPanic.normal f,by rw[b];simp⟩
end
end
section
open Go.ChangeShapes Go.WideShapes Go.ChangeAt Go.RowKit
variable {H:Type}{enc:TypeId×Value->H}{P:Program}{w:World}{base:Nat}{sp:Nat->Bool}{held:Bool}
theorem sD{t:TypeId}{k:IntKind}{a:Nat}{v:Value}{x:DataW H×List MemPlace}(c:P.underlying t=some (.int k))(b:DataW.trod enc P w base sp held a t [v]=some x):∃n,v= .int k n/\(Lit.int k n).wf=true:=by
 cases a with
 | zero=>simp[DataW.trod]at b
 | succ a=>
  cases v<;>simp[DataW.trod,c]at b
  rename_i d n;obtain⟨⟨rfl,h⟩,_⟩:=b;exact⟨n,rfl,h⟩
structure Stp where
 k:Int
 p:Int
 n:Int
 r:Row
instance:Inhabited Stp:=⟨⟨0,0,0,default⟩⟩
structure ArgS (w:World) (a:Option Addr) (cap:Nat) (xs:List Stp):Prop where
 reads:∀i,i<xs.length->∃b off,a=some ⟨b,off,none⟩/\b<w.heap.size/\∀j,j<xs.length->
  w.cell? (b,off+j*4)=some (.int .i64 (xs[j]?.getD default).k)/\w.cell? (b,off+j*4+1)=some (.int .i64 (xs[j]?.getD default).p)/\w.cell? (b,off+j*4+2)=some (.int .i64 (xs[j]?.getD default).n)/\
  w.cell? (b,off+j*4+3)=some (.slice (xs[j]?.getD default).r.a (xs[j]?.getD default).r.l.length (xs[j]?.getD default).r.cap)
 wf:∀i,i<xs.length->(Lit.int .i64 (xs[i]?.getD default).k).wf=true/\(Lit.int .i64 (xs[i]?.getD default).p).wf=true/\(Lit.int .i64 (xs[i]?.getD default).n).wf=true/\ArgI .u8 w (xs[i]?.getD default).r.a (xs[i]?.getD default).r.cap (xs[i]?.getD default).r.l
 le:xs.length<=cap
 max:cap<=maxLen
variable {H:Type}{enc:TypeId×Value->H}{P:Program}{w:World}{base:Nat}{sp:Nat->Bool}{held:Bool}
theorem Rm{t e g:TypeId}{C F G I:Field}{J:Nat}{a:Option Addr}{h B:Nat}{x:DataW H×List MemPlace}(ht:P.underlying t=some (.slice e))(he:P.underlying e=some (.struct #[C,F,G,I]))(ce:P.cellsOf e=4)(o0:C.offset=0)(o1:F.offset=1)(o2:G.offset=2)(o3:I.offset=3)(c0:P.cellsOf C.type=1)(R:P.cellsOf F.type=1)(c2:P.cellsOf G.type=1)(c3:P.cellsOf I.type=1)(i0:P.underlying C.type=some (.int .i64))(i1:P.underlying F.type=some (.int .i64))(i2:P.underlying G.type=some (.int .i64))(i3:P.underlying I.type=some (.slice g))(ig:P.underlying g=some (.int .u8))(cg:P.cellsOf g=1)(hf:DataW.trod enc P w base sp held J t (Value.slice a h B).cells.toList=some x):∃Q:List Stp,h=Q.length/\ArgS w a B Q:=by
 rcases Go.Deep.open_slice ht hf with ⟨o,_⟩ | ⟨x,l,c,m,n,D,Pl,o,_,hl,hm,U,_,hx⟩
 ·simp[Value.cells]at o;obtain⟨rfl,rfl,rfl⟩:=o;exact⟨[],rfl,⟨λi q=>absurd q Es,λi q=>absurd q Es,Es,by unfold maxLen;omega⟩⟩
 ·simp[Value.cells]at o;obtain⟨rfl,rfl,rfl⟩:=o;have a0:h<=m:=by rw[U];split<;>omega
  have hz:∀i,i<m->∃z:Stp,w.cell? (x.add (i*4))=some (.int .i64 z.k)/\w.cell? (x.add (i*4+1))=some (.int .i64 z.p)/\w.cell? (x.add (i*4+2))=some (.int .i64 z.n)/\w.cell? (x.add (i*4+3))=some (.slice z.r.a z.r.l.length z.r.cap)/\
    (Lit.int .i64 z.k).wf=true/\(Lit.int .i64 z.p).wf=true/\(Lit.int .i64 z.n).wf=true/\ArgI .u8 w z.r.a z.r.cap z.r.l:=λi q=>by
   obtain⟨S,h1,h2⟩:=hx i q;rw[ce]at h1;obtain⟨_,d,f⟩:=World.cells?_some h1;obtain⟨Q,k,hk,a2,_,X,s⟩:=DataW.trod_struct he h2;match Q,X,S,d with
   | [y0,y1,y2,y3],_,[v0,v1,v2,v3],_=>
    have K:=s 0 C rfl;have L:=s 1 F rfl;have M:=s 2 G rfl;have N:=s 3 I rfl;simp[o0,o1,o2,o3,c0,R,c2,c3]at K L M N;have e0:=f 0 E;have e1:=f 1 E;have e2:=f 2 E;have e3:=f 3 E;rw[Go.Deep.add_add]at e0 e1 e2 e3;obtain⟨n0,rfl,V⟩:=sD i0 K;obtain⟨n1,rfl,hw⟩:=sD i1 L;obtain⟨b2,rfl,W⟩:=sD i2 M;obtain⟨a1,R,Z,v,hA⟩:=az9 i3 ig cg N;injection v with v
    subst v;exact⟨⟨n0,n1,b2,⟨a1,R,Z⟩⟩,by simpa using e0,by simpa using e1,by simpa using e2,by simpa using e3,V,hw,W,hA⟩
  obtain⟨z,A⟩:=Go.Deep.choose_lt hz;have d:((List.range h).map z).length=h:=Es;have u:∀j,j<h->((List.range h).map z)[j]?.getD default=z j:=λj T=>by simp[T]
  refine⟨(List.range h).map z,d.symm,⟨λi q=>?_,λi q=>?_,by rw[d];exact hl,hm⟩⟩
  ·rw[d]at q⊢;obtain⟨b,Y,O⟩:=x;have h0:=(A 0 E).1;have y:O=none:=by simpa[Addr.add]using World.cell?_spot h0
   subst y;refine⟨b,Y,rfl,World.block_lt_of_cell? w _ (by simpa[Addr.add]using h0),λj T=>?_⟩;obtain⟨K,L,M,N,_⟩:=A j E;rw[aI7]at K L M N;rw[u j T];exact⟨K,L,M,N⟩
  ·rw[d]at q;rw[u i q];exact(A i E).2.2.2.2
end
def jJ:List (String×DataW Unit):=[("math/bits.deBruijn64tab",Rows.laid_math_bits_deBruijn64tab)]
theorem ay5:(Rows.laid_math_bits_deBruijn64tab:DataW Unit)=Lib.tabData .u8 (Lib.deBruijn64tab.map Int.ofNat):=rfl
theorem Gk{W:World}(b:laidMetH prog jJ W):BitTab W:=by
 rw[MakeChecks.laidMetH_plain _ _ _ Ek]at b;have a:laidMet prog [("math/bits.deBruijn64tab",Lib.tabData .u8 (Lib.deBruijn64tab.map Int.ofNat))] W:=by rw[<-ay5];exact b
 have c:prog.globalNamed "math/bits.deBruijn64tab" =some 0:=Ek;have e:=Lib.tabIs_of_head c (t:=260) Ek Tryz.underlying260 ba2 Ek Ek a;intro j d;rw[e.cell c j (by simpa using d)];simp[aN4,aO0 d]
end Go.Proofs.YtchinbgemenenaaGreatDoor
