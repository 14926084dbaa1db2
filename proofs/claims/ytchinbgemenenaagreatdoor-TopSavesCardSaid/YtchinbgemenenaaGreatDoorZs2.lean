/- Lemmas and contracts under the claims of this seat. No condition. -/
import Derived.Shelf.Spec.TrailingZeros
import Derived.Deep.DeepCutAuto
import Derived.Deep.CutBlock
import Derived.Test.YtchinbgemenenaaGreatDoorZs1
namespace Go.Proofs.YtchinbgemenenaaGreatDoor
open Go.Proofs.Tryz
set_option linter.unusedVariables false
set_option linter.unusedSimpArgs false
set_option maxRecDepth 100000
set_option maxHeartbeats 12800000
section
open Go.RowKit
section
variable {P:Program}{ops:Array Oper}{Q:Exit->Act->World->Prop}{md:Region.Mode}{S:World->Prop}
def StillC(P:Program)(ops:Array Oper)(S:World->Prop)(o:Oper)(v:Value)(a:Act):Prop:=
 Region.wanted o (yielded ops a.tmps)=true/\∀w,S w->∃f args,(execOp a.eval o).run P w= .ok (.enter f args) w/\Calls P f args w λe w'=>e= .returned v/\w'=w
theorem StillC.same {o:Oper}{v:Value}{a b:Act}(h:StillC P ops S o v a)(c:execOp b.eval o=execOp a.eval o)(d:Region.wanted o (yielded ops b.tmps)=Region.wanted o (yielded ops a.tmps)):StillC P ops S o v b:=by
 unfold StillC;rw[c,d];exact h
theorem StillC.now {i:Nat}{o:Oper}{v:Value}{a:Act}{K:Act->World->Prop}{w:World}(h:StillC P ops S o v a)(g:ops[i]? =some o)(c:S w)(k:K (a.put o.dst v) w):wpOp P ops Q i K a w:=by
 obtain⟨m,h⟩:=h;obtain⟨f,b,j,d⟩:=h w c;unfold wpOp;simp only[g,m,bd1,Oper.wp,j,Oper.upon];refine .inl (d.mono ?_);rintro e n ⟨rfl,rfl⟩;exact k
theorem StillC.other {j:Nat}{o k:Oper}{v:Value}(J:ops[j]? =some k)(A:o.apart ops k=true)(B:∀y b,o.op≠ .select y b)(t:∀y b,k.op≠ .select y b)(H:∀c a w,Q (.panic c) (a.put o.dst v) w->Q (.panic c) a w){K:Act->World->Prop}{a:Act}{w:World}(m:StillC P ops S o v a)(h:wpOp P ops Q j K (a.put o.dst v) w):wpOp P ops Q j (λF C=>StillC P ops S o v F/\K (F.put o.dst v) C) a w:=by
 obtain⟨z,p,G⟩:=Oper.apart_spec A;have i:∀(a:Act),StillC P ops S o v a->∀u,StillC P ops S o v (a.put k.dst u):=λa m u=>m.same (execOp_put o B a k.dst u G) (wanted_put o a k.dst u G);unfold wpOp at *;simp only[J]at *;rw[wanted_put k a o.dst v z]at h;by_cases I:Region.wanted k (yielded ops a.tmps)=true
 ·rw[bd0 I]at h⊢;rcases h with h | ⟨h,g⟩
  ·refine .inl ?_;unfold Oper.wp at *;rw[execOp_put k t a o.dst v z]at h;generalize (execOp a.eval k).run P w=r at *;cases r with
   | ok n C=>
    cases n<;>simp only[Oper.upon]at h⊢
    case value u=>exact⟨i a m u,by rw[<-aI6 a v u p];exact h⟩
    case skip=>exact⟨i a m _,by rw[<-aI6 a v undef p];exact h⟩
    case defer d=>exact⟨i {a with defers:=d::a.defers} (m.same rfl rfl) _,by rw[<-aI6 _ v undef p,<-Act.put_defers];exact h⟩
    case enter f q=>
     refine Calls.mono h λe D s=>?_;cases e with
     | returned u=>exact⟨i a m u,by rw[<-aI6 a v u p];exact s⟩
     | panicked c=>exact H _ _ _ s
     | outgrown=>exact s
    case row L q=>exact Rows.mono h λu D s=>⟨i a m u,by rw[<-aI6 a v u p];exact s⟩
   | halt x C=>
    cases x<;>simp only[Oper.upon]at h⊢
    case panic u=>exact H _ _ _ h
  ·exact .inr ⟨by unfold Oper.asks at *;rw[execOp_put k t a o.dst v z]at h;exact h,g⟩
 ·rw[bc9 I]at h⊢;exact⟨i a m _,by rw[<-aI6 a v undef p];exact h⟩
theorem StillC.first {i:Nat}{o:Oper}{v:Value}(G:ops[i]? =some o)(m:∀(j:Nat) (o:Oper) r b,ops[j]? =some o->o.op≠ .select r b)(M:∀c a w,Q (.panic c) (a.put o.dst v) w->Q (.panic c) a w):∀(fuel:Nat) (listed:Array Bool) (a:Act) (w:World),(∀j q,ops[j]? =some q->j≠i->listed.getD j true=false->(∀e∈q.after,Region.binds md e=true->e.on≠i)->o.apart ops q=true)->i∈Region.ready md ops listed->StillC P ops S o v a->S w->wpAnyH P md ops Q S fuel (listed.setIfInBounds i true) (a.put o.dst v) w->wpAnyH P md ops Q S (fuel+1) listed a w:=by
 intro fuel;induction fuel with
 | zero=>
  intro listed a w _ p C t H;refine⟨λh=>(by rw[h]at p;cases p),λj B=>?_⟩;by_cases d:j=i
  ·subst d;exact C.now G t ⟨t,H⟩
  ·have :=ready_mono B d;rw[H.1]at this;cases this
 | succ fuel T=>
  intro listed a w f p C t H;refine⟨λh=>(by rw[h]at p;cases p),λj B=>?_⟩;by_cases d:j=i
  ·subst d;exact C.now G t ⟨t,H⟩
  ·obtain⟨g,q,n,u⟩:=bd3.1 B;have y:∀e∈q.after,Region.binds md e=true->e.on≠i:=λe O N F=>by
    have s:=u e O N;have K:=(bd3.1 p).1;rw[F]at s;rcases aV8 i listed.size with D | D
    ·simp[D]at K s;rw[K]at s;cases s
    ·simp[Array.getElem?_eq_none D]at s
   refine wpOp_mono (λL V A=>⟨A.2.1,T (listed.setIfInBounds j true) L V (λk U R I z J=>f k U R I ?_ J) (ready_mono p (Ne.symm d)) A.1 A.2.1 ?_⟩) (StillC.other n (f j q n d g y) (λr b=>m i o r b G) (λr b=>m j q r b n) M C (H.2 j (ready_mono B d)))
   ·by_cases x:j=k
    ·subst x;exact g
    ·rw[getD_set_ne true x]at z;exact z
   ·rw[Array.setIfInBounds_comm _ _ d];exact A.2.2
variable {l:List Oper}{fuel:Nat}{listed:Array Bool}{a:Act}{w:World}
theorem rc{v:Value}{j:Act}{f:FuncId}{b:Array Value}(i:Nat){d:Oper}(o:∀w,S w->Calls P f b w λe m=>e= .returned v/\w=m)(n:S w)(h:wpAnyH P md l.toArray (NoPanic Q) S fuel (listed.setIfInBounds i true) j w)(k:(l.drop i).head?=some d:=by rfl)(c:(Region.noSelect l.toArray&&Region.free md l.toArray listed i&&(Region.ready md l.toArray listed).contains i)=true:=by kernel_rfl)(g:Region.wanted d (yielded l.toArray a.tmps)=true:=by rfl)(q:∀w,(execOp a.eval d).run P w= .ok (.enter f b) w:=by (intro w;go_simp;all_goals with_reducible rfl))(p:a.put d.dst v=j:=by ((try simp only[pt]);rfl)):wpAnyH P md l.toArray (NoPanic Q) S (fuel+1) listed a w:=by
 subst p;simp only[aJ7]at c;exact StillC.first (dH k) (Region.noSelect_spec c.1.1) (λ_ _ _ h=>h) fuel listed a w (Region.free_spec (dH k) c.1.2) (by simpa using c.2) ⟨g,λw g=>⟨_,_,q w,(o w g).mono (λe m h=>⟨h.1,h.2.symm⟩)⟩⟩ n h
end
end
def pc(w:Nat):Nat->Nat
 | 0=>0
 | k+1=>pc w k+(w.testBit k).toNat
theorem fF(w k:Nat):pc w k<=k:=by
 induction k with
 | zero=>exact aV3 _
 | succ k a=>have :=Bool.toNat_le (w.testBit k);simp only[pc];omega
theorem pL(w:Nat){i j:Nat}(h:i<=j):pc w i<=pc w j:=by
 induction j with
 | zero=>
      have :i=0:=E;rw[this];exact aV3 _
 | succ j b=>
  rcases aV8 j i with a | a
  ·have :i=j+1:=E;rw[this];exact aV3 _
  ·have :=b a;simp only[pc];omega
theorem Ly{w v k:Nat}(h:∀i,i<k->w.testBit i=v.testBit i):pc w k=pc v k:=by
 induction k with
 | zero=>rfl
 | succ k a=>simp only[pc];rw[a (λi b=>h i E),h k E]
theorem aE5(k:Nat):pc 0 k=0:=by
 induction k with
 | zero=>rfl
 | succ k a=>simp[pc,a]
theorem ab8(w a b:Nat):pc w (a+b)=pc w a+pc (w/2^a) b:=by
 induction b with
 | zero=>rfl
 | succ b c=>
  rw[<-aU3];simp only[pc];rw[c,aX3,Nat.add_comm b a];omega
theorem aE4{w m:Nat}(h:w<2^m)(b:Nat):pc w (m+b)=pc w m:=by
 rw[ab8,Nat.div_eq_of_lt h,aE5];rfl
theorem pc_ge{w m k:Nat}(h:w<2^m)(a:m<=k):pc w k=pc w m:=by
 obtain⟨b,rfl⟩:=aV1 a;exact aE4 h b
def m55:Nat->Nat | 0=>0 | n+1=>256*m55 n+85
def m33:Nat->Nat | 0=>0 | n+1=>256*m33 n+51
def m0f:Nat->Nat | 0=>0 | n+1=>256*m0f n+15
def st1(n x:Nat):Nat:=(x/2&&&m55 n)+(x&&&m55 n)
def st2(n x:Nat):Nat:=(x/4&&&m33 n)+(x&&&m33 n)
def st3(n x:Nat):Nat:=(x/16+x)&&&m0f n
theorem iQ(k a b:Nat):a&&&b=2^k*((a/2^k)&&&(b/2^k))+((a%2^k)&&&(b%2^k)):=by
 apply Nat.eq_of_testBit_eq;intro i;have c:(a%2^k)&&&(b%2^k)<2^k:=aV6 Nat.and_le_left (aW2 _ (aX9 k));rw[aX7 _ c];split
 ·rename_i h;simp[aX2,aX5,h]
 ·rename_i h;rw[aX2,aX2,aX3,aX3,Nat.sub_add_cancel E]
theorem lE(a b c:Nat)(d:c<256):a&&&(256*b+c)=256*((a/256)&&&b)+((a%256)&&&c):=by
 have :=iQ 8 a (256*b+c);simp only[Nat.reducePow]at this;rw[this,show (256*b+c)/256=b by omega,show (256*b+c)%256=c by omega]
theorem av7(n x:Nat):st1 (n+1) x=256*st1 n (x/256)+st1 1 (x%256):=by
 have c:(x/2%256)&&&85=(x%256/2)&&&85:=by
  have a:=iQ 7 (x/2%256) 85;have b:=iQ 7 (x%256/2) 85;simp only[Nat.reducePow,Nat.reduceDiv,Nat.and_zero,Nat.reduceMod]at a b;rw[a,b,show x/2%256%128=x%256/2%128 by omega]
 have d:m55 1=85:=rfl;simp only[st1,m55];rw[lE _ _ _ E,lE _ _ _ E,c,show x/2/256=x/256/2 by omega];simp only[Nat.mul_zero,aY0];omega
theorem av9(n x:Nat):st2 (n+1) x=256*st2 n (x/256)+st2 1 (x%256):=by
 have c:(x/4%256)&&&51=(x%256/4)&&&51:=by
  have a:=iQ 6 (x/4%256) 51;have b:=iQ 6 (x%256/4) 51;simp only[Nat.reducePow,Nat.reduceDiv,Nat.and_zero,Nat.reduceMod]at a b;rw[a,b,show x/4%256%64=x%256/4%64 by omega]
 simp only[st2,m33];rw[lE _ _ _ E,lE _ _ _ E,c,show x/4/256=x/256/4 by omega];simp only[Nat.mul_zero,aY0];omega
theorem ax1(n x:Nat)(d:x%256<=68)(e:x/256%16<=4):st3 (n+1) x=256*st3 n (x/256)+st3 1 (x%256):=by
 have c:((x/16+x)%256)&&&15=(x%256/16+x%256)&&&15:=by
  have a:=iQ 4 ((x/16+x)%256) 15;have b:=iQ 4 (x%256/16+x%256) 15;simp only[Nat.reducePow,Nat.reduceDiv,Nat.and_zero,Nat.reduceMod]at a b;rw[a,b,show (x/16+x)%256%16=(x%256/16+x%256)%16 by omega]
 simp only[st3,m0f];rw[lE _ _ _ E,c,show (x/16+x)/256=x/256/16+x/256 by omega]
theorem mQ:∀b:Fin 256,st1 1 b.val<256/\st2 1 (st1 1 b.val)<=68/\st2 1 (st1 1 b.val)%16<=4/\st3 1 (st2 1 (st1 1 b.val))=pc b.val 8:=by decide+kernel
def jS:Nat->Nat->Nat | 0,_=>0 | n+1,x=>256*jS n (x/256)+pc (x%256) 8
theorem aG4(n x:Nat):st1 (n+1) x/256=st1 n (x/256)/\st1 (n+1) x%256=st1 1 (x%256):=by
 have h:=(mQ ⟨x%256,E⟩).1;simp only at h;rw[av7];omega
theorem aG5(n x:Nat)(h:st2 1 (x%256)<256):st2 (n+1) x/256=st2 n (x/256)/\st2 (n+1) x%256=st2 1 (x%256):=by
 rw[av9];omega
theorem st12(n x:Nat):st2 (n+1) (st1 (n+1) x)/256=st2 n (st1 n (x/256))/\st2 (n+1) (st1 (n+1) x)%256=st2 1 (st1 1 (x%256)):=by
 have h:=mQ ⟨x%256,E⟩;simp only at h;obtain⟨b,a⟩:=aG4 n x;have :=aG5 n (st1 (n+1) x) (by rw[a];omega);rw[b,a]at this;exact this
theorem af4(n x:Nat):st3 n (st2 n (st1 n x))=jS n x:=by
 induction n generalizing x with
 | zero=>simp[st3,m0f,jS]
 | succ n d=>
  have h:=mQ ⟨x%256,E⟩;simp only at h;obtain⟨a,b⟩:=st12 n x;rw[ax1 n _ (by rw[b];omega) ?_,a,b,d,h.2.2.2]
  ·rfl
  ·rw[a];cases n with
   | zero=>simp[st2,m33]
   | succ n=>
    have c:=mQ ⟨x/256%256,E⟩;simp only at c;have :=(st12 n (x/256)).2;omega
theorem iV(n x:Nat):pc x (8*(n+1))=pc (x%256) 8+pc (x/256) (8*n):=by
 rw[show 8*(n+1)=8+8*n by omega,ab8];congr 1;exact Ly (λi a=>by rw[show 256=2^8 from rfl,aX5];simp[a])
def oU(x:Nat):Nat:=(x+x/256+(x+x/256)/65536)+(x+x/256+(x+x/256)/65536)/4294967296
theorem dg{n b c:Nat}(h:n=256*b+c)(a:c<256):n/256=b:=E
theorem dg2{n b c:Nat}(h:n=256*b+c)(a:c<256):n%256=c:=E
theorem dgs{x y a b c d:Nat}(h:x=256*a+c)(k:y=256*b+d):x+y=256*(a+b)+(c+d):=E
theorem div4(n:Nat):n/4294967296=n/256/256/256/256:=by rw[aU9,aU9,aU9]
theorem div2(n:Nat):n/65536=n/256/256:=by rw[aU9]
theorem le2{a b:Nat}(h:a<=8)(k:b<=8):a+b<256:=E
theorem le4{a b c d:Nat}(h:a<=8)(k:b<=8)(l:c<=8)(m:d<=8):a+b+(c+d)<256:=E
theorem le8{a b c d e f g i:Nat}(h:a<=8)(k:b<=8)(l:c<=8)(m:d<=8)(j:e<=8)(n:f<=8)(o:g<=8)(p:i<=8):a+b+(c+d)+(e+f+(g+i))<256:=E
theorem Po{e b a f n t u g c d k l o p q:Nat}(z:e=256*b+c)(A:b=256*a+d)(B:a=256*f+k)(C:f=256*n+l)(D:n=256*t+o)(F:t=256*u+p)(G:u=256*g+q)(r:c<=8)(h:d<=8)(i:k<=8)(j:l<=8)(m:o<=8)(s:p<=8)(H:q<=8)(P:g<=8):oU e%256=c+d+k+l+o+p+q+g:=by
 have O:g=256*0+g:=Es;have I:e/256=b:=dg z E;have J:e+e/256=256*(b+a)+(c+d):=by rw[I];exact dgs z A
 have v:=dgs A B;have w:=dgs B C;have x:=dgs C D;have y:=dgs D F;have M:=dgs F G;have N:=dgs G O;have K:(256*(b+a)+(c+d))/65536=a+f:=by
  rw[div2,dg rfl (le2 r h)];exact dg v (le2 h i)
 have L:256*(b+a)+(c+d)+(a+f)=256*(b+a+(f+n))+(c+d+(k+l)):=dgs rfl w;have Q:=dgs v x;have R:=dgs w y;have S:=dgs x M;have T:=dgs y N;unfold oU;rw[J,K,L,div4,dg rfl (le4 r h i j),dg Q (le4 h i j m),dg R (le4 i j m s),dg S (le4 j m s H)];rw[dg2 (dgs rfl T) (le8 r h i j m s H P)];simp only[aU3]
theorem fH(n x:Nat):jS (n+1) x=256*jS n (x/256)+pc (x%256) 8:=rfl
theorem Ub(x:Nat):oU (jS 8 x)%256=pc x 64:=by
 have a:jS 1 (x/256/256/256/256/256/256/256)=pc (x/256/256/256/256/256/256/256%256) 8:=by rw[fH];simp[jS]
 have b:pc x 64=_:=iV 7 x;have c:pc (x/256) (8*7)=_:=iV 6 (x/256);have d:pc (x/256/256) (8*6)=_:=iV 5 (x/256/256);have e:pc (x/256/256/256) (8*5)=_:=iV 4 (x/256/256/256);have f:pc (x/256/256/256/256) (8*4)=_:=iV 3 (x/256/256/256/256);have g:pc (x/256/256/256/256/256) (8*3)=_:=iV 2 (x/256/256/256/256/256);have h:pc (x/256/256/256/256/256/256) (8*2)=_:=iV 1 (x/256/256/256/256/256/256);have i:pc (x/256/256/256/256/256/256/256) (8*1)=_:=iV 0 (x/256/256/256/256/256/256/256);have j:pc (x/256/256/256/256/256/256/256/256) (8*0)=0:=rfl;rw[Po (fH 7 x) (fH 6 _) (fH 5 _) (fH 4 _) (fH 3 _) (fH 2 _) (fH 1 _) (fF _ _) (fF _ _) (fF _ _) (fF _ _) (fF _ _) (fF _ _) (fF _ _) (by rw[a];exact fF _ _),a,b,c,d,e,f,g,h,i,j];omega
theorem Oj:∀(n x:Nat),jS n x*31<256^n
 | 0,x=>by simp[jS]
 | n+1,x=>by
  have :=Oj n (x/256);have h:=fF (x%256) 8;rw[fH,aW8];omega
theorem pM(w k:Nat):pc w (k+1)=pc w k+(w.testBit k).toNat:=rfl
theorem Lz(w:Nat){j k:Nat}(h:j<pc w k):∃m,m<k/\w.testBit m=true/\pc w m=j:=by
 induction k with
 | zero=>simp[pc]at h
 | succ k d=>
  rcases aV8 j (pc w k)with c | c
  ·obtain⟨m,a,b⟩:=d c;exact⟨m,E,b⟩
  ·rw[pM]at h;have e:=Bool.toNat_le (w.testBit k);cases hk:w.testBit k
   ·rw[hk]at h;simp at h;omega
   ·rw[hk]at h;simp at h;exact⟨k,E,hk,E⟩
theorem Jm{w i j:Nat}(h:i<j)(a:w.testBit i=true):pc w i<pc w j:=by
 have :=pL w (i:=i+1) (j:=j) E;rw[pM,a]at this;simp at this;omega
def sel(w:Nat)(j:Int):Int:=match (List.range 64).find? λi=>w.testBit i&&decide ((pc w i:Int)=j)with
 | some i=>(i:Int)
 | none=> -1
theorem Tc{w k:Nat}{j:Int}(c:k<64)(a:w.testBit k=true)(d:(pc w k:Int)=j):sel w j=k:=by
 unfold sel;have :(List.range 64).find? (λi=>w.testBit i&&decide ((pc w i:Int)=j))=some k:=by
  rw[List.find?_range_eq_some];refine⟨by simp[a,d],by simpa using c,λi b=>?_⟩;cases hbi:w.testBit i
  ·simp
  ·have :=Jm b hbi;simp;omega
 rw[this]
theorem Nj{w:Nat}{j:Int}(h:j<0\/(pc w 64:Int)<=j):sel w j= -1:=by
 unfold sel;have :(List.range 64).find? (λi=>w.testBit i&&decide ((pc w i:Int)=j))=none:=by
  rw[List.find?_eq_none];intro i a;simp only[aR8]at a;cases hbi:w.testBit i
  ·simp
  ·have :=Jm (j:=64) a hbi;simp;omega
 rw[this]
theorem Nk{w:Nat}{j:Nat}(h:j<pc w 64):∃k,k<64/\w.testBit k=true/\pc w k=j/\sel w j=k:=by
 obtain⟨k,b,a,c⟩:=Lz w h;exact⟨k,b,a,c,Tc b a (by rw[c])⟩
theorem lowest{x:Nat}(l:x≠0)(h:x<2^64):∃c,c<64/\Lib.ctz 64 x=c/\x.testBit c=true/\(∀i,i<c->x.testBit i=false)/\∀i,(x&&&(x-1)).testBit i=(x.testBit i&& !decide (i=c)):=by
 obtain⟨m,p,n⟩:=Lib.ctzFrom_spec 64 x E h;generalize f:Lib.ctzFrom 64 x=c at *;have j:x=2^c*(2*m+1)+0:=E;have q:=aX9 c;have k:x-1=2^c*(2*m)+(2^c-1):=by rw[p,Nat.mul_add];omega
 have g:∀i,x.testBit i=if i<c then false else (2*m+1).testBit (i-c):=by
  intro i;rw[j,aX7 _ q];simp
 have r:∀i,(x-1).testBit i=if i<c then (2^c-1).testBit i else (2*m).testBit (i-c):=by
  intro i;rw[k,aX7 _ E]
 refine⟨c,n,?_,?_,?_,?_⟩
 ·unfold Lib.ctz;rw[bc9 l,f]
 ·rw[g];simp
 ·intro i a;rw[g,bd0 a]
 ·intro i;rw[aX2,g,r];by_cases a:i<c
  ·simp[a]
  ·rw[bc9 a,bc9 a];by_cases b:i=c
   ·subst b;simp
   ·obtain⟨d,o⟩:∃d,i-c=d+1:=⟨i-c-1,E⟩;rw[o];simp only[Nat.testBit_succ,b,decide_false,Bool.not_false,Bool.and_true];rw[show (2*m+1)/2=m by omega,show 2*m/2=m by omega,Bool.and_self]
def Fb(w j x:Nat):Prop:=x<2^64/\∀i,x.testBit i=(w.testBit i&&decide (j<=pc w i))
theorem Ze{w:Nat}(h:w<2^64):Fb w 0 w:=⟨h,λi=>Es⟩
theorem tL{w j x:Nat}(C:w<2^64)(b:Fb w j x)(y:j<pc w 64):∃c,c<64/\x≠0/\Lib.ctz 64 x=c/\w.testBit c=true/\pc w c=j/\∀i,(x&&&(x-1)).testBit i=(x.testBit i&& !decide (i=c)):=by
 obtain⟨A,b⟩:=b;obtain⟨m,B,u,z⟩:=Lz w y;have g:x.testBit m=true:=by rw[b,u,z];simp
 have r:x≠0:=by intro e;rw[e]at g;simp at g
 obtain⟨c,v,k,q,f,a⟩:=lowest r A;have p:w.testBit c=true/\j<=pc w c:=by
  have :=b c;rw[q]at this;simpa using this.symm
 have o:pc w c=j:=by
  rcases aV8 j (pc w c)with s | s
  ·obtain⟨t,l,h,n⟩:=Lz w s;have :x.testBit t=true:=by rw[b,h,n];simp
   rw[f t l]at this;cases this
  ·omega
 exact⟨c,v,r,k,p.1,o,a⟩
theorem Zd{w j x:Nat}(k:w<2^64)(b:Fb w j x)(f:j<pc w 64):Fb w (j+1) (x&&&(x-1)):=by
 obtain⟨c,m,l,e,d,g,a⟩:=tL k b f;refine⟨aV6 Nat.and_le_left b.1,λi=>?_⟩;rw[a,b.2];cases hwi:w.testBit i
 ·simp
 ·simp only[Bool.true_and];rcases aV9 i c with h | h | h
  ·have :=Jm h hwi;rw[aJ8];simp;omega
  ·subst h;simp;omega
  ·have :=Jm h d;rw[aJ8];simp;omega
theorem al4{w j x:Nat}(i:w<2^64)(g:Fb w j x)(h:j<pc w 64):(Lib.ctz 64 x:Int)=sel w j:=by
 obtain⟨c,f,k,a,d,b,e⟩:=tL i g h;rw[a,Tc f d (by rw[b])]
def gC(f:Nat->Bool):Nat->Nat
 | 0=>0
 | n+1=>gC f n+(if f n then 2^n else 0)
theorem lA(f:Nat->Bool)(n:Nat):gC f n<2^n:=by
 induction n with
 | zero=>simp[gC]
 | succ n a=>simp only[gC];rw[aW8];split<;>omega
theorem lT(f:Nat->Bool)(n i:Nat):(gC f n).testBit i=(decide (i<n)&&f i):=by
 induction n with
 | zero=>simp[gC]
 | succ n j=>
  have g:=lA f n;have e:gC f (n+1)=2^n*(if f n then 1 else 0)+gC f n:=by
   simp only[gC];split<;>omega
  rw[e,aX7 _ g,j];by_cases a:i<n
  ·rw[bd0 a];simp[a];omega
  ·rw[bc9 a];by_cases h:i=n
   ·subst h;cases hf:f i<;>simp
   ·have b:¬i<n+1:=E;obtain⟨d,c⟩:∃d,i-n=d+1:=⟨i-n-1,E⟩;rw[c];cases f n<;>simp[b,Nat.testBit_succ]
theorem eC{x y n:Nat}(b:x<2^n)(c:y<2^n)(h:∀i,i<n->x.testBit i=y.testBit i):x=y:=by
 apply Nat.eq_of_testBit_eq;intro i;by_cases a:i<n
 ·exact h i a
 ·rw[aX4 (aV7 b (aW7 E E)),aX4 (aV7 c (aW7 E E))]
theorem Tm{x n:Nat}(b:x<2^n)(f:Nat->Bool)(h:∀i,i<n->x.testBit i=f i):x=gC f n:=
 eC b (lA f n) (λi a=>by rw[lT,h i a];simp[a])
theorem ak0{x i:Nat}(b:x<2^64)(a:64<=i):x.testBit i=false:=
 aX4 (aV7 b (aW7 E a))
def qG(w k:Nat)(b:Bool):Nat:=gC (λi=>if i<k then w.testBit i else if i=k then b else w.testBit (i-1)) 64
def mA(w k:Nat)(b:Bool):Nat:=gC (λi=>if i<k then w.testBit i else if i=63 then b else w.testBit (i+1)) 64
theorem Fr(w k:Nat)(b:Bool):qG w k b<2^64:=lA _ _
theorem Fi(w k:Nat)(b:Bool):mA w k b<2^64:=lA _ _
theorem Bc{w k i:Nat}{b:Bool}(a:i<64):(qG w k b).testBit i=if i<k then w.testBit i else if i=k then b else w.testBit (i-1):=by
 unfold qG;rw[lT];simp[a]
theorem Ak{w k i:Nat}{b:Bool}(a:i<64):(mA w k b).testBit i=if i<k then w.testBit i else if i=63 then b else w.testBit (i+1):=by
 unfold mA;rw[lT];simp[a]
theorem put_eq{w k:Nat}(b:Bool)(o:k<64)(p:w<2^64):(w%2^k|||(if b then 2^k else 0))|||((w&&&(2^64-1-w%2^k))*2%2^64)=qG w k b:=by
 have d:(2:Nat)^k<=2^63:=aW7 E E;have h:w%2^k<2^64:=by have :=aW2 w (aX9 k);omega
 refine Tm (n:=64) (aW6 (aW6 h (by split<;>omega)) (aW2 _ (aX9 _))) _ (λi l=>?_);have e:2^64-1-w%2^k=2^64-(w%2^k+1):=E;have j:(if b=true then 2^k else 0:Nat).testBit i=(b&&decide (i=k)):=by
  cases b
  ·simp
  ·simp[Nat.testBit_two_pow,eq_comm]
 have m:((w&&&(2^64-1-w%2^k))*2%2^64).testBit i=(decide (k<i)&&w.testBit (i-1)):=by
  rw[aX5,e,Nat.mul_comm,show (2:Nat)*(w&&&(2^64-(w%2^k+1)))=2^1*(w&&&(2^64-(w%2^k+1)))from rfl,Nat.testBit_two_pow_mul,aX2,aX8 h,aX5];simp only[l,decide_true,Bool.true_and];by_cases a:1<=i
  ·have c:i-1<64:=E;by_cases g:i-1<k
   ·have f:¬k<i:=E;simp[a,c,g,f]
   ·have f:k<i:=E;simp[a,c,g,f]
  ·have f:¬k<i:=E;simp[a,f]
 rw[aX6,aX6,j,m,aX5];by_cases a:i<k
 ·have d:¬i=k:=E;have c:¬k<i:=E;simp[a,d,c]
 ·by_cases d:i=k
  ·subst d;simp
  ·have c:k<i:=E;simp[a,d,c]
theorem cut_eq{w k:Nat}(b:Bool)(s:k<64)(r:w<2^64):(w%2^k|||(w/2&&&(2^64-1-w/2%2^k)))|||(if b then 2^63 else 0)=mA w k b:=by
 have f:(2:Nat)^k<=2^63:=aW7 E E;have p:w%2^k<2^64:=by have :=aW2 w (aX9 k);omega
 have h:w/2%2^k<2^64:=by have :=aW2 (w/2) (aX9 k);omega
 have g:w/2&&&(2^64-1-w/2%2^k)<2^64:=aV6 Nat.and_le_left E;refine Tm (n:=64) (aW6 (aW6 p g) (by split<;>omega)) _ (λi o=>?_);have e:2^64-1-w/2%2^k=2^64-(w/2%2^k+1):=E;have l:(if b=true then 2^63 else 0:Nat).testBit i=(b&&decide (i=63)):=by
  cases b
  ·simp
  ·rw[bd0 rfl,Nat.testBit_two_pow];simp[eq_comm]
 have m:(w/2).testBit i=w.testBit (i+1):=by rw[Nat.testBit_succ]
 have q:(w/2&&&(2^64-1-w/2%2^k)).testBit i=(!decide (i<k)&&w.testBit (i+1)):=by
  rw[e,aX2,aX8 h,aX5,m];by_cases a:i<k<;>simp[a,o]
 rw[aX6,aX6,l,q,aX5];by_cases a:i<k
 ·have f:¬i=63:=E;simp[a,f]
 ·by_cases f:i=63
  ·have j:w.testBit 64=false:=ak0 r E;subst f;simp[a,j]
  ·simp[a,f]
theorem aI0{w:Nat}(a:w<2^64):decide (w/2^63=1)=w.testBit 63:=by
 rw[Nat.testBit_eq_decide_div_mod_eq];have :w/2^63<2:=E;congr 1;rw[aW1 this]
theorem av6(w k:Nat):decide ((w/2^k)&&&1=1)=w.testBit k:=by
 rw[Nat.testBit_eq_decide_div_mod_eq,Nat.and_one_is_mod]
def cR(x:Nat):Nat:=2^64-1-x
theorem Sq(x:Nat):cR x<2^64:=by unfold cR;omega
theorem Lp{x i:Nat}(b:x<2^64)(a:i<64):(cR x).testBit i= !x.testBit i:=by
 unfold cR;rw[show 2^64-1-x=2^64-(x+1) by omega,aX8 b];simp[a]
def seen(x j i:Nat):Bool:=if x.testBit i then decide (pc x i<j)else decide (pc x 64+pc (cR x) i<j)
def aX(l:List Bool)(i:Nat):Bool:=l[i]?.getD false
def loW(l:List Bool):Nat:=gC (aX l) 64
def hiW(l:List Bool):Nat:=gC (λi=>aX l (64+i)) 64
theorem dS(l:List Bool):loW l<2^64:=lA _ _
theorem dR(l:List Bool):hiW l<2^64:=lA _ _
theorem dA{l:List Bool}{i:Nat}(h:i<64):(loW l).testBit i=aX l i:=by unfold loW;rw[lT];simp[h]
theorem cZ{l:List Bool}{i:Nat}(h:i<64):(hiW l).testBit i=aX l (64+i):=by unfold hiW;rw[lT];simp[h]
theorem jE{l:List Bool}{i:Nat}(h:l.length<=i):aX l i=false:=by unfold aX;rw[aO1 h];rfl
theorem aC2:loW []=0:=by decide+kernel
theorem aB4:hiW []=0:=by decide+kernel
def inL{α:Type}(l:List α)(k:Nat)(b:α):List α:=l.take k++b::l.drop k
def bj0{α:Type}(l:List α)(k:Nat):List α:=l.take k++l.drop (k+1)
theorem iK{a:Type}{l:List a}{k:Nat}{b:a}(h:k<=l.length):(inL l k b).length=l.length+1:=by simp[inL];omega
theorem fN{a:Type}{l:List a}{k:Nat}(h:k<l.length):(bj0 l k).length=l.length-1:=by simp[bj0];omega
theorem aB7{c:Type}{l:List c}{k:Nat}{b:c}(h:k<=l.length)(i:Nat):(inL l k b)[i]? =if i<k then l[i]? else if i=k then some b else l[i-1]? :=by
 unfold inL;rw[aN5,aQ1,aW0 h];split
 ·rename_i a;rw[aO6,bd0 a]
 ·rename_i a;by_cases e:i=k
  ·subst e;simp
  ·rw[bc9 e];obtain⟨d,f⟩:∃d,i-k=d+1:=⟨i-k-1,E⟩;rw[f,aN8,aN9];congr 1;omega
theorem aq3{b:Type}{l:List b}{k:Nat}(h:k<l.length)(i:Nat):(bj0 l k)[i]? =if i<k then l[i]? else l[i+1]? :=by
 unfold bj0;rw[aN5,aQ1,aW0 E];split
 ·rename_i a;rw[aO6,bd0 a]
 ·rename_i a;rw[aN9];congr 1;omega
theorem tI{l:List Bool}{k:Nat}{b:Bool}(h:k<=l.length)(i:Nat):aX (inL l k b) i=if i<k then aX l i else if i=k then b else aX l (i-1):=by
 unfold aX;rw[aB7 h];split
 ·rfl
 ·split<;>rfl
theorem qX{l:List Bool}{k:Nat}(h:k<l.length)(i:Nat):aX (bj0 l k) i=if i<k then aX l i else aX l (i+1):=by
 unfold aX;rw[aq3 h];split<;>rfl
theorem lo_in{l:List Bool}{k:Nat}(b:Bool)(h:k<=l.length)(c:k<64):loW (inL l k b)=qG (loW l) k b:=by
 refine eC (dS _) (Fr _ _ _) (λi a=>?_);rw[dA a,Bc a,tI h];split
 ·rw[dA a]
 ·split
  ·rfl
  ·rw[dA E]
theorem hi_in{l:List Bool}{k:Nat}(b:Bool)(h:k<=l.length)(c:k<64):hiW (inL l k b)=qG (hiW l) 0 ((loW l).testBit 63):=by
 refine eC (dR _) (Fr _ _ _) (λi a=>?_);rw[cZ a,Bc a,tI h,bc9 E,bc9 E,bc9 E,dA E];by_cases e:i=0
 ·subst e;rfl
 ·rw[bc9 e,cZ E];congr 1;omega
theorem lo_in2{l:List Bool}{k:Nat}(b:Bool)(h:k<=l.length)(c:64<=k):loW (inL l k b)=loW l:=by
 refine eC (dS _) (dS _) (λi a=>?_);rw[dA a,dA a,tI h,bd0 E]
theorem hi_in2{l:List Bool}{k:Nat}(b:Bool)(h:k<=l.length)(f:64<=k)(d:k<128):hiW (inL l k b)=qG (hiW l) (k-64) b:=by
 refine eC (dR _) (Fr _ _ _) (λi a=>?_);rw[cZ a,Bc a,tI h];by_cases c:i<k-64
 ·rw[bd0 E,bd0 c,cZ a]
 ·rw[bc9 E,bc9 c];by_cases e:i=k-64
  ·rw[bd0 E,bd0 e]
  ·rw[bc9 E,bc9 e,cZ E];congr 1;omega
theorem lo_out{l:List Bool}{k:Nat}(h:k<l.length)(b:k<64):loW (bj0 l k)=mA (loW l) k ((hiW l).testBit 0):=by
 refine eC (dS _) (Fi _ _ _) (λi a=>?_);rw[dA a,Ak a,qX h,cZ E];split
 ·rw[dA a]
 ·split
  ·rename_i e;subst e;rfl
  ·rw[dA E]
theorem hi_out{l:List Bool}{k:Nat}(h:k<l.length)(c:k<64)(a:l.length<=128):hiW (bj0 l k)=mA (hiW l) 0 false:=by
 refine eC (dR _) (Fi _ _ _) (λi b=>?_);rw[cZ b,Ak b,qX h,bc9 E,bc9 E];split
 ·rw[jE E]
 ·rw[cZ E];rfl
theorem aC3{l:List Bool}{k:Nat}(h:k<l.length)(b:64<=k):loW (bj0 l k)=loW l:=by
 refine eC (dS _) (dS _) (λi a=>?_);rw[dA a,dA a,qX h,bd0 E]
theorem aB5{l:List Bool}{k:Nat}(h:k<l.length)(d:64<=k)(c:l.length<=128):hiW (bj0 l k)=mA (hiW l) (k-64) false:=by
 refine eC (dR _) (Fi _ _ _) (λi a=>?_);rw[cZ a,Ak a,qX h];by_cases b:i<k-64
 ·rw[bd0 E,bd0 b,cZ a]
 ·rw[bc9 E,bc9 b];split
  ·rw[jE E]
  ·rw[cZ E];rfl
def aM(l:List Bool)(k:Nat)(b:Bool):Nat:=(l.take k).count b
theorem iC{l:List Bool}{k:Nat}(b:Bool)(h:k<l.length):aM l (k+1) b=aM l k b+(if l[k]?.getD false=b then 1 else 0):=by
 unfold aM;rw[aT5,aO0 h,aY8,aM1,List.count_singleton];simp
theorem eQ{l:List Bool}{k:Nat}(b:Bool)(h:l.length<=k):aM l k b=l.count b:=by unfold aM;rw[aT9 h]
theorem tX(l:List Bool)(k:Nat)(b:Bool):aM l k b<=k/\aM l k b<=l.length:=by
 unfold aM;have :=List.count_le_length (a:=b) (l:=l.take k);rw[aQ1]at this;omega
theorem Vl(l:List Bool){i j:Nat}(b:Bool)(h:i<=j):aM l i b<=aM l j b:=by
 unfold aM;have :l.take i=(l.take j).take i:=by rw[aU1,aW0 h]
 rw[this];exact List.Sublist.count_le _ (aU0 _ _)
theorem mH{l:List Bool}{i j:Nat}{b:Bool}(h:i<j)(c:i<l.length)(a:l[i]?.getD false=b):aM l i b<aM l j b:=by
 have :=Vl l b (i:=i+1) (j:=j) E;rw[iC b c,bd0 a]at this;omega
theorem tW{l:List Bool}{k:Nat}(h:k<=l.length):aM l k true+aM l k false=k:=by
 induction k with
 | zero=>simp[aM]
 | succ k a=>
  have :=a E;rw[iC true E,iC false E];cases l[k]?.getD false<;>simp<;>omega
theorem Jl{l:List Bool}:∀{k:Nat},k<=64->pc (loW l) k=aM l k true
 | 0,_=>by simp[pc,aM]
 | k+1,h=>by
  rw[pM,Jl E,dA E];by_cases a:k<l.length
  ·rw[iC true a];unfold aX;cases l[k]?.getD false<;>simp
  ·rw[jE E,eQ true E,eQ true E];rfl
theorem Ve{l:List Bool}:∀{k:Nat},k<=64->aM l 64 true+pc (hiW l) k=aM l (64+k) true
 | 0,_=>by simp[pc]
 | k+1,h=>by
  rw[pM,<-aU3,Ve E,cZ E,<-aU3];by_cases a:64+k<l.length
  ·rw[iC true a];unfold aX;cases l[64+k]?.getD false<;>simp
  ·rw[jE E,eQ true E,eQ true E];rfl
theorem aE3{l:List Bool}(h:l.length<=128):pc (loW l) 64+pc (hiW l) 64=l.count true:=by
 rw[Jl (aV3 _),Ve (aV3 _),eQ true E]
def cT(l:List Bool)(j:Int)(b:Bool):Int:=match (List.range l.length).find? λi=>decide (l[i]?.getD false=b)&&decide ((aM l i b:Int)=j)with
 | some i=>(i:Int)
 | none=> -1
theorem iF{l:List Bool}{k:Nat}{j:Int}{b:Bool}(e:k<l.length)(c:l[k]?.getD false=b)(f:(aM l k b:Int)=j):cT l j b=k:=by
 unfold cT;have :(List.range l.length).find? (λi=>decide (l[i]?.getD false=b)&&decide ((aM l i b:Int)=j))=some k:=by
  rw[List.find?_range_eq_some];refine⟨by simp[c,f],by simpa using e,λi d=>?_⟩;by_cases a:l[i]?.getD false=b
  ·have :=mH (b:=b) d E a;simp;omega
  ·simp[a]
 rw[this]
theorem kW{l:List Bool}{j:Int}{b:Bool}(h:∀i,i<l.length->l[i]?.getD false=b->(aM l i b:Int)≠j):cT l j b= -1:=by
 unfold cT;have :(List.range l.length).find? (λi=>decide (l[i]?.getD false=b)&&decide ((aM l i b:Int)=j))=none:=by
  rw[List.find?_eq_none];intro i c;simp only[aR8]at c;by_cases a:l[i]?.getD false=b
  ·have :=h i c a;simp[this]
  ·simp[a]
 rw[this]
theorem Ng{l:List Bool}{j:Int}{b:Bool}(h:j<0):cT l j b= -1:=kW (λi _ _=>E)
theorem ae3{l:List Bool}{j:Int}{b:Bool}(h:(l.count b:Int)<=j):cT l j b= -1:=kW (λi a c=>by
 have :=mH (b:=b) (j:=l.length) a a c;rw[eQ b (aV3 _)]at this;omega)
def eU(x:Nat)(b:Bool):Nat:=if b then x else cR x
theorem tN{x:Nat}(h:x<2^64)(b:Bool):eU x b<2^64:=by unfold eU;split;exact h;exact Sq x
theorem rD{x i:Nat}(c:x<2^64)(a:i<64)(b:Bool):(eU x b).testBit i=decide (x.testBit i=b):=by
 unfold eU;cases b
 ·simp[Lp c a]
 ·simp
theorem iW{l:List Bool}(b:Bool):∀{k:Nat},k<=64->k<=l.length->pc (eU (loW l) b) k=aM l k b
 | 0,_,_=>by simp[pc,aM]
 | k+1,h,h2=>by
  rw[pM,iW b E E,rD (dS l) E,dA E,iC b E];unfold aX;by_cases e:l[k]?.getD false=b<;>simp[e]
theorem rI{l:List Bool}(b:Bool)(a:64<=l.length):∀{k:Nat},k<=64->64+k<=l.length->aM l 64 b+pc (eU (hiW l) b) k=aM l (64+k) b
 | 0,_,_=>by simp[pc]
 | k+1,h,h2=>by
  rw[pM,<-aU3,rI b a E E,rD (dR l) E,cZ E,<-aU3,iC b E];unfold aX;by_cases e:l[64+k]?.getD false=b<;>simp[e]
theorem ae6{l:List Bool}{j:Nat}{b:Bool}(h:j<pc (eU (loW l) b) 64):∃k:Nat,k<64/\sel (eU (loW l) b) j=k/\cT l j b=if k<l.length then (k:Int)else -1:=by
 obtain⟨k,d,e,g,n⟩:=Nk h;refine⟨k,d,n,?_⟩;rw[rD (dS l) d,dA d,bc3]at e;split
 ·rename_i a;exact iF a e (by rw[<-iW b E E,g])
 ·rename_i a;refine kW (λi f c=>?_);have o:=mH (b:=b) (j:=l.length) f f c;have m:=pL (eU (loW l) b) (i:=l.length) (j:=k) E;rw[iW b E (aV3 _),g]at m;omega
theorem ae5{l:List Bool}{j:Nat}{b:Bool}(h:pc (eU (loW l) b) 64<=j)(p:j-pc (eU (loW l) b) 64<pc (eU (hiW l) b) 64)(g:l.length<=128):∃k:Nat,k<64/\sel (eU (hiW l) b) ((j:Int)-(pc (eU (loW l) b) 64:Nat))=k/\cT l j b=if 64+k<l.length then ((64+k:Nat):Int)else -1:=by
 obtain⟨k,f,n,s,t⟩:=Nk p;refine⟨k,f,by rw[<-t];congr 1;omega,?_⟩;rw[rD (dR l) f,cZ f,bc3]at n;by_cases a:64<=l.length
 ·have o:=iW (l:=l) b (aV3 64) a;split
  ·rename_i e;exact iF e n (by rw[<-rI b a E E,s];omega)
  ·rename_i e;refine kW (λi d c=>?_);have q:=mH (b:=b) (j:=l.length) d d c;have m:=pL (eU (hiW l) b) (i:=l.length-64) (j:=k) E;have r:=rI (l:=l) b a (k:=l.length-64) E E;rw[show 64+(l.length-64)=l.length by omega]at r;omega
 ·rw[bc9 E];refine kW (λi d c=>?_);have q:=mH (b:=b) (j:=l.length) d d c;have m:=pL (eU (loW l) b) (i:=l.length) (j:=64) E;rw[iW b E (aV3 _)]at m;omega
theorem ae7{l:List Bool}{j:Nat}{b:Bool}(h:pc (eU (loW l) b) 64+pc (eU (hiW l) b) 64<=j)(d:l.length<=128):cT l j b= -1:=by
 refine kW (λi f c=>?_);have n:=mH (b:=b) (j:=l.length) f f c;by_cases a:64<=l.length
 ·have g:=iW (l:=l) b (aV3 64) a;have m:=rI (l:=l) b a (k:=l.length-64) E E;rw[show 64+(l.length-64)=l.length by omega]at m;have e:=pL (eU (hiW l) b) (i:=l.length-64) (j:=64) E;omega
 ·have e:=pL (eU (loW l) b) (i:=l.length) (j:=64) E;rw[iW b E (aV3 _)]at e;omega
theorem Sg{l:List Bool}{b:Bool}(h:l.length<64):loW (l++[b])=loW l|||(if b then 2^l.length else 0):=by
 refine eC (dS _) (aW6 (dS _) ?_) (λi a=>?_)
 ·have :=aW7 (n:=2) (i:=l.length) (j:=63) E (E);split<;>omega
 ·rw[dA a,aX6,dA a];have d:(if b=true then 2^l.length else 0:Nat).testBit i=(b&&decide (i=l.length)):=by
   cases b
   ·simp
   ·simp[Nat.testBit_two_pow,eq_comm]
  rw[d];unfold aX;rw[aN5];split
  ·rename_i c;have :¬i=l.length:=E;simp[this]
  ·rename_i c;by_cases e:i=l.length
   ·subst e;simp
   ·rw[aO1 (l:=l) E,aO1 (l:=[b]) (by simp;omega)];simp[e]
theorem Lk{l:List Bool}{b:Bool}(h:64<=l.length):loW (l++[b])=loW l:=by
 refine eC (dS _) (dS _) (λi a=>?_);rw[dA a,dA a];unfold aX;rw[aN6 E]
theorem Rz{l:List Bool}{b:Bool}(h:l.length<64):hiW (l++[b])=hiW l:=by
 refine eC (dR _) (dR _) (λi a=>?_);rw[cZ a,cZ a,jE (l:=l++[b]) (by simp;omega),jE (l:=l) E]
theorem Kx{l:List Bool}{b:Bool}(h:64<=l.length)(a:l.length<128):hiW (l++[b])=hiW l|||(if b then 2^(l.length-64)else 0):=by
 refine eC (dR _) (aW6 (dR _) ?_) (λi c=>?_)
 ·have :=aW7 (n:=2) (i:=l.length-64) (j:=63) E (E);split<;>omega
 ·rw[cZ c,aX6,cZ c];have f:(if b=true then 2^(l.length-64)else 0:Nat).testBit i=(b&&decide (i=l.length-64)):=by
   cases b
   ·simp
   ·simp[Nat.testBit_two_pow,eq_comm]
  rw[f];unfold aX;rw[aN5];split
  ·rename_i d;have :¬i=l.length-64:=E;simp[this]
  ·rename_i d;by_cases e:i=l.length-64
   ·subst e;rw[show 64+(l.length-64)=l.length by omega];simp
   ·rw[aO1 (l:=l) E,aO1 (l:=[b]) (by simp;omega)];simp[e]
inductive ST where
 | leaf (l:List Bool)
 | pair (a b:ST)
def ST.bits:ST->List Bool
 | .leaf l=>l
 | .pair a b=>a.bits++b.bits
def ST.high:ST->Nat
 | .leaf _=>0
 | .pair a b=>max a.high b.high+1
def ST.leaves:ST->Nat
 | .leaf _=>1
 | .pair a b=>a.leaves+b.leaves
def ST.size:ST->Nat
 | .leaf _=>1
 | .pair a b=>a.size+b.size+1
def ST.Avl:ST->Prop
 | .leaf _=>True
 | .pair a b=>a.Avl/\b.Avl/\a.high<=b.high+1/\b.high<=a.high+1
def ST.Fill:ST->Prop
 | .leaf l=>32<=l.length/\l.length<=128
 | .pair a b=>a.Fill/\b.Fill
def ST.Root:ST->Prop
 | .leaf l=>1<=l.length/\l.length<=128
 | .pair a b=>a.Fill/\b.Fill
def ST.Le:ST->Prop
 | .leaf l=>l.length<=128
 | .pair a b=>a.Le/\b.Le
def ST.few:ST->Bool
 | .leaf l=>decide (l.length<32)
 | .pair _ _=>false
def ST.isLeaf:ST->Bool
 | .leaf _=>true
 | .pair _ _=>false
theorem ST.Fill.root {t:ST}(h:t.Fill):t.Root:=by
 cases t with
 | leaf l=>obtain⟨d,c⟩:=h;exact⟨E,c⟩
 | pair a b=>exact h
theorem ST.size_leaves (t:ST):t.size+1=2*t.leaves:=by
 induction t with
 | leaf l=>rfl
 | pair a b c d=>simp only[ST.size,ST.leaves];omega
theorem ST.leaves_pos (t:ST):1<=t.leaves:=by have :=t.size_leaves;omega
theorem ST.high_size (t:ST):t.high<t.size:=by
 induction t with
 | leaf l=>simp[ST.high,ST.size]
 | pair a b c d=>simp only[ST.high,ST.size];omega
theorem ST.Fill.len {t:ST}(h:t.Fill):32*t.leaves<=t.bits.length:=by
 induction t with
 | leaf l=>obtain⟨e,f⟩:=h;simp only[ST.leaves,ST.bits];omega
 | pair a b c d=>
  have :=c h.1;have :=d h.2;simp only[ST.leaves,ST.bits,aP3];omega
theorem ST.Root.pos {t:ST}(h:t.Root):1<=t.bits.length:=by
 cases t with
 | leaf l=>exact h.1
 | pair a b=>have :=h.1.len;have :=a.leaves_pos;simp only[ST.bits,aP3];omega
theorem ST.Root.len {t:ST}(h:t.Root):32*(t.leaves-1)<=t.bits.length:=by
 cases t with
 | leaf l=>simp[ST.leaves]
 | pair a b=>have :=h.1.len;have :=h.2.len;simp only[ST.leaves,ST.bits,aP3];omega
def kF:ST->ST
 | .pair (.pair a b) c=> .pair a (.pair b c)
 | t=>t
def kE:ST->ST
 | .pair a (.pair b c)=> .pair (.pair a b) c
 | t=>t
def ST.hl:ST->Nat
 | .leaf _=>0
 | .pair a _=>a.high
def ST.hr:ST->Nat
 | .leaf _=>0
 | .pair _ b=>b.high
def bal:ST->ST
 | .leaf l=> .leaf l
 | .pair l r=>
  if r.high+1<l.high then (if l.hl<l.hr then kF (.pair (kE l) r)else kF (.pair l r))
  else if l.high+1<r.high then (if r.hr<r.hl then kE (.pair l (kF r))else kE (.pair l r))
  else .pair l r
theorem Hx(t:ST):(kF t).bits=t.bits:=by
 unfold kF;split
 ·simp[ST.bits]
 ·rfl
theorem Ht(t:ST):(kE t).bits=t.bits:=by
 unfold kE;split
 ·simp[ST.bits]
 ·rfl
theorem Ab(t:ST):(bal t).bits=t.bits:=by
 cases t with
 | leaf l=>rfl
 | pair l r=>
  simp only[bal];split
  ·split<;>simp[Hx,Ht,ST.bits]
  ·split
   ·split<;>simp[Hx,Ht,ST.bits]
   ·rfl
theorem Hy(t:ST):(kF t).size=t.size:=by
 unfold kF;split
 ·simp only[ST.size];omega
 ·rfl
theorem Hv(t:ST):(kE t).size=t.size:=by
 unfold kE;split
 ·simp only[ST.size];omega
 ·rfl
theorem tH(t:ST):(bal t).size=t.size:=by
 cases t with
 | leaf l=>rfl
 | pair l r=>
  simp only[bal];split
  ·split<;>simp[Hy,Hv,ST.size]
  ·split
   ·split<;>simp[Hy,Hv,ST.size]
   ·rfl
theorem xO{t:ST}:(kF t).Fill↔t.Fill:=by
 unfold kF;split
 ·simp only[ST.Fill,and_assoc]
 ·exact Iff.rfl
theorem xN{t:ST}:(kE t).Fill↔t.Fill:=by
 unfold kE;split
 ·simp only[ST.Fill,and_assoc]
 ·exact Iff.rfl
theorem Ac{l r:ST}(a:l.Fill)(b:r.Fill):(bal (.pair l r)).Fill:=by
 have h:(ST.pair l r).Fill:=⟨a,b⟩;simp only[bal];split
 ·split
  ·rw[xO];exact⟨xN.2 a,b⟩
  ·rw[xO];exact h
 ·split
  ·split
   ·rw[xN];exact⟨a,xO.2 b⟩
   ·rw[xN];exact h
  ·exact h
theorem Fc{l r:ST}(m:l.Avl)(n:r.Avl)(j:l.high<=r.high+2)(k:r.high<=l.high+2):(bal (.pair l r)).Avl/\(bal (.pair l r)).high<=max l.high r.high+1/\max l.high r.high<=(bal (.pair l r)).high/\(l.high<=r.high+1->r.high<=l.high+1->(bal (.pair l r)).high=max l.high r.high+1):=by
 simp only[bal];by_cases g:r.high+1<l.high
 ·rw[bd0 g];cases l with
  | leaf x=>simp[ST.high]at g
  | pair a b=>
   obtain⟨h,i,o,p⟩:=m;simp only[ST.high]at j k g;by_cases d:a.high<b.high
   ·rw[bd0 (show (ST.pair a b).hl<(ST.pair a b).hr from d)];cases b with
    | leaf x=>simp[ST.high]at d
    | pair q s=>
     obtain⟨e,f,t,u⟩:=i;simp only[ST.high]at j k g d o p;simp only[kE,kF,ST.Avl,ST.high];refine⟨⟨⟨h,e,?_,?_⟩,⟨f,n,?_,?_⟩,?_,?_⟩,?_,?_,?_⟩<;>omega
   ·rw[bc9 (show ¬(ST.pair a b).hl<(ST.pair a b).hr from d)];simp only[kF,ST.Avl,ST.high];refine⟨⟨h,⟨i,n,?_,?_⟩,?_,?_⟩,?_,?_,?_⟩<;>omega
 ·rw[bc9 g];by_cases c:l.high+1<r.high
  ·rw[bd0 c];cases r with
   | leaf x=>simp[ST.high]at c
   | pair a b=>
    obtain⟨h,i,o,p⟩:=n;simp only[ST.high]at j k g c;by_cases d:b.high<a.high
    ·rw[bd0 (show (ST.pair a b).hr<(ST.pair a b).hl from d)];cases a with
     | leaf x=>simp[ST.high]at d
     | pair q s=>
      obtain⟨e,f,t,u⟩:=h;simp only[ST.high]at j k g c d o p;simp only[kE,kF,ST.Avl,ST.high];refine⟨⟨⟨m,e,?_,?_⟩,⟨f,i,?_,?_⟩,?_,?_⟩,?_,?_,?_⟩<;>omega
    ·rw[bc9 (show ¬(ST.pair a b).hr<(ST.pair a b).hl from d)];simp only[kE,ST.Avl,ST.high];refine⟨⟨⟨m,h,?_,?_⟩,i,?_,?_⟩,?_,?_,?_⟩<;>omega
  ·rw[bc9 c];refine⟨⟨m,n,E,E⟩,aV3 _,?_,λ_ _=>rfl⟩;simp only[ST.high];omega
def dK:ST->Nat->Bool->ST
 | .leaf l,k,b=>if l.length=128 then
   (if 64<k then .pair (.leaf (l.take 64)) (.leaf (inL (l.drop 64) (k-64) b))else .pair (.leaf (inL (l.take 64) k b)) (.leaf (l.drop 64)))
  else .leaf (inL l k b)
 | .pair x y,k,b=>if k<=x.bits.length then bal (.pair (dK x k b) y)else bal (.pair x (dK y (k-x.bits.length) b))
theorem Hb{a:Type}{l m:List a}{k:Nat}{b:a}(h:k<=l.length):inL (l++m) k b=inL l k b++m:=by
 unfold inL;rw[aT7 h,aM4 h];simp
theorem Hd{a:Type}{l m:List a}{k:Nat}{b:a}(h:l.length<=k):inL (l++m) k b=l++inL m (k-l.length) b:=by
 unfold inL;rw[List.take_append,aM3,aT9 h,aM6 h];simp
theorem Up{a:Type}{l m:List a}{k:Nat}(h:k<l.length):bj0 (l++m) k=bj0 l k++m:=by
 unfold bj0;rw[aT7 E,aM4 E];simp
theorem Uq{a:Type}{l m:List a}{k:Nat}(h:l.length<=k):bj0 (l++m) k=l++bj0 m (k-l.length):=by
 unfold bj0;rw[List.take_append,aM3,aT9 h,aM6 E];rw[show k+1-l.length=k-l.length+1 by omega];simp
theorem xB{t:ST}{k:Nat}{b:Bool}(h:k<=t.bits.length):(dK t k b).bits=inL t.bits k b:=by
 induction t generalizing k with
 | leaf l=>
  simp only[ST.bits]at h;simp only[dK];split
  ·rename_i a;split
   ·rename_i e;simp only[ST.bits];have :=Hd (l:=l.take 64) (m:=l.drop 64) (k:=k) (b:=b) (by simp;omega);rw[aT6]at this;rw[this];simp[a]
   ·rename_i e;simp only[ST.bits];have :=Hb (l:=l.take 64) (m:=l.drop 64) (k:=k) (b:=b) (by simp;omega);rw[aT6]at this;rw[this]
  ·rfl
 | pair x y c d=>
  simp only[ST.bits,aP3]at h;simp only[dK];split
  ·rename_i a;rw[Ab];simp only[ST.bits];rw[c a,Hb a]
  ·rename_i a;rw[Ab];simp only[ST.bits];rw[d E,Hd E]
theorem Kz{t:ST}(h:t.Avl)(k:Nat)(b:Bool):(dK t k b).Avl/\t.high<=(dK t k b).high/\(dK t k b).high<=t.high+1:=by
 induction t generalizing k with
 | leaf l=>
  simp only[dK];split
  ·split<;>simp[ST.Avl,ST.high]
  ·simp[ST.Avl,ST.high]
 | pair x y f g=>
  obtain⟨i,j,q,r⟩:=h;simp only[dK];split
  ·obtain⟨e,o,p⟩:=f i k;obtain⟨d,m,n,c⟩:=Fc e j E E;refine⟨d,?_,?_⟩
   ·simp only[ST.high];by_cases a:(dK x k b).high<=y.high+1
    ·rw[c a E];omega
    ·omega
   ·simp only[ST.high];by_cases a:(dK x k b).high<=y.high+1
    ·rw[c a E];omega
    ·omega
  ·obtain⟨e,o,p⟩:=g j (k-x.bits.length);obtain⟨d,m,n,c⟩:=Fc i e E E;refine⟨d,?_,?_⟩
   ·simp only[ST.high];by_cases a:(dK y (k-x.bits.length) b).high<=x.high+1
    ·rw[c E a];omega
    ·omega
   ·simp only[ST.high];by_cases a:(dK y (k-x.bits.length) b).high<=x.high+1
    ·rw[c E a];omega
    ·omega
theorem He{t:ST}(h:t.Fill){k:Nat}(b:Bool)(c:k<=t.bits.length):(dK t k b).Fill:=by
 induction t generalizing k with
 | leaf l=>
  obtain⟨a,f⟩:=h;simp only[ST.bits]at c;simp only[dK];split
  ·rename_i g;split
   ·refine⟨⟨by simp;omega,by simp;omega⟩,?_,?_⟩;all_goals rw[iK (by simp;omega)];simp;omega
   ·refine⟨⟨?_,?_⟩,by simp;omega,by simp;omega⟩;all_goals rw[iK (by simp;omega)];simp;omega
  ·refine⟨?_,?_⟩;all_goals rw[iK c];omega
 | pair x y d e=>
  simp only[ST.bits,aP3]at c;simp only[dK];split
  ·rename_i a;exact Ac (d h.1 a) h.2
  ·rename_i a;exact Ac h.1 (e h.2 E)
theorem Zl{t:ST}(h:t.Root){k:Nat}(b:Bool)(a:k<=t.bits.length):(dK t k b).Root:=by
 cases t with
 | leaf l=>
  obtain⟨d,e⟩:=h;by_cases c:l.length=128
  ·exact(He (t:= .leaf l) ⟨E,E⟩ b a).root
  ·simp only[dK,bc9 c,ST.Root];simp only[ST.bits]at a;rw[iK a];omega
 | pair x y=>exact(He (t:= .pair x y) h b a).root
def lev(x y:List Bool):ST:=if x.length+y.length<=128 then .leaf (x++y)else .pair (.leaf ((x++y).take ((x.length+y.length)/2))) (.leaf ((x++y).drop ((x.length+y.length)/2)))
def cX:ST->ST
 | .leaf l=> .leaf l
 | .pair l r=>if l.few=false/\r.few=false then .pair l r else match l,r with
  | .leaf x, .leaf y=>lev x y
  | .leaf x, .pair (.leaf y) c=>if x.length+y.length<=128 then .pair (.leaf (x++y)) c else .pair (.leaf ((x++y).take ((x.length+y.length)/2))) (.pair (.leaf ((x++y).drop ((x.length+y.length)/2))) c)
  | .pair c (.leaf x), .leaf y=>if x.length+y.length<=128 then .pair c (.leaf (x++y))else .pair (.pair c (.leaf ((x++y).take ((x.length+y.length)/2)))) (.leaf ((x++y).drop ((x.length+y.length)/2)))
  | l,r=> .pair l r
theorem am3(x y:List Bool):(lev x y).bits=x++y:=by
 unfold lev;split
 ·rfl
 ·simp[ST.bits]
theorem xF(t:ST):(cX t).bits=t.bits:=by
 cases t with
 | leaf l=>rfl
 | pair l r=>
  simp only[cX];split
  ·rfl
  ·split
   ·rw[am3];rfl
   ·split
    ·simp[ST.bits]
    ·simp only[ST.bits];rw[<-aL1,aT6,aL1]
   ·split
    ·simp[ST.bits]
    ·simp only[ST.bits];rw[aL1,aT6,aL1]
   ·rfl
def ST.Less:ST->Prop
 | .leaf l=>31<=l.length/\l.length<=128
 | .pair a b=>a.Fill/\b.Fill
theorem ST.Less.fill {t:ST}(h:t.Less)(d:t.few=false):t.Fill:=by
 cases t with
 | leaf l=>
  obtain⟨e,c⟩:=h;simp only[ST.few,bc1]at d;exact⟨E,c⟩
 | pair a b=>exact h
theorem ST.Fill.less {t:ST}(h:t.Fill):t.Less:=by
 cases t with
 | leaf l=>obtain⟨d,c⟩:=h;exact⟨E,c⟩
 | pair a b=>exact h
theorem ST.Fill.not_few {t:ST}(h:t.Fill):t.few=false:=by
 cases t with
 | leaf l=>obtain⟨c,d⟩:=h;simp only[ST.few,bc1];omega
 | pair a b=>rfl
theorem ST.leaf_of_high {t:ST}(h:t.high=0):∃l,t= .leaf l:=by
 cases t with
 | leaf l=>exact⟨l,rfl⟩
 | pair a b=>simp[ST.high]at h
theorem ST.few_high {t:ST}(h:t.few=true):t.high=0:=by
 cases t with
 | leaf l=>rfl
 | pair a b=>simp[ST.few]at h
theorem Fo{l r:ST}(F:l.Avl)(G:r.Avl)(m:l.Less)(n:r.Less)(C:l.high<=r.high+2)(D:r.high<=l.high+2)(B:(l.few=true\/r.few=true)->l.high<=r.high+1/\r.high<=l.high+1):(cX (.pair l r)).Fill/\(match cX (.pair l r)with | .leaf _=>l.high=0/\r.high=0/\(l.few=true\/r.few=true) | .pair a b=>a.Avl/\b.Avl/\a.high<=b.high+2/\b.high<=a.high+2/\max a.high b.high<=max l.high r.high/\(a.high<=l.high/\b.high<=r.high/\r.high<=b.high+1/\l.high<=a.high+1/\((a=l/\b=r)\/(a.high<=b.high+1/\b.high<=a.high+1/\(l.few=true\/r.few=true))))/\max l.high r.high<=max a.high b.high+1):=by
 by_cases k:l.few=false/\r.few=false
 ·simp only[cX,bd0 k];exact⟨⟨m.fill k.1,n.fill k.2⟩,F,G,C,D,aV3 _,⟨aV3 _,aV3 _,E,E,Es⟩,E⟩
 ·have g:l.few=true\/r.few=true:=by
   rcases Bool.eq_false_or_eq_true l.few with h | h
   ·exact Ei h
   ·rcases Bool.eq_false_or_eq_true r.few with o | o
    ·exact Ej o
    ·exact absurd ⟨h,o⟩ k
  obtain⟨w,A⟩:=B g;simp only[cX,bc9 k];cases l with
  | leaf x=>
   cases r with
   | leaf y=>
    obtain⟨s,t⟩:=m;obtain⟨u,v⟩:=n;simp only[lev];split
    ·refine⟨⟨by simp;omega,by simp;omega⟩,rfl,rfl,g⟩
    ·refine⟨⟨⟨by simp;omega,by simp;omega⟩,by simp;omega,by simp;omega⟩,trivial,trivial,?_⟩;simp only[ST.high];exact⟨E,E,E,⟨E,E,E,E,Ej ⟨E,E,g⟩⟩,E⟩
   | pair d c=>
    have q:d.high=0:=by simp only[ST.high]at A;omega
    have p:c.high=0:=by simp only[ST.high]at A;omega
    obtain⟨y,rfl⟩:=ST.leaf_of_high q;obtain⟨z,rfl⟩:=ST.leaf_of_high p;obtain⟨s,t⟩:=m;obtain⟨⟨u,v⟩,i,j⟩:=n;simp only;split
    ·refine⟨⟨⟨by simp;omega,by simp;omega⟩,i,j⟩,trivial,trivial,?_⟩;simp only[ST.high];exact⟨E,E,E,⟨E,E,E,E,Ej ⟨E,E,g⟩⟩,E⟩
    ·refine⟨⟨⟨by simp;omega,by simp;omega⟩,⟨by simp;omega,by simp;omega⟩,i,j⟩,trivial,⟨trivial,trivial,by simp[ST.high],by simp[ST.high]⟩,?_⟩;simp only[ST.high];exact⟨E,E,E,⟨E,E,E,E,Ej ⟨E,E,g⟩⟩,E⟩
  | pair c d=>
   cases r with
   | leaf y=>
    have q:d.high=0:=by simp only[ST.high]at w;omega
    have p:c.high=0:=by simp only[ST.high]at w;omega
    obtain⟨x,rfl⟩:=ST.leaf_of_high q;obtain⟨z,rfl⟩:=ST.leaf_of_high p;obtain⟨s,t⟩:=n;obtain⟨⟨i,j⟩,u,v⟩:=m;simp only;split
    ·refine⟨⟨⟨i,j⟩,by simp;omega,by simp;omega⟩,trivial,trivial,?_⟩;simp only[ST.high];exact⟨E,E,E,⟨E,E,E,E,Ej ⟨E,E,g⟩⟩,E⟩
    ·refine⟨⟨⟨⟨i,j⟩,by simp;omega,by simp;omega⟩,by simp;omega,by simp;omega⟩,⟨trivial,trivial,by simp[ST.high],by simp[ST.high]⟩,trivial,?_⟩;simp only[ST.high];exact⟨E,E,E,⟨E,E,E,E,Ej ⟨E,E,g⟩⟩,E⟩
   | pair e f=>simp[ST.few]at g
def eW:ST->Nat->ST
 | .leaf l,k=> .leaf (bj0 l k)
 | .pair x y,k=>bal (cX (if k<x.bits.length then .pair (eW x k) y else .pair x (eW y (k-x.bits.length))))
theorem kO{t:ST}{k:Nat}(h:k<t.bits.length):(eW t k).bits=bj0 t.bits k:=by
 induction t generalizing k with
 | leaf l=>rfl
 | pair x y b c=>
  simp only[ST.bits,aP3]at h;simp only[eW];rw[Ab,xF];split
  ·rename_i a;simp only[ST.bits];rw[b a,Up a]
  ·rename_i a;simp only[ST.bits];rw[c E,Uq E]
theorem yM{t:ST}(X:t.Avl)(R:t.Fill){k:Nat}(G:k<t.bits.length):(eW t k).Avl/\(eW t k).Less/\(eW t k).high<=t.high/\t.high<=(eW t k).high+1:=by
 induction t generalizing k with
 | leaf l=>
  obtain⟨u,F⟩:=R;simp only[ST.bits]at G;refine⟨trivial,?_,aV3 _,by simp[ST.high]⟩;simp only[eW,ST.Less];rw[fN G];omega
 | pair x y L M=>
  obtain⟨S,T,g1,g2⟩:=X;obtain⟨C,D⟩:=R;simp only[ST.bits,aP3]at G;have w:∀l r:ST,l.Avl->r.Avl->l.Less->r.Less->l.high<=x.high->x.high<=l.high+1->r.high<=y.high->y.high<=r.high+1->(l=x\/r=y)->
    (l.few=true->r=y/\x.high=0)->(r.few=true->l=x/\y.high=0)->
    (bal (cX (.pair l r))).Avl/\(bal (cX (.pair l r))).Less/\(bal (cX (.pair l r))).high<=max x.high y.high+1/\max x.high y.high+1<=(bal (cX (.pair l r))).high+1:=by
   intro l r v Z V W e1 e2 e3 e4 i m n;have Y:=Fo v Z V W (by rcases i with rfl | rfl<;>omega) (by rcases i with rfl | rfl<;>omega) (by
    intro o
    rcases o with o | o
    ·obtain⟨rfl,s⟩:=m o;have :=ST.few_high o;omega
    ·obtain⟨rfl,s⟩:=n o;have :=ST.few_high o;omega)
   obtain⟨A,q⟩:=Y;cases hmt:cX (.pair l r)with
   | leaf z=>
    rw[hmt]at A q;refine⟨trivial,ST.Fill.less A,by simp[bal,ST.high],?_⟩;obtain⟨q,m3,B⟩:=q;simp only[bal,ST.high];rcases B with B | B
    ·obtain⟨rfl,s⟩:=m B;omega
    ·obtain⟨rfl,s⟩:=n B;omega
   | pair a b=>
    rw[hmt]at A q;simp only at q;obtain⟨p1,p2,p3,p4,p5,⟨p6,a1,p7,p8,N⟩,a0⟩:=q;obtain⟨U,b2,b3,P⟩:=Fc p1 p2 p3 p4;refine⟨U,(Ac A.1 A.2).less,E,?_⟩;rcases N with ⟨rfl,rfl⟩ | ⟨N,O,g⟩
    ·by_cases Q:a.high<=b.high+1/\b.high<=a.high+1
     ·rw[P Q.1 Q.2];rcases i with rfl | rfl<;>omega
     ·rcases i with rfl | rfl<;>omega
    ·rw[P N O];rcases g with g | g
     ·obtain⟨rfl,s⟩:=m g;omega
     ·obtain⟨rfl,s⟩:=n g;omega
  simp only[eW];split
  ·rename_i u;obtain⟨H,I,J,K⟩:=L S C u;refine w _ _ H T I D.less J K (aV3 _) E (Ej rfl) (λh=>⟨rfl,?_⟩) (λh=>by rw[D.not_few]at h;cases h);cases x with
   | leaf l=>rfl
   | pair c d=>
    exfalso;cases hd:eW (.pair c d) k with
    | leaf z=>
     have j:=kO u;rw[hd]at h j;simp only[ST.bits]at j;have v:=C.len;have p:z.length=(ST.pair c d).bits.length-1:=by rw[j];exact fN u
     simp only[ST.leaves,ST.bits]at v p;have :=c.leaves_pos;have :=d.leaves_pos;simp only[ST.few,bc3]at h;omega
    | pair e f=>rw[hd]at h;simp[ST.few]at h
  ·rename_i u;obtain⟨H,I,J,K⟩:=M T D (k:=k-x.bits.length) E;refine w _ _ S H C.less I (aV3 _) E J K (Ei rfl) (λh=>by rw[C.not_few]at h;cases h) (λh=>⟨rfl,?_⟩);cases y with
   | leaf l=>rfl
   | pair c d=>
    exfalso;have F:k-x.bits.length<(ST.pair c d).bits.length:=E;cases hd:eW (.pair c d) (k-x.bits.length)with
    | leaf z=>
     have j:=kO F;rw[hd]at h j;simp only[ST.bits]at j;have v:=D.len;have p:z.length=(ST.pair c d).bits.length-1:=by rw[j];exact fN F
     simp only[ST.leaves,ST.bits]at v p;have :=c.leaves_pos;have :=d.leaves_pos;simp only[ST.few,bc3]at h;omega
    | pair e f=>rw[hd]at h;simp[ST.few]at h
section
variable {a b l:List Bool}{k j:Nat}{x:Bool}
theorem zG(h:k<a.length):aX (a++b) k=aX a k:=by unfold aX;rw[aN6 h]
theorem zH(h:a.length<=k):aX (a++b) k=aX b (k-a.length):=by unfold aX;rw[aN7 h]
theorem zN(h:k<=a.length):aM (a++b) k x=aM a k x:=by unfold aM;rw[aT7 h]
theorem zO(h:a.length<=k):aM (a++b) k x=a.count x+aM b (k-a.length) x:=by
 unfold aM;rw[List.take_append,aM1,aT9 h]
theorem Ts(l:List Bool):l.count true+l.count false=l.length:=by
 have :=tW (l:=l) (k:=l.length) (aV3 _);simpa[aM]using this
theorem count_le(l:List Bool)(x:Bool):l.count x<=l.length:=List.count_le_length
def oX(n ones:Int)(x:Bool):Int:=if x then ones else n-ones
theorem mS(l:List Bool)(x:Bool):oX l.length (l.count true) x=l.count x:=by
 have :=Ts l;cases x<;>simp[oX];omega
theorem Ui(h:k<=l.length):oX k (aM l k true) x=aM l k x:=by
 have :=tW h;cases x<;>simp[oX];omega
theorem sT:∀(x:Bool) (l:List Bool) (j:Nat),j<l.count x->∃k,k<l.length/\l[k]?.getD false=x/\aM l k x=j
 | x,[],j,h=>by simp at h
 | x,y::l,j,h=>by
  by_cases e:y=x
  ·subst e;cases j with
   | zero=>exact⟨0,Es,Es,by simp[aM]⟩
   | succ j=>
    rw[List.count_cons_self]at h;obtain⟨k,f,c,d⟩:=sT y l j E;exact⟨k+1,by simp;omega,by simpa using c,by unfold aM at *;rw[List.take_succ_cons,List.count_cons_self,d]⟩
  ·rw[List.count_cons_of_ne e]at h;obtain⟨k,f,c,d⟩:=sT x l j h;exact⟨k+1,by simp;omega,by simpa using c,by unfold aM at *;rw[List.take_succ_cons,List.count_cons_of_ne e,d]⟩
theorem Wa(h:j<a.count x):cT (a++b) j x=cT a j x:=by
 obtain⟨k,c,d,e⟩:=sT x a j h;rw[iF c d (by rw[e]),iF (l:=a++b) (k:=k) (by simp;omega) (by rw[aN6 c];exact d) (by rw[zN E,e])]
theorem Wb(h:a.count x<=j)(f:j<(a++b).count x):cT (a++b) j x=a.length+cT b ((j-a.count x:Nat):Int) x:=by
 rw[aM1]at f;obtain⟨k,e,c,d⟩:=sT x b (j-a.count x) E;rw[iF e c (by rw[d]),iF (l:=a++b) (k:=a.length+k) (by simp;omega) (by rw[aN7 E,aU6];exact c)
  (by rw[zO E,aU6,d];omega)]
 omega
end
def bE:Nat->Nat×Nat
 | 0=>(1,2)
 | h+1=>((bE h).2,(bE h).1+(bE h).2)
theorem oW:∀h,1<=(bE h).1/\(bE h).1<=(bE h).2
 | 0=>by simp[bE]
 | h+1=>by have :=oW h;simp only[bE];omega
theorem zL{h g:Nat}(d:h<=g):(bE h).1<=(bE g).1:=by
 induction g with
 | zero=>
      obtain rfl:h=0:=E;exact aV3 _
 | succ g c=>
  by_cases e:h=g+1
  ·subst e;exact aV3 _
  ·have :=c E;have :=oW g;simp only[bE];omega
theorem tG:∀{t:ST},t.Avl->(bE t.high).1<=t.leaves
 | .leaf l,_=>by simp[ST.high,ST.leaves,bE]
 | .pair a b,h=>by
  obtain⟨m,n,e,d⟩:=h;have f:=tG m;have i:=tG n;simp only[ST.high,ST.leaves];have c:∀x y:ST,x.high<=y.high->y.high<=x.high+1->(bE x.high).1<=x.leaves->(bE y.high).1<=y.leaves->(bE (y.high+1)).1<=x.leaves+y.leaves:=by
   intro x y e d p o;cases hh:y.high with
   | zero=>simp only[bE];have :=x.leaves_pos;have :=y.leaves_pos;omega
   | succ g=>
    rw[hh]at o d;have :=zL (h:=g) (g:=x.high) E;simp only[bE]at *;omega
  rcases Nat.le_total a.high b.high with h | h
  ·rw[Nat.max_eq_right h];exact c a b h d f i
  ·rw[Nat.max_eq_left h];have :=c b a h e i f;omega
def pth(s l:Nat):Nat:=s/2^(9-l)
def dN(s l:Nat):Bool:=decide (s/2^(8-l)%2=1)
def rX(b:Bool):Nat:=if b then 1 else 0
theorem iB{s:Nat}(h:s<512):pth s 0=0:=by unfold pth;exact Nat.div_eq_of_lt (by simpa using h)
theorem qF(s:Nat):pth s 9=s:=by simp[pth]
theorem iY{s l:Nat}(h:l<9):pth s (l+1)=2*pth s l+rX (dN s l):=by
 unfold pth dN rX;rw[show 9-(l+1)=8-l by omega,show 9-l=(8-l)+1 by omega,aW8,<-aU9];generalize s/2^(8-l)=y;by_cases a:y%2=1
 ·simp[a];omega
 ·simp[a];omega
theorem Di{s l:Nat}(a:s<512)(h:l<=9):pth s l<2^l:=by
 unfold pth;rw[Nat.div_lt_iff_lt_mul (aX9 _),<-Nat.pow_add,show l+(9-l)=9 by omega];exact a
def lvl(L:List Nat)(l π:Nat):List Bool:=(L.filter (λs=>pth s l=π)).map (dN · l)
def bO(L:List Nat)(l π k:Nat):Nat:=((L.take k).filter (λs=>pth s l=π)).length
theorem Rq(L:List Nat)(l a k:Nat):bO L l a k<=(lvl L l a).length:=by
 unfold bO lvl;rw[aP7];exact List.Sublist.length_le ((aU0 k L).filter _)
theorem mY{L:List Nat}(a:∀s∈L,s<512)(k:Nat)(c:k<=L.length):bO L 0 0 k=k:=by
 unfold bO;rw[List.filter_eq_self.2 (λs b=>by simpa using iB (a s (List.mem_of_mem_take b))),List.length_take];omega
theorem ao3{L:List Nat}(a:∀s∈L,s<512):(lvl L 0 0).length=L.length:=by
 unfold lvl;rw[List.length_map,List.filter_eq_self.2 (λs b=>by simpa using iB (a s b))]
theorem ao2(L:List Nat)(l a k:Nat):lvl (L.take k) l a=(lvl L l a).take (bO L l a k):=by
 unfold lvl bO;rw[<-aQ8];congr 1;have h:L.filter (λs=>pth s l=a)=(L.take k).filter (λs=>pth s l=a)++(L.drop k).filter (λs=>pth s l=a):=by
  rw[<-aN0,aT6]
 rw[h,List.take_left]
theorem Yr(L:List Nat)(l:Nat)(c:l<9)(a:Nat)(b:Bool):((L.filter (λs=>pth s l=a)).filter (λs=>dN s l=b))=L.filter (λs=>pth s (l+1)=2*a+rX b):=by
 rw[List.filter_filter];congr 1;funext s;rw[iY c];cases b<;>cases h:dN s l<;>simp[rX]<;>omega
theorem Tt(L:List Nat)(l:Nat)(b:Bool):(L.map (dN · l)).count b=(L.filter (λs=>dN s l=b)).length:=by
 induction L with
 | nil=>rfl
 | cons s L a=>
  simp only[aQ4,aM2,a,aN1];by_cases h:dN s l=b<;>simp[h]
theorem lU(L:List Nat){l:Nat}(c:l<9)(a k:Nat)(b:Bool):aM (lvl L l a) (bO L l a k) b=bO L (l+1) (2*a+rX b) k:=by
 unfold aM;rw[<-ao2];unfold lvl;rw[Tt,Yr _ _ c];rfl
def bB(L:List Nat)(k s:Nat):Nat:=(L.take k).count s
theorem Gp(L:List Nat)(s k:Nat):bO L 9 s k=bB L k s:=by
 unfold bO bB;rw[List.count_eq_length_filter];congr 1;congr 1;funext x;rw[qF];by_cases h:x=s<;>simp[h]
theorem Cz{L:List Nat}{k s:Nat}(a:L[k]? =some s)(l:Nat):bO L l (pth s l) k<(lvl L l (pth s l)).length/\aX (lvl L l (pth s l)) (bO L l (pth s l) k)=dN s l:=by
 have b:=(aO2.1 a).1;have e:L[k]=s:=by rw[aO0 b]at a;injection a
 have c:L=L.take k++s::L.drop (k+1):=by
  rw[<-e];simp
 have d:L.filter (λx=>pth x l=pth s l)=(L.take k).filter (λx=>pth x l=pth s l)++s::(L.drop (k+1)).filter (λx=>pth x l=pth s l):=by
  conv=>lhs;rw[c]
  rw[aN0,aN1,bd0 Es]
 unfold lvl bO aX;rw[d];constructor
 ·rw[aP7,aP3,aP4];omega
 ·rw[aQ2,aN7 (by rw[aP7];omega)];simp
theorem at7{L:List Nat}{k s:Nat}(d:L[k]? =some s){l:Nat}(a:l<9):cT (lvl L l (pth s l)) ((bO L (l+1) (pth s (l+1)) k:Nat):Int) (dN s l)=(bO L l (pth s l) k:Nat):=by
 obtain⟨b,c⟩:=Cz d l;refine iF b c ?_;rw[lU L a,iY a]
theorem Ys(L:List Nat)(k s:Nat)(f:Nat->Bool)(b:k<=L.length):(inL L k s).filter f=if f s then inL (L.filter f) ((L.take k).filter f).length s else L.filter f:=by
 have a:L.filter f=(L.take k).filter f++(L.drop k).filter f:=by rw[<-aN0,aT6]
 unfold inL;rw[aN0,aN1];split
 ·rw[a,List.take_left,List.drop_left]
 ·rw[a]
theorem Tz(L:List Nat)(k s:Nat)(f:Nat->Bool)(a:L[k]? =some s):(bj0 L k).filter f=if f s then bj0 (L.filter f) ((L.take k).filter f).length else L.filter f:=by
 have b:=(aO2.1 a).1;have e:L[k]=s:=by rw[aO0 b]at a;injection a
 have d:L=L.take k++s::L.drop (k+1):=by rw[<-e];simp
 have c:L.filter f=(L.take k).filter f++(if f s then s::(L.drop (k+1)).filter f else (L.drop (k+1)).filter f):=by
  conv=>lhs;rw[d]
  rw[aN0,aN1]
 unfold bj0;rw[aN0];split
 ·next h=>rw[c,bd0 h,List.take_left,aM3];simp
 ·next h=>rw[c,bc9 h]
theorem map_in{a b:Type}(f:a->b)(L:List a)(k:Nat)(x:a):(inL L k x).map f=inL (L.map f) k (f x):=by simp[inL]
theorem aC9{a b:Type}(f:a->b)(L:List a)(k:Nat):(bj0 L k).map f=bj0 (L.map f) k:=by simp[bj0]
theorem Zy{L:List Nat}{k:Nat}(s:Nat)(b:k<=L.length)(l a:Nat):lvl (inL L k s) l a=if pth s l=a then inL (lvl L l a) (bO L l a k) (dN s l)else lvl L l a:=by
 unfold lvl bO;rw[Ys L k s _ b];by_cases h:pth s l=a
 ·simp only[h,decide_true,bd1];rw[map_in]
 ·simp only[h,decide_false,bc8];rfl
theorem Sj{L:List Nat}{k s:Nat}(b:L[k]? =some s)(l a:Nat):lvl (bj0 L k) l a=if pth s l=a then bj0 (lvl L l a) (bO L l a k)else lvl L l a:=by
 unfold lvl bO;rw[Tz L k s _ b];by_cases h:pth s l=a
 ·simp only[h,decide_true,bd1];rw[aC9]
 ·simp only[h,decide_false,bc8];rfl
section
open Go.RowKit
theorem yG{n:Int}(a:0<=n)(b:n<18446744073709551616):IntKind.u64.wrap n=n:=by rw[aK7];omega
theorem kL(a b:Nat)(c:a<2^64)(d:b<2^64):bits .and .u64 (a:Int) (b:Int)=((a&&&b:Nat):Int):=u64_and_nat a b c d
theorem av8{x:Nat}(d:x<2^64):IntKind.u64.wrap (bits .and .u64 ((x:Int)/2) 6148914691236517205+bits .and .u64 (x:Int) 6148914691236517205)=((st1 8 x:Nat):Int)/\st1 8 x<2^64:=by
 have a:=kL (x/2) 6148914691236517205 E E;have b:=kL x 6148914691236517205 d E;have e:x/2&&&6148914691236517205<=6148914691236517205:=Nat.and_le_right;have f:x&&&6148914691236517205<=6148914691236517205:=Nat.and_le_right;have c:st1 8 x=(x/2&&&6148914691236517205)+(x&&&6148914691236517205):=rfl;rw[c];rw[show ((x/2:Nat):Int)=(x:Int)/2 by omega]at a;rw[show ((6148914691236517205:Nat):Int)=6148914691236517205 from rfl]at a b;rw[a,b];generalize (x/2&&&6148914691236517205)=p at *;generalize (x&&&6148914691236517205)=q at *;exact⟨by rw[yG E E];omega,E⟩
theorem ax0{x:Nat}(d:x<2^64):IntKind.u64.wrap (bits .and .u64 ((x:Int)/4) 3689348814741910323+bits .and .u64 (x:Int) 3689348814741910323)=((st2 8 x:Nat):Int)/\st2 8 x<9223372036854775808:=by
 have a:=kL (x/4) 3689348814741910323 E E;have b:=kL x 3689348814741910323 d E;have e:x/4&&&3689348814741910323<=3689348814741910323:=Nat.and_le_right;have f:x&&&3689348814741910323<=3689348814741910323:=Nat.and_le_right;have c:st2 8 x=(x/4&&&3689348814741910323)+(x&&&3689348814741910323):=rfl;rw[c];rw[show ((x/4:Nat):Int)=(x:Int)/4 by omega]at a;rw[show ((3689348814741910323:Nat):Int)=3689348814741910323 from rfl]at a b;rw[a,b];generalize (x/4&&&3689348814741910323)=p at *;generalize (x&&&3689348814741910323)=q at *;exact⟨by rw[yG E E];omega,E⟩
theorem ax2{x:Nat}(b:x<9223372036854775808):bits .and .u64 (IntKind.u64.wrap ((x:Int)/16+(x:Int))) 1085102592571150095=((st3 8 x:Nat):Int):=by
 rw[yG E E];have a:=kL (x/16+x) 1085102592571150095 E E;rw[show ((x/16+x:Nat):Int)=(x:Int)/16+x by omega,show ((1085102592571150095:Nat):Int)=1085102592571150095 from rfl]at a;rw[a];rfl
theorem Pq(a b:Nat)(f:a<2^63)(e:b<2^63):bits .and .i64 (a:Int) (b:Int)=((a&&&b:Nat):Int):=by
 have g:a&&&b<2^63:=Nat.and_lt_two_pow _ e;have c:(BitVec.ofInt 64 (a:Int)).toNat=a:=by
  rw[BitVec.ofInt_natCast,BitVec.toNat_ofNat];exact aW1 E
 have d:(BitVec.ofInt 64 (b:Int)).toNat=b:=by
  rw[BitVec.ofInt_natCast,BitVec.toNat_ofNat];exact aW1 E
 show IntKind.i64.wrap ((BitVec.ofInt 64 (a:Int)&&&BitVec.ofInt 64 (b:Int)).toNat:Int)=_;rw[BitVec.toNat_and,c,d];exact aK8 _ E
theorem Yx{x t:Nat}(c:t*31<2^64)(h:oU t%256=pc x 64):bits .and .i64 ((t:Int)+t/256+(t+t/256)/65536+(t+t/256+(t+t/256)/65536)/4294967296) 127=((pc x 64:Nat):Int):=by
 have e:((t:Int)+t/256+(t+t/256)/65536+(t+t/256+(t+t/256)/65536)/4294967296)=((oU t:Nat):Int):=by
  simp[oU]
 have b:oU t<2^63:=by unfold oU;omega
 have a:=fF x 64;rw[e,show (127:Int)=((127:Nat):Int)from rfl,Pq _ _ b E,show (127:Nat)=2^7-1 from rfl,aU8];omega
theorem aq0(x:Nat)(w:World)(j:x<2^64):Calls prog 252 #[.int .u64 x] w λe p=>e= .returned (pc x 64:Int)/\w=p:=by
 have b:(x:Int)<18446744073709551616:=E;have c:(0:Int)<=x:=E;have d:=av8 j;have f:=ax0 d.2;have k:=ax2 f.2;have l:oU (st3 8 (st2 8 (st1 8 x)))%256=pc x 64:=by rw[af4];exact Ub x
 have m:st3 8 (st2 8 (st1 8 x))*31<2^64:=by rw[af4];exact Oj 8 x
 have g:=θ d.1;have h:=θ f.1;have i:=θ k;have n:=θ l;clear d f k l;go_in;go_upto_region 1 with fail
 go_cut [0] (λv a=>v= .int .u64 (st1 8 x)/\w=a);case first=>
  go_wp2_with fail;go_meet;case rel=>exact⟨by rw[g.out],rfl⟩
 case rest=>
 obtain⟨rfl,rfl⟩:=hcut;clear j b c g;generalize st1 8 x=y at *;go_upto_region 2 with fail
 go_cut [0] (λv a=>v= .int .u64 (st2 8 y)/\w=a);case first=>
  go_wp2_with fail;go_meet;case rel=>exact⟨by rw[h.out],rfl⟩
 case rest=>
 obtain⟨rfl,rfl⟩:=hcut;clear h;generalize st2 8 y=z at *;go_upto_region 3 with fail
 go_cut [0] (λv a=>v= .int .u64 (st3 8 z)/\w=a);case first=>
  go_wp2_with fail;go_meet;case rel=>exact⟨by rw[i.out],rfl⟩
 case rest=>
 obtain⟨rfl,rfl⟩:=hcut;clear i;generalize st3 8 z=t at *;have o:=θ (Yx m n.out);have q:(0:Int)<=t:=E;have r:(t:Int)<=595056260442243600:=E;clear m;go_wp2;go_ret;exact⟨bA o.out,rfl⟩
def BitTab(w:World):Prop:=TabAt 0 Lib.deBruijn64tab w
theorem BitTab.below {w w':World}{B:Nat}(h:BitTab w)(b:Below B w w')(a:0<B):BitTab w':=λj c=>(b.cell (p:=(0,j)) a).trans (h j c)
theorem BitTab.below' {w a:World}(h:BitTab w)(b:Below w w a):BitTab a:=h.below b (ba8 w _ (h 0 Ed))
theorem BitTab.lt {w:World}(h:BitTab w):0<w.heap.size:=ba8 w _ (h 0 Ed)
theorem aI1(x k a:Nat)(w:World)(f:((x:Int)==0)=false)(b:IntKind.u64.wrap (bits BinOp.and IntKind.u64 (x:Int) (IntKind.u64.wrap (-(x:Int)))*285870213051353865)/288230376151711744=(a:Int))(h:a<64)(i:k<64)(d:w.cell? (0,a)=some (.int .u8 k)):Calls prog 253 #[.int .u64 x] w λe g=>e= .returned k/\w=g:=by
 have c:=θ b;clear b;go_in;go_wp2_with (simp only[c.out]);go_ret;exact Er
theorem tz_any(x:Nat)(w:World)(h:x<2^64)(d:x≠0)(i:BitTab w):Calls prog 253 #[.int .u64 x] w λe j=>e= .returned (Lib.ctz 64 x:Int)/\w=j:=by
 obtain⟨b,g⟩:=Lib.lowest_bit 64 x d h;obtain⟨f,c⟩:=Lib.deBruijn64_at _ g;have a:=i _ f;rw[c]at a;exact aI1 x _ _ w (by simp;omega) (tz64_key x _ h d b) f g a
def pcs(ws:List Nat):Nat:=(ws.map λx=>pc x 64).sum
theorem ar7{a:List Nat}{k:Nat}(h:k<a.length):pcs (a.take (k+1))=pcs (a.take k)+pc (a[k]?.getD 0) 64:=by
 unfold pcs;rw[aT5,aO0 h,aQ2,aT4];simp[-List.map_take]
theorem pcs_le(a:List Nat):pcs a<=64*a.length:=by
 induction a with
 | nil=>simp[pcs]
 | cons x l b=>have :=fF x 64;simp only[pcs,aQ4,List.sum_cons,aP4]at *;omega
def natI(n:Nat):Int:=n
theorem Gr(a:Option Addr)(c:Nat)(g:List Nat)(w:World)(l:Reads w .u64 a (g.map natI))(p:∀x∈g,x<2^64)(B:g.length<=1000000000000000):Calls prog 238 #[.slice a g.length c] w λe z=>e= .returned (pcs g:Int)/\w=z:=by
 go_in;go_wp2;go_loop [3,8] (λn i=>∃k:Nat,k<=g.length/\i= .int .i64 k/\n= .int .i64 (pcs (g.take k))) (λ_ i=>g.length-(intOf i).toNat);exact⟨0,aY1 _,rfl,rfl⟩;case round=>
  obtain⟨k,A,rfl,rfl⟩:=hrel;have u:=pcs_le (g.take k);rw[aQ1]at u;by_cases f:k<g.length
  ·obtain⟨b,y,rfl,r,d⟩:=l.some (by simpa using Nat.lt_of_le_of_lt (Nat.zero_le _) f);have m:=d k (by simpa using f);rw[aO3,aO0 f]at m;simp only[aY6,aY3,natI]at m;have v:=p _ (aP0 f);have h:=ar7 f;rw[aO0 f,aY3]at h;have j:=θ h;generalize g[k]=x at *;have q:=fF x 64;clear h d l p;generalize pcs (g.take k)=s at *;go_wp2_with (go_at_call 252;refine Cq (aq0 x _ v) ?_);go_round;exact⟨k+1,E,by go_num,by rw[j.o];go_num⟩;simp[intOf];omega
  ·have t:k=g.length:=E;clear l;go_wp2;go_ret;exact Er
theorem iR(x:Nat)(w:World)(b a c:Nat)(d:w.cell? (b,a)=some (.int .u64 x))(f:x<2^64):Calls prog 238 #[.slice (b,a) 1 c] w λe g=>e= .returned (pc x 64:Int)/\w=g:=by
 have :=Gr (some (b,a)) c [x] w (ad0 d) (by simpa using f) Es;simpa[pcs]using this
def iL(w:Nat)(k:Int):Nat:=if 64<=k then w else w%2^k.toNat
theorem aC4{w:Nat}(h:w<2^64)(k:Int):iL w k<2^64:=by
 unfold iL;split
 ·exact h
 ·exact aV6 (Nat.mod_le _ _) h
theorem jN{k:Nat}(h:k<64):(2:Nat)^k<=9223372036854775808:=aW7 (n:=2) (i:=k) (j:=63) E E
theorem sA(k:Nat):(2:Int)^k=((2^k:Nat):Int):=Es
theorem am5{x:Nat}{k:Int}(c:x<2^64)(d:0<k)(e:k<64):bits .and .u64 (x:Int) (IntKind.u64.wrap (IntKind.u64.wrap ((2:Int)^k.toNat)-1))=((iL x k:Nat):Int):=by
 have f:=jN (k:=k.toNat) E;have g:=aX9 k.toNat;have a:IntKind.u64.wrap (((2^k.toNat:Nat):Int))=((2^k.toNat:Nat):Int):=yG E E;have b:IntKind.u64.wrap (((2^k.toNat:Nat):Int)-1)=((2^k.toNat:Nat):Int)-1:=yG E E;rw[sA,a,b,show (((2^k.toNat:Nat):Int)-1)=((2^k.toNat-1:Nat):Int) by omega,kL _ _ c E,aU8];unfold iL;rw[bc9 E]
theorem pc_low{x:Nat}(b:x<2^64)(k:Int):pc (iL x k) 64=pc x (min k.toNat 64):=by
 unfold iL;split
 ·congr 1;omega
 ·have e:min k.toNat 64=k.toNat:=E;rw[e,pc_ge (aW2 x (aX9 k.toNat)) E];exact Ly (λi a=>by rw[aX5];simp[a])
theorem yO(x:Nat)(k:Int)(w:World)(c:x<2^64):Calls prog 254 #[.int .u64 x,k] w λe d=>e= .returned (.int .u64 (iL x k))/\w=d:=by
 by_cases f:k<=0
 ·have b:Hid ((0:Int)=(iL x k:Nat)):=by
   show _=_;have :k.toNat=0:=E;unfold iL;rw[bc9 E,this];simp[Nat.mod_one]
  go_in;go_wp2;go_ret;exact⟨bA b.out,rfl⟩
 ·by_cases a:64<=k
  ·have b:Hid ((x:Int)=(iL x k:Nat)):=by
    show _=_;unfold iL;rw[bd0 a]
   go_in;go_wp2;go_ret;exact⟨bA b.out,rfl⟩
  ·go_in;go_wp2;go_ret;exact⟨bA (am5 c E E),rfl⟩
theorem as0(x:Nat)(k:Int)(w:World)(a:x<2^64):Calls prog 243 #[.int .u64 x,k] w λe d=>e= .returned (pc x (min k.toNat 64):Int)/\Below w w d:=by
 have c:=aC4 a k;have b:=θ (pc_low a k);go_in;go_wp2_with fail;refine Cq (yO x k _ a) ?_;generalize iL x k=y at *;go_wp2_with fail;refine Cq (iR y _ _ _ _ (by simp[go_sem]) c) ?_;go_wp2;go_ret;exact⟨bA (by rw[b.out]),(aJ6 _ _).alloc (aV3 _) _⟩
theorem Wc(x:Nat)(j:Int)(w:World)(g:x<2^64)(A:BitTab w):Calls prog 239 #[.int .u64 x,j] w λe J=>e= .returned (sel x j:Int)/\Below w w J:=by
 by_cases G:j<0
 ·have r:=θ (Nj (w:=x) (j:=j) (Ei G));go_in;go_wp2;go_ret;exact⟨bA r.out.symm,aJ6 _ _⟩
 ·have L:=fF x 64;by_cases z:j<(pc x 64:Nat)
  ·obtain⟨n,rfl⟩:=aK0 (show 0<=j by omega);have d:=Ze g;have f:n<pc x 64:=E;have p:=θ f;have m:=θ g;have F:=θ A;have I:(pc x 64:Int)<=64:=E;clear f A;go_in;go_wp2_with fail;refine Cq (iR x _ _ _ _ (by simp[go_sem]) g) ?_;go_wp2_with fail;have s:BitTab (w.alloc (.cells #[.int .u64 x] 69)):=F.o.below' ((aJ6 _ _).alloc (aV3 _) _);have q:Below w w (w.alloc (.cells #[.int .u64 x] 69)):=(aJ6 _ _).alloc (aV3 _) _;generalize w.alloc (.cells #[.int .u64 x] 69)=w2 at *;clear g;go_loop [0,15] (λv i=>∃k y:Nat,k<=n/\i= .int .i64 k/\v= .int .u64 y/\Fb x k y) (λ_ i=>n-(intOf i).toNat);exact⟨0,x,aY1 _,rfl,rfl,d⟩;case round=>
    obtain⟨k,y,K,rfl,rfl,b⟩:=hrel;by_cases H:k<n
    ·obtain⟨c,_,l,_,_,_,_⟩:=tL m.o b (by have :=p.o;omega);have B:=Zd m.o b (by have :=p.o;omega);have t:=b.1;have u:bits .and .u64 (y:Int) ((y:Int)-1)=((y&&&(y-1):Nat):Int):=by
      rw[show (y:Int)-1=((y-1:Nat):Int) by omega];exact kL y (y-1) t E
     have C:=θ u;have D:=θ B;clear b B u d z;go_wp2;go_round;exact⟨k+1,y&&&(y-1),E,by go_num,by rw[C.o],D.o⟩;simp[intOf];omega
    ·obtain rfl:k=n:=E;have f:=p.o;have l:y≠0:=by obtain⟨c,_,h,_⟩:=tL m.o b f;exact h
     have a:=θ (al4 m.o b f);have t:=b.1;clear b f d z;go_wp2_with fail;refine Cq (tz_any y _ t l s) ?_;go_wp2;go_ret;exact⟨bA a.out,q⟩
  ·have r:=θ (Nj (w:=x) (j:=j) (Ej E));have I:(pc x 64:Int)<=64:=E;go_in;go_wp2_with fail;refine Cq (iR x _ _ _ _ (by simp[go_sem]) g) ?_;go_wp2;go_ret;exact⟨bA r.out.symm,(aJ6 _ _).alloc (aV3 _) _⟩
theorem Do{k:IntKind}{a c:Int}{b d:Bool}(h:a=c)(e:b=d):Ending.returned (.tuple #[.int k a, .bool b])=Ending.returned (.tuple #[.int k c, .bool d]):=by rw[h,e]
theorem sP(a b:Nat)(c:a<2^64)(d:b<2^64):bits .or .u64 (a:Int) (b:Int)=((a|||b:Nat):Int):=u64_or_nat a b c d
theorem Bs(a b:Nat)(c:a<2^64)(d:b<2^64):bits .andNot .u64 (a:Int) (b:Int)=((a&&&(2^64-1-b):Nat):Int):=u64_andNot_nat a b c d
theorem Oy(a:Nat):IntKind.u64.wrap (a:Int)=((a%2^64:Nat):Int):=by rw[aK7];omega
theorem Me{x y k n:Nat}{b:Bool}(e:x<2^64)(f:k<64)(h:x%2^k=y)(g:n=if b then 2^k else 0):bits .or .u64 (bits .or .u64 (y:Int) (n:Int)) (IntKind.u64.wrap (bits .andNot .u64 (x:Int) (y:Int)*2))=((qG x k b:Nat):Int):=by
 have i:=jN f;have a:y<2^64:=by rw[<-h];exact aV6 (Nat.mod_le _ _) e
 have c:n<2^64:=by rw[g];split<;>omega
 have d:y|||n<2^64:=aW6 a c
 rw[Bs _ _ e a,show (((x&&&(2^64-1-y):Nat):Int)*2)=((((x&&&(2^64-1-y))*2:Nat)):Int) by omega,Oy,sP _ _ a c,sP _ _ d (aW2 _ (aX9 _))];rw[<-put_eq b f e,h,<-g]
theorem Tp{x:Nat}(a:x<2^64):((x:Int)/9223372036854775808==1)=x.testBit 63:=by
 rw[<-aI0 a,aJ8];simp only[bb7,bc3];have :(2:Nat)^63=9223372036854775808:=Ed;rw[this];omega
theorem Bd(x k:Nat)(b:Bool)(w:World)(c:x<2^64)(f:k<64):Calls prog 264 #[.int .u64 x,k, .bool b] w λe p=>e= .returned (.tuple #[.int .u64 (qG x k b), .bool (x.testBit 63)])/\w=p:=by
 have h:iL x k=x%2^k:=by unfold iL;rw[bc9 E];rfl
 have m:=jN f;have a:IntKind.u64.wrap ((2:Int)^k)=((2^k:Nat):Int):=by rw[sA,yG E E]
 have g:=θ (Tp c);have j:=θ (Me (b:=false) (n:=0) c f rfl rfl);have l:=θ (Me (b:=true) (n:=2^k) c f rfl rfl);have d:=θ a;have i:=θ h;clear h a m;cases b;all_goals
  go_in;go_wp2_with fail;refine Cq (yO x k _ c) ?_;rw[i.out];generalize x%2^k=y at *;go_wp2;go_ret2
 ·exact⟨Do j.out g.out,rfl⟩
 ·exact⟨Do (by rw[d.o];exact l.out) g.out,rfl⟩
theorem Kp{x y z k n:Nat}{b:Bool}(g:x<2^64)(j:k<64)(h:x%2^k=y)(i:x/2%2^k=z)(f:n=if b then 2^63 else 0):bits .or .u64 (bits .or .u64 (y:Int) (bits .andNot .u64 ((x:Int)/2) (z:Int))) (n:Int)=((mA x k b:Nat):Int):=by
 have c:y<2^64:=by rw[<-h];exact aV6 (Nat.mod_le _ _) g
 have e:z<2^64:=by rw[<-i];exact aV6 (Nat.mod_le _ _) E
 have d:n<2^64:=by rw[f];split<;>omega
 have a:x/2&&&(2^64-1-z)<2^64:=aV6 Nat.and_le_left E;rw[show ((x:Int)/2)=((x/2:Nat):Int) by omega,Bs _ _ E e,sP _ _ c a,sP _ _ (aW6 c a) d];rw[<-cut_eq b j g,h,i,<-f]
theorem vS{x k:Nat}(a:x<2^64)(b:k<64):(bits .and .u64 ((x:Int)/2^k) 1==1)=x.testBit k:=by
 rw[show ((x:Int)/2^k)=((x/2^k:Nat):Int) by simp,show (1:Int)=((1:Nat):Int)from rfl,kL _ _ (aV6 (Nat.div_le_self _ _) a) E,<-av6 x k,aJ8];simp only[bb7,bc3];omega
theorem ak9(x k:Nat)(b:Bool)(w:World)(c:x<2^64)(f:k<64):Calls prog 255 #[.int .u64 x,k, .bool b] w λe q=>e= .returned (.tuple #[.int .u64 (mA x k b), .bool (x.testBit k)])/\w=q:=by
 have j:iL x k=x%2^k:=by unfold iL;rw[bc9 E];rfl
 have a:iL (x/2) k=x/2%2^k:=by unfold iL;rw[bc9 E];rfl
 have g:x/2<2^64:=E;have i:(x:Int)/2=((x/2:Nat):Int):=E;have h:=θ (vS c f);have l:=θ (Kp (b:=false) (n:=0) c f rfl rfl rfl);have m:=θ (Kp (b:=true) (n:=2^63) c f rfl rfl rfl);have p:=θ j;have d:=θ a;have o:=θ i;clear j a i;cases b;all_goals
  go_in;go_wp2_with fail;refine Cq (yO x k _ c) ?_;rw[p.out];generalize x%2^k=y at *;go_wp2_with fail;rw[o.out];refine Cq (yO (x/2) k _ g) ?_;rw[d.out];generalize x/2%2^k=z at *;go_wp2;go_ret2
 ·exact⟨Do l.out h.out,rfl⟩
 ·exact⟨Do m.out h.out,rfl⟩
theorem aE9{X K Y:Int}{b c:Bool}(x k:Nat)(w:World)(i:x<2^64)(h:k<64)(d:X=(x:Int))(a:K=(k:Int))(f:((qG x k b:Nat):Int)=Y)(g:x.testBit 63=c):Calls prog 264 #[.int .u64 X,K, .bool b] w λe j=>e= .returned (.tuple #[.int .u64 Y, .bool c])/\w=j:=by
 subst d a f g;exact Bd x k b w i h
theorem Fj{X K Y:Int}{b c:Bool}(x k:Nat)(w:World)(i:x<2^64)(h:k<64)(d:X=(x:Int))(a:K=(k:Int))(f:((mA x k b:Nat):Int)=Y)(g:x.testBit k=c):Calls prog 255 #[.int .u64 X,K, .bool b] w λe j=>e= .returned (.tuple #[.int .u64 Y, .bool c])/\w=j:=by
 subst d a f g;exact ak9 x k b w i h
theorem Ml{X K Y:Int}(x:Nat)(w:World)(c:x<2^64)(a:X=(x:Int))(b:((pc x (min K.toNat 64):Nat):Int)=Y):Calls prog 243 #[.int .u64 X,K] w λe d=>e= .returned Y/\Below w w d:=by
 subst a b;exact as0 x K w c
theorem pB{X K Y:Int}(x:Nat)(w:World)(d:x<2^64)(c:BitTab w)(a:X=(x:Int))(b:sel x K=Y):Calls prog 239 #[.int .u64 X,K] w λe f=>e= .returned Y/\Below w w f:=by
 subst a b;exact Wc x K w d c
theorem Yl{a:Option Addr}{n c:Nat}{Y:Int}(b:List Nat)(w:World)(g:n=b.length)(h:Reads w .u64 a (b.map natI))(i:∀x∈b,x<2^64)(f:b.length<=1000000000000000)(d:(pcs b:Int)=Y):Calls prog 238 #[.slice a n c] w λe j=>e= .returned Y/\w=j:=by
 subst g d;exact Gr a c b w h i f
theorem aR(w:World)(o:Obj):Below w w (w.alloc o):=(aJ6 _ _).alloc (aV3 _) _
theorem aD2{x:Nat}(a:x<2^64):bits .xor .u64 18446744073709551615 (x:Int)=((cR x:Nat):Int):=by
 have h:=u64_xor_nat 18446744073709551615 x E a;rw[show ((18446744073709551615:Nat):Int)=18446744073709551615 from rfl]at h;rw[h];congr 1;refine eC (n:=64) (Nat.xor_lt_two_pow E a) (Sq x) (λi b=>?_);rw[Nat.testBit_xor,Lp a b,show (18446744073709551615:Nat)=2^64-1 from rfl,Nat.testBit_two_pow_sub_one];simp[b]
theorem Sr{x:Nat}(a:x<2^64):Op.unary .xor (.int .u64 (x:Int))=pure (.int .u64 ((cR x:Nat):Int)):=by
 have h:Op.unary .xor (.int .u64 (x:Int))=pure (.int .u64 (bits .xor .u64 IntKind.u64.max (x:Int))):=rfl;rw[h,show IntKind.u64.max=18446744073709551615 by decide,aD2 a]
def IsBlock(w:World)(p:Nat)(l:List Bool):Prop:=
 l.length<=128/\w.heap[p]? =some (.cells #[l.length, .int .u64 (loW l), .int .u64 (hiW l)] 242 (0,0))
section
variable {w w':World}{p:Nat}{l:List Bool}
theorem IsBlock.lt (h:IsBlock w p l):p<w:=(aJ2.1 h.2).1
theorem IsBlock.chg {S:Nat->Prop}(h:IsBlock w p l)(a:Chg S w w')(b:¬S p):IsBlock w' p l:=⟨h.1,a.heap h.2 b⟩
theorem IsBlock.below {B:Nat}(h:IsBlock w p l)(a:Below B w w')(b:p<B):IsBlock w' p l:=⟨h.1,(a.block p b).trans h.2⟩
theorem IsBlock.below' (h:IsBlock w p l)(a:Below w w w'):IsBlock w' p l:=h.below a h.lt
theorem IsBlock.cells (h:IsBlock w p l):w.cell? p=l.length/\w.cell? (p,1)=some (.int .u64 (loW l))/\w.cell? (p,2)=some (.int .u64 (hiW l))/\∀j,w.frozen? ⟨p,j,none⟩=false:=
 ⟨by rw[bb8 w p 0 _ _ _ h.2];rfl,by rw[bb8 w p 1 _ _ _ h.2];rfl,by rw[bb8 w p 2 _ _ _ h.2];rfl,λj=>bc4 w p j _ _ h.2⟩
end
theorem Ca{w:World}{p:Nat}{l:List Bool}(h:IsBlock w p l):Calls prog 249 #[.pointer p] w λe w'=>e= .returned l.length/\w=w':=by
 obtain⟨a,_⟩:=h.cells;go_in;go_wp2;go_ret;exact Er
def fD(l:List Bool)(k:Int):Int:=if 0<=k/\k<l.length then 0 else 2
theorem Bz{w:World}{p:Nat}{l:List Bool}(h:IsBlock w p l)(k:Int):Calls prog 231 #[.pointer p,k] w λe w'=>e= .returned (fD l k:Int)/\w=w':=by
 obtain⟨b,_⟩:=h.cells;by_cases c:k<0
 ·have a:=θ (show (2:Int)=fD l k by unfold fD;rw[bc9 E]);go_in;go_wp2;go_ret;exact⟨bA a.out,rfl⟩
 ·by_cases f:k<l.length
  ·have a:=θ (show (0:Int)=fD l k by unfold fD;rw[bd0 E]);have d:decide ((l.length:Int)<=k)=false:=by simp;omega
   go_in;go_wp2;go_ret;exact⟨bA a.out,rfl⟩
  ·have a:=θ (show (2:Int)=fD l k by unfold fD;rw[bc9 E]);have d:decide ((l.length:Int)<=k)=true:=by simp;omega
   go_in;go_wp2;go_ret;exact⟨bA a.out,rfl⟩
theorem Mx{k:IntKind}{b d:Bool}{a c:Int}(h:b=d)(e:a=c):Ending.returned (.tuple #[.bool b, .int k a])=Ending.returned (.tuple #[.bool d, .int k c]):=by rw[h,e]
theorem Ya{w:World}{p:Nat}{l:List Bool}(h:IsBlock w p l)(k:Nat)(v:k<l.length):Calls prog 208 #[.pointer p,k] w λe w'=>e= .returned (.tuple #[.bool (aX l k), .int .i64 0])/\w=w':=by
 obtain⟨u,n,q,_⟩:=h.cells;have i:fD l k=0:=by unfold fD;rw[bd0 E]
 have x:=h.1;have g:=θ i;have f:=θ h;clear i h;by_cases a:k<64
 ·have c:=vS (dS l) a;rw[dA a]at c;have d:=θ c;have r:(k:Int)/64=0:=E;have s:(k:Int)%64=k:=E;clear c q;go_in;go_wp2_with fail;refine Cq (Bz f.o k) ?_;rw[g.o];go_wp2;go_ret2;exact⟨Mx d.out rfl,rfl⟩
 ·obtain⟨m,rfl⟩:=aV1 (show 64<=k by omega);have b:m<64:=E;have c:=vS (dR l) b;rw[cZ b]at c;have d:=θ c;have r:((64+m:Nat):Int)/64=1:=E;have s:((64+m:Nat):Int)%64=m:=E;clear c n;generalize j:64+m=k at *;have t:=θ j;clear j;go_in;go_wp2_with fail;refine Cq (Bz f.o k) ?_;rw[g.o];go_wp2;go_ret2;exact⟨Mx d.out rfl,rfl⟩
theorem aA3{w:World}{p:Nat}{l:List Bool}(h:IsBlock w p l):Calls prog 256 #[.pointer p] w λe w'=>e= .returned (l.count true:Int)/\w=w':=by
 obtain⟨m,a,b,_⟩:=h.cells;have c:pcs [loW l,hiW l]=l.count true:=by simp[pcs];exact aE3 h.1
 have g:=θ c;have d:Reads w .u64 (some (p,1)) ([loW l,hiW l].map natI):=by
  intro i q;refine⟨p,1,rfl,h.lt,λj n=>?_⟩;match j,n with
  | 0,_=>exact a
  | 1,_=>exact b
 have k:=θ d;clear d c m a b;go_in;go_wp2_with fail;refine Cq (Yl (Y:=(l.count true:Int)) [loW l,hiW l] _ rfl k.o (by intro x f;simp only[aR1,aS5,bd7]at f;rcases f with rfl | rfl;exact dS l;exact dR l) Es (by rw[g.o])) ?_;go_wp2;go_ret;exact Er
theorem as1{l:List Bool}{K:Nat}(h:K<=l.length)(b:l.length<=128):pc (loW l) (min K 64)+pc (hiW l) (min (K-64) 64)=aM l K true:=by
 by_cases a:K<=64
 ·rw[aW0 a,Jl a,show min (K-64) 64=0 by omega];rfl
 ·rw[Nat.min_eq_right E,Jl (aV3 _),aW0 E,Ve E,show 64+(K-64)=K by omega]
theorem idx0(a b:Value)(w:World):(Instr.index 240 (.agg #[a,b]) (.int .i64 0)).run prog w= .ok a w:=Ek
theorem idx1(a b:Value)(w:World):(Instr.index 240 (.agg #[a,b]) (.int .i64 1)).run prog w= .ok b w:=Ek
theorem pU{w:World}{p:Nat}{l:List Bool}(h:IsBlock w p l)(k:Int)(K:Nat)(i:(k<0/\K=0)\/(0<=k/\k<=l.length/\k=K)\/((l.length:Int)<k/\K=l.length)):Calls prog 232 #[.pointer p,k] w λe c=>e= .returned (aM l K true:Int)/\Below w w c:=by
 obtain⟨I,J,L,_⟩:=h.cells;have x:=h.1;have j:pc (loW l) (min K 64)+pc (hiW l) (min (K-64) 64)=aM l K true:=as1 E x;have m:=dS l;have n:=dR l;have y:=fF (loW l) (min K 64);have C:=fF (hiW l) (min (K-64) 64);have z:pc (loW l) (min K 64)<=64:=E;have D:pc (hiW l) (min (K-64) 64)<=64:=E;have s:Hid (∀(a:Int) (w:World),a=(K:Int)->Calls prog 243 #[.int .u64 (loW l),a] w λe c=>e= .returned (pc (loW l) (min K 64):Int)/\Below w w c):=
  λa w f=>Ml (loW l) w m rfl (by rw[f,aK5])
 have t:Hid (∀(a:Int) (w:World),a=(K:Int)-64->Calls prog 243 #[.int .u64 (hiW l),a] w λe c=>e= .returned (pc (hiW l) (min (K-64) 64):Int)/\Below w w c):=
  λa w f=>Ml (hiW l) w n rfl (by rw[f];congr 2;omega)
 have r:=θ j;have q:=θ h;have F:=idx0 (.int .u64 (loW l)) (.int .u64 (hiW l));have G:=idx1 (.int .u64 (loW l)) (.int .u64 (hiW l));clear y C j h m n;generalize pc (loW l) (min K 64)=A at *;generalize pc (hiW l) (min (K-64) 64)=B at *;rcases i with ⟨i,rfl⟩ | ⟨u,v,rfl⟩ | ⟨i,rfl⟩
 all_goals
  go_in;go_wp2_with fail;refine be3 3 ?_;rw[bd8];go_wp2_with fail;refine(s.out _ _ E).mono ?_;rintro e M ⟨rfl,d⟩;obtain⟨H,_⟩:=(q.o.below' d).cells;go_wp2_with fail;rw[bd8];go_wp2_with fail;refine(t.out _ _ E).mono ?_;rintro e N ⟨rfl,b⟩;have g:=d.trans (b.mono d.size);clear d b;go_wp2_with fail;rw[bd8];go_wp2;go_ret;exact⟨bA (by rw[<-r.o];simp),g⟩
theorem aA4{w:World}{p:Nat}{l:List Bool}(h:IsBlock w p l)(k:Int):Calls prog 232 #[.pointer p,k] w λe c=>e= .returned (aM l k.toNat true:Int)/\Below w w c:=by
 by_cases a:k<0
 ·have :=pU h k 0 (Ei ⟨a,rfl⟩);rwa[show k.toNat=0 by omega]
 ·by_cases b:k<=l.length
  ·exact pU h k k.toNat (Ej (Ei ⟨E,b,E⟩))
  ·have :=pU h k l.length (Ej (Ej ⟨E,rfl⟩));rwa[eQ true (aV3 _),<-eQ (k:=k.toNat) true E]at this
theorem Is(w:World)(p:Nat)(j:Int)(b:Bool)(c:j<0):Calls prog 219 #[.pointer p,j, .bool b] w λe a=>e= .returned (-1:Int)/\w=a:=by
 go_in;go_wp2;go_ret;exact Er
theorem Fd{w:World}{p:Nat}{l:List Bool}(h:IsBlock w p l)(H:BitTab w)(j:Nat)(O:(j:Int)<=9223372036854775807):Calls prog 219 #[.pointer p,j, .bool true] w λe s=>e= .returned (cT l j true:Int)/\Below w w s:=by
 obtain⟨S,T,U,_⟩:=h.cells;have I:=h.1;have J:=dS l;have K:=dR l;have Q:=idx0 (.int .u64 (loW l)) (.int .u64 (hiW l));have R:=idx1 (.int .u64 (loW l)) (.int .u64 (hiW l));have F:Hid (loW l<2^64):=tN J true;have G:Hid (hiW l<2^64):=tN K true;have V:pc (loW l) 64<=64:=fF _ 64;have W:pc (hiW l) 64<=64:=fF _ 64;have t:Hid (j<pc (loW l) 64->∃k:Nat,k<64/\sel (loW l) j=k/\cT l j true=if k<l.length then (k:Int)else -1):=ae6 (l:=l) (j:=j) (b:=true);have u:Hid (pc (loW l) 64<=j->j-pc (loW l) 64<pc (hiW l) 64->∃k:Nat,k<64/\sel (hiW l) ((j:Int)-(pc (loW l) 64:Nat))=k/\cT l j true=if 64+k<l.length then ((64+k:Nat):Int)else -1):=
  λa b=>ae5 (l:=l) (j:=j) (b:=true) a b I
 have v:Hid (pc (loW l) 64+pc (hiW l) 64<=j->cT l j true= -1):=λa=>ae7 (l:=l) (j:=j) (b:=true) a I;have x:Hid (∀(w:World) (b f c:Nat),w.cell? (b,f)=some (.int .u64 (loW l))->Calls prog 238 #[.slice (b,f) 1 c] w λe s=>e= .returned (pc (loW l) 64:Int)/\w=s):=
  λw b f c A=>iR _ w b f c A F.out
 have y:Hid (∀(w:World) (b f c:Nat),w.cell? (b,f)=some (.int .u64 (hiW l))->Calls prog 238 #[.slice (b,f) 1 c] w λe s=>e= .returned (pc (hiW l) 64:Int)/\w=s):=
  λw b f c A=>iR _ w b f c A G.out
 have D:=θ H;have C:=θ h;clear H h J K;generalize pc (loW l) 64=n0 at *;generalize pc (hiW l) 64=n1 at *;by_cases B:j<n0
 ·obtain⟨k,P,r,m⟩:=t.out B;have z:=θ r;have q:=θ m;clear r m t u v y;by_cases n:k<l.length;all_goals
   go_in;go_wp2_with fail;refine be3 3 ?_;rw[bd8];go_wp2_with fail;refine Cq (x.out _ _ _ _ (by simp[go_sem])) ?_;have d:=aR w (.cells #[.int .u64 (loW l)] 69);have g:=d.size;generalize w.alloc (.cells #[.int .u64 (loW l)] 69)=w1 at *;go_wp2_with fail;refine(pB (Y:=(k:Int)) (loW l) _ F.out (D.o.below' d) rfl z.o).mono ?_;rintro e L ⟨rfl,i⟩;have d:=d.trans (i.mono g);obtain⟨M,_⟩:=(C.o.below' d).cells;clear i;go_wp2;go_ret;exact⟨bA (by rw[q.o];simp[n]),d⟩
 ·by_cases N:j<n0+n1
  ·obtain⟨k,P,r,m⟩:=u.out E E;have z:=θ r;have q:=θ m;clear r m t u v;by_cases n:64+k<l.length;all_goals
    go_in;go_wp2_with fail;refine be3 3 ?_;rw[bd8];go_wp2_with fail;refine Cq (x.out _ _ _ _ (by simp[go_sem])) ?_;have d:=aR w (.cells #[.int .u64 (loW l)] 69);have g:=d.size;generalize w.alloc (.cells #[.int .u64 (loW l)] 69)=w1 at *;go_wp2_with fail;rw[bd8];go_wp2_with fail;refine Cq (y.out _ _ _ _ (by simp[go_sem])) ?_;have d:=d.alloc g (.cells #[.int .u64 (hiW l)] 69);have g:=d.size;generalize w1.alloc (.cells #[.int .u64 (hiW l)] 69)=L at *;go_wp2_with fail;refine(pB (Y:=(k:Int)) (hiW l) _ G.out (D.o.below' d) rfl z.o).mono ?_;rintro e X ⟨rfl,i⟩;have d:=d.trans (i.mono g);obtain⟨M,_⟩:=(C.o.below' d).cells;clear i;go_wp2;go_ret;exact⟨bA (by rw[q.o];simp[n]),d⟩
  ·have m:=v.out E;have q:=θ m;clear m t u v;go_in;go_wp2_with fail;refine be3 3 ?_;rw[bd8];go_wp2_with fail;refine Cq (x.out _ _ _ _ (by simp[go_sem])) ?_;have d:=aR w (.cells #[.int .u64 (loW l)] 69);have g:=d.size;generalize w.alloc (.cells #[.int .u64 (loW l)] 69)=w1 at *;go_wp2_with fail;rw[bd8];go_wp2_with fail;refine Cq (y.out _ _ _ _ (by simp[go_sem])) ?_;have d:=d.alloc g (.cells #[.int .u64 (hiW l)] 69);generalize w1.alloc (.cells #[.int .u64 (hiW l)] 69)=L at *;go_wp2_with fail;rw[bd8];go_wp2;go_ret;exact⟨bA q.o.symm,d⟩
theorem Cb{w:World}{p:Nat}{l:List Bool}(h:IsBlock w p l)(J:BitTab w)(j:Nat)(O:(j:Int)<=9223372036854775807):Calls prog 219 #[.pointer p,j, .bool false] w λe s=>e= .returned (cT l j false:Int)/\Below w w s:=by
 obtain⟨U,V,W,_⟩:=h.cells;have K:=h.1;have C:=dS l;have D:=dR l;have S:=Sr C;have T:=Sr D;have Q:=idx0 (.int .u64 (loW l)) (.int .u64 (hiW l));have R:=idx1 (.int .u64 (loW l)) (.int .u64 (hiW l));have H:Hid (cR (loW l)<2^64):=tN C false;have I:Hid (cR (hiW l)<2^64):=tN D false;have X:pc (cR (loW l)) 64<=64:=fF _ 64;have Z:pc (cR (hiW l)) 64<=64:=fF _ 64;have t:Hid (j<pc (cR (loW l)) 64->∃k:Nat,k<64/\sel (cR (loW l)) j=k/\cT l j false=if k<l.length then (k:Int)else -1):=ae6 (l:=l) (j:=j) (b:=false);have u:Hid (pc (cR (loW l)) 64<=j->j-pc (cR (loW l)) 64<pc (cR (hiW l)) 64->∃k:Nat,k<64/\sel (cR (hiW l)) ((j:Int)-(pc (cR (loW l)) 64:Nat))=k/\cT l j false=if 64+k<l.length then ((64+k:Nat):Int)else -1):=
  λa b=>ae5 (l:=l) (j:=j) (b:=false) a b K
 have v:Hid (pc (cR (loW l)) 64+pc (cR (hiW l)) 64<=j->cT l j false= -1):=λa=>ae7 (l:=l) (j:=j) (b:=false) a K;have x:Hid (∀(w:World) (b f c:Nat),w.cell? (b,f)=some (.int .u64 (cR (loW l)))->Calls prog 238 #[.slice (b,f) 1 c] w λe s=>e= .returned (pc (cR (loW l)) 64:Int)/\w=s):=
  λw b f c A=>iR _ w b f c A H.out
 have y:Hid (∀(w:World) (b f c:Nat),w.cell? (b,f)=some (.int .u64 (cR (hiW l)))->Calls prog 238 #[.slice (b,f) 1 c] w λe s=>e= .returned (pc (cR (hiW l)) 64:Int)/\w=s):=
  λw b f c A=>iR _ w b f c A I.out
 have G:=θ J;have F:=θ h;clear J h C D;generalize pc (cR (loW l)) 64=n0 at *;generalize pc (cR (hiW l)) 64=n1 at *;by_cases B:j<n0
 ·obtain⟨k,P,r,m⟩:=t.out B;have z:=θ r;have q:=θ m;clear r m t u v y;by_cases n:k<l.length;all_goals
   go_in;go_wp2_with fail;refine be3 3 ?_;rw[bd8];go_wp2_with fail;refine Cq (x.out _ _ _ _ (by simp[go_sem])) ?_;have d:=aR w (.cells #[.int .u64 (cR (loW l))] 69);have g:=d.size;generalize w.alloc (.cells #[.int .u64 (cR (loW l))] 69)=w1 at *;go_wp2_with fail;refine(pB (Y:=(k:Int)) (cR (loW l)) _ H.out (G.o.below' d) rfl z.o).mono ?_;rintro e L ⟨rfl,i⟩;have d:=d.trans (i.mono g);obtain⟨M,_⟩:=(F.o.below' d).cells;clear i;go_wp2;go_ret;exact⟨bA (by rw[q.o];simp[n]),d⟩
 ·by_cases N:j<n0+n1
  ·obtain⟨k,P,r,m⟩:=u.out E E;have z:=θ r;have q:=θ m;clear r m t u v;by_cases n:64+k<l.length;all_goals
    go_in;go_wp2_with fail;refine be3 3 ?_;rw[bd8];go_wp2_with fail;refine Cq (x.out _ _ _ _ (by simp[go_sem])) ?_;have d:=aR w (.cells #[.int .u64 (cR (loW l))] 69);have g:=d.size;generalize w.alloc (.cells #[.int .u64 (cR (loW l))] 69)=w1 at *;go_wp2_with fail;rw[bd8];go_wp2_with fail;refine Cq (y.out _ _ _ _ (by simp[go_sem])) ?_;have d:=d.alloc g (.cells #[.int .u64 (cR (hiW l))] 69);have g:=d.size;generalize w1.alloc (.cells #[.int .u64 (cR (hiW l))] 69)=L at *;go_wp2_with fail;refine(pB (Y:=(k:Int)) (cR (hiW l)) _ I.out (G.o.below' d) rfl z.o).mono ?_;rintro e w3 ⟨rfl,i⟩;have d:=d.trans (i.mono g);obtain⟨M,_⟩:=(F.o.below' d).cells;clear i;go_wp2;go_ret;exact⟨bA (by rw[q.o];simp[n]),d⟩
  ·have m:=v.out E;have q:=θ m;clear m t u v;go_in;go_wp2_with fail;refine be3 3 ?_;rw[bd8];go_wp2_with fail;refine Cq (x.out _ _ _ _ (by simp[go_sem])) ?_;have d:=aR w (.cells #[.int .u64 (cR (loW l))] 69);have g:=d.size;generalize w.alloc (.cells #[.int .u64 (cR (loW l))] 69)=w1 at *;go_wp2_with fail;rw[bd8];go_wp2_with fail;refine Cq (y.out _ _ _ _ (by simp[go_sem])) ?_;have d:=d.alloc g (.cells #[.int .u64 (cR (hiW l))] 69);generalize w1.alloc (.cells #[.int .u64 (cR (hiW l))] 69)=L at *;go_wp2_with fail;rw[bd8];go_wp2;go_ret;exact⟨bA q.o.symm,d⟩
theorem Yb{w:World}{p:Nat}{l:List Bool}(h:IsBlock w p l)(c:BitTab w)(j:Int)(b:Bool)(a:j<=9223372036854775807):Calls prog 219 #[.pointer p,j, .bool b] w λe f=>e= .returned (cT l j b:Int)/\Below w w f:=by
 by_cases d:j<0
 ·rw[Ng d];refine Cq (Is w p j b d) ?_;exact⟨rfl,aJ6 _ _⟩
 ·obtain⟨n,rfl⟩:=aK0 (show 0<=j by omega);cases b
  ·exact Cb h c n a
  ·exact Fd h c n a
end
end Go.Proofs.YtchinbgemenenaaGreatDoor
