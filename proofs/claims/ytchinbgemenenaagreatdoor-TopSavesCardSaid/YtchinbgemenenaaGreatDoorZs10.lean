/- Lemmas and contracts under the claims of this seat. No condition. -/
import Derived.Test.YtchinbgemenenaaGreatDoorZs9
namespace Go.Proofs.YtchinbgemenenaaGreatDoor
open Go.Proofs.Tryz
set_option linter.unusedVariables false
set_option linter.unusedSimpArgs false
set_option maxRecDepth 100000
set_option maxHeartbeats 12800000
section
variable {l m:List Int}{i:Nat}{R:List Nat}
theorem kX{m:List Int}(d:IsSyms m){q:Nat}{c:Int}(e:0<c)(h:sy m q=c):q+1<m.length:=by
 have f:=d.pos;rcases aV8 q m.length with a | a
 ·rcases aV8 (q+1) m.length with b | b
  ·exact b
  ·obtain rfl:q=m.length-1:=E;rw[d.last]at h;omega
 ·rw[eO a]at h;omega
theorem InvI.down (z:IsSyms m)(s:∀j,j<i->sy l j=sy m j)(h:InvI l m i R){a d:Nat}(M:0<i)(y:R[d]? =some i)(v:R[a]? =some (i-1)){c:Int}(w:0<c):(bj0 R a).Pairwise λp q=>dn m (R.take d) c q=true->dn m (R.take d) c p=true:=by
 have C:=(aO2.1 v).1;have k:=jU h v;have o:((i-1)::bj0 R a).Nodup:=k.nodup_iff.1 aS4;have r:=h.ord.sublist (fJ R a);refine r.imp_of_mem (λ{p q} G I u f=>?_);have H:p≠i-1:=λe=>(aS2.1 o).1 (e▸G);have J:q≠i-1:=λe=>(aS2.1 o).1 (e▸I);have n:seqLt (cG l m i p) (cG l m i q):=u.resolve_right E;rw[xC s E E]at n;rw[iS]at f⊢;rcases n with n | ⟨D,n⟩
 ·left;rcases f with f | ⟨f,_⟩<;>omega
 ·rcases f with f | ⟨f,g⟩
  ·left;omega
  ·right;refine⟨E,?_⟩;rw[cU]at g⊢;obtain⟨b,L,t⟩:=g;have K:=kX z w f;have B:=kX z w (D.trans f);obtain⟨x,A⟩:=h.find B;have F:b≠d:=E;have :=h.row A t n E;exact⟨x,E,A⟩
theorem lf_out(f:IsSyms m)(h:InvI l m i R){a cur p:Nat}(d:R[a]? =some p){c:Int}(e:0<c)(b:dn m (R.take cur) c p=false):lfC m (R.take cur) c=(bj0 R a).countP (dn m (R.take cur) c):=by
 rw[rC f (h.nodup.sublist (aU0 _ _)) (λq g=>h.lt (aR7 g)) e];show (List.range m.length).countP (dn m (R.take cur) c)=_;rw[(jU h d).countP_eq,aL7,b];simp
theorem InvI.step (I:IsSyms m)(s:∀j,j<i->sy l j=sy m j)(h:InvI l m i R)(O:0<i)(Z:i<m.length){a b:Nat}(c:R[b]? =some i)(H:R[a]? =some (i-1)):lfC m (R.take b) (sy m (i-1))<m.length/\InvI l m (i-1) (inL (bj0 R a) (lfC m (R.take b) (sy m (i-1))) (i-1)):=by
 have M:0<sy m (i-1):=I.rest (i-1) E;have L:=(aO2.1 H).1;have X:=(aO2.1 c).1;have Q:dn m (R.take b) (sy m (i-1)) (i-1)=false:=by
  rw[<-aJ9,iS];rintro(K | ⟨_,K⟩)
  ·omega
  ·rw[cU]at K;obtain⟨x,J,G⟩:=K;rw[show i-1+1=i by omega]at G;have :=h.inj G c;omega
 have U:=lf_out (cur:=b) I h H M Q;generalize lfC m (R.take b) (sy m (i-1))=t at *;have a1:=cA L;have W:=h.len;have a3:t<=(bj0 R a).length:=by rw[U];exact aL9
 have v:=InvI.down I s h O c H M;have d:=kP v;rw[<-U]at d;have o:=jU h H;have u:((i-1)::bj0 R a).Nodup:=o.nodup_iff.1 aS4;have z:=Ix (l:=l) (m:=m) O;have y:cG l m (i-1) (i-1) 0=sy m (i-1):=by rw[Ld O];rfl
 refine⟨E,(fW _ _ _).trans o.symm,Al ?_ (λr D F=>?_) (λr D F=>?_)⟩
 ·refine(h.ord.sublist (fJ R a)).imp_of_mem (λ{p q} A C S=>?_);have B:p≠i-1:=λe=>(aS2.1 u).1 (e▸A);have a2:q≠i-1:=λe=>(aS2.1 u).1 (e▸C);left;rw[rA E,rA E];exact S.resolve_right E
 ·
  have k:=aP0 D;generalize A:(bj0 R a)[r]=p at *;have B:p≠i-1:=λe=>(aS2.1 u).1 (e▸k);by_cases J:p+1=i-1
  ·exact Ej (Ej ⟨rfl,J⟩)
  left;have g:=(d r D).2 F;rw[A,iS]at g;rw[iG,z,y,rA E,gW s,rB E];rcases g with g | ⟨g,n⟩
  ·exact Ei g
  ·refine Ej ⟨g,?_⟩;rw[cU]at n;obtain⟨x,T,f⟩:=n;exact h.key f c T E
 ·
  have k:=aP0 D;generalize A:(bj0 R a)[r]=p at *;have B:p≠i-1:=λe=>(aS2.1 u).1 (e▸k);by_cases J:p+1=i-1
  ·exact Ej (Ei ⟨rfl,J⟩)
  left;have g:¬dn m (R.take b) (sy m (i-1)) p=true:=by
   intro g;have :=(d r D).1 (by rw[A];exact g);omega
  rw[iS]at g;rw[iG,z,y,rA E,gW s,rB E];rcases Int.lt_trichotomy (sy m (i-1)) (sy m p)with P | w | N
  ·exact Ei P
  ·refine Ej ⟨w,?_⟩;have V:=kX I M w.symm;obtain⟨x,f⟩:=h.find V;have Y:b<=x:=by
    rcases aV8 x b with C | C
    ·exact absurd (Ej ⟨w.symm,cU.2 ⟨x,C,f⟩⟩) g
    ·exact C
   have a0:b≠x:=by
    intro e;subst e;rw[c]at f;injection f with f;omega
   exact h.key c f E E
  ·exact absurd (Ei N) g
def sF(next cur a:Nat):Nat:=(if a<=(if cur<a then next-1 else next)then (if cur<a then next-1 else next)+1 else (if cur<a then next-1 else next))
def Jj(m:List Int)(R:List Nat)(cur a:Nat)(c d:Int):Nat:=if c=d then sF (lfC m (R.take a) d) cur a else lfC m (R.take a) d
theorem InvI.next (M:IsSyms m)(c:∀j,j<i->sy l j=sy m j)(h:InvI l m i R)(hi:2<=i)(a0:i<m.length){a d:Nat}(v:R[d]? =some i)(s:R[a]? =some (i-1)):R[Jj m R d a (sy m (i-1)) (sy m (i-2))]? =some (i-2)/\(d<a->sy m (i-1)=sy m (i-2)->0<lfC m (R.take a) (sy m (i-2))):=by
 have hc:0<sy m (i-1):=M.rest (i-1) E;have L:0<sy m (i-2):=M.rest (i-2) E;have z:=(aO2.1 s).1;obtain⟨n,u⟩:=h.find (p:=i-2) E;have a1:=(aO2.1 u).1;have P:n≠a:=by
  intro e;subst e;rw[u]at s;injection s with s;omega
 have k:=jU h s;have Q:((i-1)::bj0 R a).Nodup:=k.nodup_iff.1 aS4;have a2:=cA z;have Y:bQ n a=(bj0 R a).countP (dn m (R.take a) (sy m (i-2))):=by
  have Z:=sQ u z P;have O:=(aO2.1 Z).1;have D:∀r (G:r<(bj0 R a).length),(dn m (R.take a) (sy m (i-2)) (bj0 R a)[r]=true↔r<bQ n a):=by
   intro r G;have I:=aP0 G;generalize hp:(bj0 R a)[r]=p at *;have a3:p≠i-1:=λe=>(aS2.1 Q).1 (e▸I);have o:(bj0 R a)[r]? =some p:=by rw[aO0 G,hp]
   obtain⟨x,H,U⟩:∃x,R[x]? =some p/\(x<n↔r<bQ n a):=by
    rw[dF R z]at o;by_cases J:r<a
    ·rw[bd0 J]at o;refine⟨r,o,?_⟩;unfold bQ;split<;>omega
    ·rw[bc9 J]at o;refine⟨r+1,o,?_⟩;unfold bQ;split<;>omega
   rw[<-U,iS];by_cases w:p=i-2
   ·subst w;have :=h.inj H u;constructor
    ·rintro(b | ⟨_,b⟩)
     ·omega
     ·rw[cU]at b;obtain⟨y,C,K⟩:=b;rw[show i-2+1=i-1 by omega]at K;have :=h.inj K s;omega
    ·intro b;omega
   ·constructor
    ·intro b;refine h.row H u ?_ E;rw[xC c E E];rcases b with b | ⟨b,f⟩
     ·exact Ei b
     ·refine Ej ⟨b,?_⟩;rw[cU]at f;obtain⟨y,C,V⟩:=f;rw[show i-2+1=i-1 by omega];exact h.key V s C E
    ·intro b;have t:=h.key H u b E;rw[xC c E E,show i-2+1=i-1 by omega]at t;rcases t with t | ⟨X,t⟩
     ·exact Ei t
     ·refine Ej ⟨X,?_⟩;obtain⟨y,C⟩:=h.find (kX M L X);exact cU.2 ⟨y,h.row C s t E,C⟩
  have N:(bj0 R a).Pairwise (λp q=>dn m (R.take a) (sy m (i-2)) q=true->dn m (R.take a) (sy m (i-2)) p=true):=by
   rw[aS7];intro x y H C a4 L;exact(D x H).2 (by have :=(D y C).1 L;omega)
  have S:=kP N;have b:∀r,r<(bj0 R a).length->(r<bQ n a↔r<(bj0 R a).countP (dn m (R.take a) (sy m (i-2)))):=λr G=>(D r G).symm.trans (S r G);have F:(bj0 R a).countP (dn m (R.take a) (sy m (i-2)))<=(bj0 R a).length:=aL9;rcases aV9 (bQ n a) ((bj0 R a).countP (dn m (R.take a) (sy m (i-2))))with B | B | B
  ·have :=(b (bQ n a) O).2 B;omega
  ·exact B
  ·have :=(b ((bj0 R a).countP (dn m (R.take a) (sy m (i-2)))) E).1 B;omega
 have W:lfC m (R.take a) (sy m (i-2))=bQ n a+if dn m (R.take a) (sy m (i-2)) (i-1)=true then 1 else 0:=by
  rw[rC M (h.nodup.sublist (aU0 _ _)) (λq B=>h.lt (aR7 B)) L];show (List.range m.length).countP (dn m (R.take a) (sy m (i-2)))=_;rw[k.countP_eq,aL7,Y]
 have A:dn m (R.take a) (sy m (i-2)) (i-1)=true↔sy m (i-1)<sy m (i-2)\/(sy m (i-1)=sy m (i-2)/\d<a):=by
  rw[iS,cU,show i-1+1=i by omega];constructor
  ·rintro(b | ⟨b,x,H,T⟩)
   ·exact Ei b
   ·exact Ej ⟨b,by have :=h.inj T v;omega⟩
  ·rintro(b | ⟨b,F⟩)
   ·exact Ei b
   ·exact Ej ⟨b,d,F,v⟩
 constructor
 ·rw[<-u];congr 1;unfold Jj;rw[W];by_cases e:sy m (i-1)=sy m (i-2)
  ·rw[bd0 e];have w:dn m (R.take a) (sy m (i-2)) (i-1)=true↔d<a:=by
    rw[A];constructor
    ·rintro(b | ⟨_,b⟩)
     ·omega
     ·exact b
    ·intro b;exact Ej ⟨e,b⟩
   unfold sF bQ;by_cases b:d<a
   ·rw[bd0 (w.2 b),bd0 b];by_cases f:a<n
    ·rw[bd0 f,bd0 E];omega
    ·rw[bc9 f,bc9 E];omega
   ·rw[bc9 (λF=>b (w.1 F)),bc9 b];by_cases f:a<n
    ·rw[bd0 f,bd0 E];omega
    ·rw[bc9 f,bc9 E];omega
  ·rw[bc9 e];have t:a<n↔sy m (i-1)<sy m (i-2):=by
    constructor
    ·intro b;have t:=h.key s u b E;have g:=iG.1 t;rw[gW c,gW c]at g;rcases g with g | ⟨g,_⟩
     ·exact g
     ·exact absurd g e
    ·intro b;refine h.row s u ?_ E;rw[iG,gW c,gW c];exact Ei b
   have w:dn m (R.take a) (sy m (i-2)) (i-1)=true↔a<n:=by
    rw[A,t];constructor
    ·rintro(b | ⟨b,_⟩)
     ·exact b
     ·exact absurd b e
    ·exact Ei
   unfold bQ;by_cases f:a<n
   ·rw[bd0 f,bd0 (w.2 f)];omega
   ·rw[bc9 f,bc9 (λF=>f (w.1 F))];omega
 ·intro b e;rw[W,bd0 (A.2 (Ej ⟨e,b⟩))];omega
theorem am4{A B:List Nat}(h:A.Sublist B)(c:Int):lfC m A c<=lfC m B c:=by
 unfold lfC;have :=h.countP_le (p:=λp=>pvS m p==c);omega
theorem Lg{k p:Nat}{c:Int}(b:R[k]? =some p)(f:pvS m p=c){a:Nat}(e:k<a):lfC m (R.take k) c<lfC m (R.take a) c:=by
 have d:=(aO2.1 b).1;have g:lfC m (R.take (k+1)) c<=lfC m (R.take a) c:=am4 (List.take_sublist_take_left E) c;have h:lfC m (R.take (k+1)) c=lfC m (R.take k) c+1:=by
  unfold lfC;rw[aT5,b,aL5];simp[f];omega
 omega
theorem InvI.stay (g:IsSyms m):∀{i:Nat} {R:List Nat},(∀j,j<i->sy l j=sy m j)->InvI l m i R->0<i->i<m.length->∀{a b:Nat},R[b]? =some i->R[a]? =some (i-1)->lfC m (R.take b) (sy m (i-1))=a->InvI l m 0 R
 | 0,_,_,_,hi,_,_,_,_,_,_=>absurd hi E
 | i+1,R,hpre,h,hi,him,a,b,hcur,c,ht=>by
  have f:=(h.step g hpre hi him hcur c).2;rw[ht,Sc R c]at f;rw[aU5]at f c ht;cases i with
  | zero=>exact f
  | succ i=>
   have o:=(h.next g hpre E him hcur (by rw[aU5];exact c)).1;rw[show i+1+1-1=i+1 by omega,show i+1+1-2=i by omega]at o;refine InvI.stay g (λj q=>hpre j E) f E E c (by rw[aU5];exact o) ?_;rw[aU5];unfold Jj;by_cases e:sy m (i+1)=sy m i
   ·rw[bd0 e,<-e];have n:pvS m (i+1+1)=sy m (i+1):=cF him;have k:pvS m (i+1)=sy m (i+1):=by rw[cF E,e]
    unfold sF;rcases aV9 b a with d | d | d
    ·have :=Lg hcur n d;rw[bd0 d,bd0 E];omega
    ·subst d;rw[hcur]at c;injection c with c;omega
    ·have :=Lg c k d;have p:¬b<a:=E;simp only[p,bc8];rw[bc9 E]
   ·rw[bc9 e]
theorem InvI.done (h:InvI l m 0 R):IsRows m R:=by
 refine⟨h.perm,h.ord.imp (λ{p q} a=>?_)⟩;rcases a with a | a | a
 ·rw[jM];have e:∀p,cG l m 0 p=λd=>sy m (p+d):=λp=>by funext d;unfold cG;rw[bc9 E]
  rw[e,e]at a;exact a
 ·omega
 ·omega
end
theorem oE{l:List Int}{k:Nat}(h:k<=l.length)(v:Int)(j:Nat):sy (inL l k v) j=if j<k then sy l j else if j=k then v else sy l (j-1):=by
 unfold sy;rw[iT h];by_cases a:j<k
 ·rw[bd0 a,bd0 a]
 ·rw[bc9 a,bc9 a];by_cases b:j=k
  ·rw[bd0 b,bd0 b];rfl
  ·rw[bc9 b,bc9 b]
theorem sV{l:List Int}{k:Nat}(h:k<l.length)(j:Nat):sy (bj0 l k) j=if j<k then sy l j else sy l (j+1):=by
 unfold sy;rw[dF l h];by_cases a:j<k
 ·rw[bd0 a,bd0 a]
 ·rw[bc9 a,bc9 a]
theorem sW{l:List Int}{k:Nat}(h:k<l.length)(v:Int)(j:Nat):sy (l.set k v) j=if j=k then v else sy l j:=by
 unfold sy;rw[aO5];by_cases a:k=j
 ·subst a;rw[bd0 rfl,bd0 h,bd0 rfl];rfl
 ·rw[bc9 a,bc9 (λe=>a e.symm)]
theorem ax8(t:List Int){k:Nat}(h:k<=t.length)(b:Int):aA (inL t k b)=inL (aA t) k (b+1):=by
 unfold aA inL;rw[List.map_append,List.take_append_of_le_length (by simpa using h),List.drop_append_of_le_length (by simpa using h)];simp[aQ8,aQ5]
theorem af8(t:List Int){k:Nat}(h:k<t.length):aA (bj0 t k)=bj0 (aA t) k:=by
 unfold aA bj0;rw[aQ2,aT7 (by simp;omega),aM4 (by simp;omega)];simp[aQ8,aQ5]
theorem af9(t:List Int){k:Nat}(h:k<t.length)(b:Int):aA (t.set k b)=(aA t).set k (b+1):=by
 unfold aA;rw[List.map_set,List.set_append_left _ _ (by simpa using h)]
def lvR(m:List Int)(R:List Nat):List Nat:=R.map λp=>(pvS m p).toNat
theorem cP(m:List Int)(R:List Nat):(lvR m R).length=R.length:=by simp[lvR]
theorem yQ{m:List Int}{R:List Nat}{k p:Nat}(h:R[k]? =some p):(lvR m R)[k]? =some (pvS m p).toNat:=by unfold lvR;rw[aO3,h];rfl
theorem Mf{m:List Int}(a:IsSyms m)(p:Nat):0<=pvS m p:=by
 have :=a.pos;exact a.nn _ (aW2 _ this)
theorem Mm{m:List Int}(a:IsSyms m)(R:List Nat)(k s:Nat):bB (lvR m R) k s=(R.take k).countP (λp=>pvS m p==(s:Int)):=by
 unfold bB lvR;rw[<-aQ8,List.count,aM0];refine aL6 (λp _=>?_);have :=Mf a p;simp only[Function.comp,bb7];omega
theorem rT(m:List Int)(s:Int):aN m s=(List.range m.length).countP (λq=>decide (sy m q<s)):=by
 unfold aN;have e:=bb9 (List.countP λx=>decide (x<s)) (lQ m);rw[aM0]at e;exact e.symm
theorem Li{m:List Int}(a:IsSyms m)(R:List Nat)(k s:Nat):aN m (s:Int)+bB (lvR m R) k s=lfC m (R.take k) (s:Int):=by
 unfold lfC;rw[Mm a,rT]
section
variable {l:List Int}{R:List Nat}
theorem kR(l:List Int)(i p:Nat):cG l l i p=λd=>sy l (p+d):=by funext d;unfold cG;split<;>rfl
theorem InvI.of_rows (h:IsRows l R):InvI l l 0 R:=⟨h.1,h.2.imp (λ{p q} a=>Ei (by rw[kR,kR,<-jM];exact a))⟩
theorem Mz(h:IsRows l R){a b p q:Nat}(d:R[a]? =some p)(e:R[b]? =some q)(c:a<b):sufLt l p q:=by
 have :=(InvI.of_rows h).key d e c E;rw[kR,kR,<-jM]at this;exact this
theorem as9(h:IsRows l R){a b p q:Nat}(c:R[a]? =some p)(d:R[b]? =some q)(e:sufLt l p q):a<b:=by
 refine(InvI.of_rows h).row c d ?_ E;rw[kR,kR,<-jM];exact e
theorem Dg(j:IsSyms l)(h:IsRows l R)(k:Nat){s:Int}(m:0<s):R.Pairwise λp q=>dn l (R.take k) s q=true->dn l (R.take k) s p=true:=by
 refine h.2.imp (λ{p q} d a=>?_);rw[jC]at d;rw[iS]at a⊢;rcases d with f | ⟨i,f⟩
 ·left;rcases a with a | ⟨a,_⟩<;>omega
 ·rcases a with a | ⟨a,c⟩
  ·left;omega
  ·right;refine⟨E,?_⟩;rw[cU]at c⊢;obtain⟨b,n,e⟩:=c;obtain⟨x,g⟩:=(InvI.of_rows h).find (kX j m (i.trans a));have :=as9 h g e f;exact⟨x,E,g⟩
theorem Hr(h:IsRows l R){k j:Nat}(i:R[k]? =some j){s:Int}{f:Nat->Int}(g:f 0=s)(m:(λd=>f (d+1))=λd=>sy l (j+d)){p:Nat}(b:dn l (R.take k) s p=true):seqLt (λd=>sy l (p+d)) f:=by
 rw[iS]at b;rw[iG,m,g];rcases b with b | ⟨b,a⟩
 ·exact Ei b
 ·refine Ej ⟨b,?_⟩;rw[cU]at a;obtain⟨x,n,c⟩:=a;have :=Mz h c i n;rw[jM]at this;have e:(λd=>sy l (p+(d+1)))=λd=>sy l (p+1+d):=by funext d;congr 1;omega
  rw[e];exact this
theorem Mb(t:IsSyms l)(h:IsRows l R){k j:Nat}(n:R[k]? =some j){s:Int}(v:0<s){f:Nat->Int}(q:f 0=s)(w:(λd=>f (d+1))=λd=>sy l (j+d)){p:Nat}(c:¬dn l (R.take k) s p=true)(u:p+1≠j):seqLt f (λd=>sy l (p+d)):=by
 rw[iS]at c;rw[iG,w,q];rcases Int.lt_trichotomy s (sy l p)with i | a | g
 ·exact Ei i
 ·refine Ej ⟨a,?_⟩;obtain⟨x,b⟩:=(InvI.of_rows h).find (kX t v a.symm);have r:k<=x:=by
   rcases aV8 x k with m | m
   ·exact absurd (Ej ⟨a.symm,cU.2 ⟨x,m,b⟩⟩) c
   ·exact m
  have o:k≠x:=by
   intro e;subst e;rw[n]at b;injection b with b;omega
  have :=Mz h n b E;rw[jM]at this;have e:(λd=>sy l (p+(d+1)))=λd=>sy l (p+1+d):=by funext d;congr 1;omega
  rw[e];exact this
 ·exact absurd (Ei g) c
end
def upN(k p:Nat):Nat:=if p<k then p else p+1
def dpN(k p:Nat):Nat:=if p<k then p else p-1
section
variable {l:List Int}{R:List Nat}{k at_:Nat}{s:Int}
theorem Mk(n k:Nat)(c:k<=n):(List.range (n+1)).Perm (k::(List.range n).map (upN k)):=by
 have e:(List.range (n+1))=inL ((List.range n).map (upN k)) k k:=by
  apply aM9;intro j;rw[iT (by simpa using c)];by_cases h:j<n+1
  ·rw[List.getElem?_range h];by_cases a:j<k
   ·rw[bd0 a,aO3,List.getElem?_range E];unfold upN;simp[a]
   ·rw[bc9 a];by_cases b:j=k
    ·rw[bd0 b,b]
    ·rw[bc9 b,aO3,List.getElem?_range E];unfold upN;simp;rw[bc9 E];omega
  ·rw[aO1 (by simp;omega),bc9 E,bc9 E,aO1 (by simp;omega)]
 rw[e];exact fW _ _ _
theorem aB8(o:IsSyms l)(h:IsRows l R)(m:R[k]? =some at_)(y:0<s):lfC l (R.take k) s<=R.length/\InvI l (inL l at_ s) at_ (inL (R.map (upN at_)) (lfC l (R.take k) s) at_):=by
 have n:=h.lt (aO2.1 m).1;rw[(aO2.1 m).2]at n;have f:lfC l (R.take k) s=R.countP (dn l (R.take k) s):=by
  rw[rC o (h.nodup.sublist (aU0 _ _)) (λq A=>aR8.1 (h.1.mem_iff.1 (aR7 A))) y];exact(h.1.countP_eq _).symm
 have b:=kP (Dg o h k y);rw[<-f]at b;have u:lfC l (R.take k) s<=R.length:=by rw[f];exact aL9
 generalize lfC l (R.take k) s=t at *;have v:(inL l at_ s).length=l.length+1:=kC E;have a:∀p,cG l (inL l at_ s) at_ (upN at_ p)=λd=>sy l (p+d):=by
  intro p;funext d;unfold cG upN;by_cases w:p<at_
  ·rw[bd0 w,bd0 w]
  ·rw[bc9 w,bc9 E,oE E,bc9 E,bc9 E];congr 1;omega
 have c:cG l (inL l at_ s) at_ at_ 0=s:=by
  unfold cG;rw[bc9 E,oE E,bc9 E,bd0 E]
 have e:(λd=>cG l (inL l at_ s) at_ at_ (d+1))=λd=>sy l (at_+d):=by
  funext d;unfold cG;rw[bc9 E,oE E,bc9 E,bc9 E];congr 1
 refine⟨u,⟨?_,Al ?_ (λr i j=>?_) (λr i j=>?_)⟩⟩
 ·rw[v];refine(fW _ _ _).trans (List.Perm.trans ?_ (Mk l.length at_ E).symm);exact(h.1.map _).cons _
 ·rw[List.pairwise_map];refine h.2.imp (λ{p q} x=>Ei ?_);rw[a,a,<-jM];exact x
 ·left;rw[aP7]at i;rw[aO9,a];exact Hr h m c e ((b r i).2 j)
 ·rw[aP7]at i;rw[aO9,a];by_cases g:R[r]+1=at_
  ·right;left;refine⟨rfl,?_⟩;unfold upN;rw[bd0 E];exact g
  ·left;exact Mb o h m y c e (λz=>by have :=(b r i).1 z;omega) g
theorem ins_lv(u:IsSyms l)(h:IsRows l R)(m:R[k]? =some at_)(A:0<s)(v:IsSyms (inL l at_ s))(i:Nat):lvR (inL l at_ s) (inL (R.map (upN at_)) i at_)=inL (inL (bj0 (lvR l R) k) k s.toNat) i (pvS l at_).toNat:=by
 have a:=(aO2.1 m).1;have f:=h.lt a;rw[(aO2.1 m).2]at f;have y:(inL l at_ s).length=l.length+1:=kC E;have r:pvS (inL l at_ s) at_=pvS l at_:=by
  rcases aV0 at_ with rfl | x
  ·rw[fA u,fA v]
  ·obtain⟨q,rfl⟩:∃q,at_=q+1:=⟨at_-1,E⟩;rw[cF f,cF E,oE E,bd0 E]
 unfold lvR;rw[sN,r];congr 1;rw[aQ6];apply aM9;intro j;have z:(bj0 (R.map λp=>(pvS l p).toNat) k).length+1=R.length:=by have :=cA (l:=R.map λp=>(pvS l p).toNat) (k:=k) (by simpa using a);simpa using this
 rw[iT E,aO3];have b:∀p,p≠at_->p<l.length->pvS (inL l at_ s) (upN at_ p)=pvS l p:=by
  intro p w c;unfold upN;rcases aV0 p with rfl | x
  ·rw[bd0 E,fA u,fA v]
  ·obtain⟨q,rfl⟩:∃q,p=q+1:=⟨p-1,E⟩;by_cases t:q+1<at_
   ·rw[bd0 t,cF c,cF E,oE E,bd0 E]
   ·rw[bc9 t,cF c,cF E,oE E,bc9 E,bc9 E];rfl
 have d:pvS (inL l at_ s) (upN at_ at_)=s:=by
  unfold upN;rw[bc9 E,cF E,oE E,bc9 E,bd0 rfl]
 by_cases o:j=k
 ·subst o;rw[bc9 E,bd0 rfl,m];simp[d]
 ·have g:(if j<k then (bj0 (R.map λp=>(pvS l p).toNat) k)[j]? else if j=k then some s.toNat else (bj0 (R.map λp=>(pvS l p).toNat) k)[j-1]?)=(R[j]?).map λp=>(pvS l p).toNat:=by
   rw[bc9 o];by_cases n:j<k
   ·rw[if_pos n,dF _ (by simpa using a),if_pos n,List.getElem?_map]
   ·rw[if_neg n,dF _ (by simpa using a),if_neg E,show j-1+1=j by omega,List.getElem?_map]
  rw[g];rcases hj:R[j]? with _ | p
  ·rfl
  ·have w:p≠at_:=λe=>o ((InvI.of_rows h).inj (e▸hj) m);have c:=(InvI.of_rows h).lt (aR5 hj);simp[b p w c]
end
section
variable {α:Type}
theorem rZ(L:List α){b:Nat}(h:b<L.length)(x:α):inL (bj0 L b) b x=L.set b x:=by
 apply aM9;intro j;have d:=cA h;rw[iT E,aO5];by_cases c:j<b
 ·rw[bd0 c,dF L h,bd0 c,bc9 E]
 ·rw[bc9 c];by_cases a:j=b
  ·rw[bd0 a,bd0 a.symm,bd0 h]
  ·rw[bc9 a,bc9 (λe=>a e.symm),dF L h,bc9 E];congr 1;omega
theorem Og(L:List α){k b:Nat}(h:k<b)(a:k<L.length):(bj0 L k).take (b-1)=bj0 (L.take b) k:=by
 unfold bj0;rw[List.take_append,aU1,aU1,aQ1,aW0 (show k<=L.length by omega),Nat.min_eq_right (show k<=b-1 by omega),aW0 (show k<=b by omega),List.drop_take];congr 2;omega
theorem Oi(L:List α){k b:Nat}(h:b<=k):(bj0 L k).take b=L.take b:=by
 unfold bj0;by_cases a:k<=L.length
 ·rw[aT7 (by simp;omega),aU1,aW0 h]
 ·rw[aT9 (show L.length<=k by omega),List.drop_of_length_le E,aL2]
theorem Ck(f:α->Bool){L:List α}{k b:Nat}{x:α}(c:L[k]? =some x)(g:k≠b):(L.take b).countP f=((bj0 L k).take (bQ b k)).countP f+if k<b/\f x=true then 1 else 0:=by
 unfold bQ;by_cases h:k<b
 ·rw[bd0 h,Og L h (aO2.1 c).1];have d:(L.take b)[k]? =some x:=by rw[aO6,bd0 h,c]
  rw[(eF d).countP_eq,aL7];congr 1;by_cases a:f x=true
  ·rw[bd0 a,bd0 ⟨h,a⟩]
  ·rw[bc9 a,bc9 (λe=>a e.2)]
 ·rw[bc9 h,Oi L E,bc9 (λe=>h e.1),aU7]
end
section
variable {l:List Int}{R:List Nat}{k bh at_:Nat}{s:Int}
theorem dp_up(k p:Nat):dpN k (upN k p)=p:=by
 unfold dpN upN;by_cases h:p<k
 ·rw[bd0 h,bd0 h]
 ·rw[bc9 h,bc9 E];omega
theorem aA9(w:IsSyms l)(h:IsRows l R)(f:R[k]? =some at_)(r:at_+1<l.length):InvI l (bj0 l at_) at_ ((bj0 R k).map (dpN at_)):=by
 have t:=(aO2.1 f).1;have u:=cA (l:=l) (k:=at_) E;have g:(at_::bj0 R k).Perm (at_::(List.range (l.length-1)).map (upN at_)):=(eF f).symm.trans (h.1.trans (by
  have :=Mk (l.length-1) at_ E
  rwa[show l.length-1+1=l.length by omega]at this))
 have i:=(List.perm_cons _).1 g;have b:(at_::bj0 R k).Nodup:=(eF f).nodup_iff.1 h.nodup;have a:∀p,p≠at_->cG l (bj0 l at_) at_ (dpN at_ p)=λd=>sy l (p+d):=by
  intro p o;funext d;unfold cG dpN;by_cases c:p<at_
  ·rw[bd0 c,bd0 c]
  ·rw[bc9 c,bc9 E,sV E,bc9 E];congr 1;omega
 refine⟨?_,?_⟩
 ·have :=i.map (dpN at_);rw[aQ6]at this;have e:(dpN at_∘upN at_)=id:=by funext p;exact dp_up at_ p
  rw[e,List.map_id]at this;rwa[show (bj0 l at_).length=l.length-1 by omega]
 ·rw[List.pairwise_map];refine(h.2.sublist (fJ R k)).imp_of_mem (λ{p q} o v m=>Ei ?_);have j:p≠at_:=λe=>(aS2.1 b).1 (e▸o);have n:q≠at_:=λe=>(aS2.1 b).1 (e▸v);rw[a p j,a q n,<-jM];exact m
theorem aD7{R:List Nat}(d:R.Nodup)(c:R[k]? =some at_){j p:Nat}(a:(bj0 R k)[j]? =some p):∃y,R[y]? =some p/\y≠k/\y=if j<k then j else j+1:=by
 have b:=(aO2.1 c).1;rw[dF R b]at a;by_cases h:j<k
 ·rw[bd0 h]at a;exact⟨j,a,E,by rw[bd0 h]⟩
 ·rw[bc9 h]at a;exact⟨j+1,a,E,by rw[bc9 h]⟩
theorem del_lv(v:IsSyms l)(h:IsRows l R)(n:R[k]? =some at_)(i:R[bh]? =some (at_+1))(z:IsSyms (bj0 l at_))(D:at_+1<l.length):lvR (bj0 l at_) ((bj0 R k).map (dpN at_))=bj0 ((lvR l R).set bh (pvS l at_).toNat) k:=by
 have o:=(aO2.1 n).1;have m:=(aO2.1 i).1;have F:=cA (l:=l) (k:=at_) E;have t:pvS (bj0 l at_) at_=pvS l at_:=by
  rcases aV0 at_ with rfl | B
  ·rw[fA v,fA z]
  ·obtain⟨q,rfl⟩:∃q,at_=q+1:=⟨at_-1,E⟩;rw[cF E,cF E,sV E,bd0 E]
 have a:∀p,p≠at_->p≠at_+1->p<l.length->pvS (bj0 l at_) (dpN at_ p)=pvS l p:=by
  intro p I g b;unfold dpN;rcases aV0 p with rfl | B
  ·rw[bd0 E,fA v,fA z]
  ·obtain⟨q,rfl⟩:∃q,p=q+1:=⟨p-1,E⟩;by_cases d:q+1<at_
   ·rw[bd0 d,cF b,cF E,sV E,bd0 E]
   ·obtain⟨x,rfl⟩:∃x,q=x+1:=⟨q-1,E⟩;rw[bc9 d,cF b,show x+1+1-1=x+1 by omega,cF E,sV E,bc9 E]
 apply aM9;intro j;have G:((lvR l R).set bh (pvS l at_).toNat).length=R.length:=by rw[aQ0,cP]
 rw[dF _ E,aO5,aO5,cP,bd0 m];have C:(lvR (bj0 l at_) ((bj0 R k).map (dpN at_)))[j]? =((bj0 R k)[j]?).map λp=>(pvS (bj0 l at_) (dpN at_ p)).toNat:=by
  unfold lvR;rw[aQ6,aO3];rfl
 rw[C];rcases hj:(bj0 R k)[j]? with _ | p
 ·have w:=cA o;have :R.length<=j+1:=by have :=List.getElem?_eq_none_iff.1 hj;omega
  have e:(lvR l R)[j+1]? =none:=aO1 (by rw[cP];exact this);rw[bc9 E,bc9 E,e];rfl
 ·obtain⟨y,f,u,c⟩:=aD7 h.nodup n hj;have r:p≠at_:=λe=>u ((InvI.of_rows h).inj (e▸f) n);have b:=(InvI.of_rows h).lt (aR5 f);have H:(some p).map (λp=>(pvS (bj0 l at_) (dpN at_ p)).toNat)=if bh=y then some (pvS l at_).toNat else (lvR l R)[y]? :=by
   by_cases e:bh=y
   ·subst e;rw[i]at f;cases f;rw[bd0 rfl,aY6];unfold dpN;rw[bc9 E,aU5,t]
   ·have g:p≠at_+1:=λA=>e ((InvI.of_rows h).inj i (A▸f));rw[bc9 e,yQ f,aY6,a p r g b]
  rw[H];by_cases d:j<k
  ·rw[bd0 d]at c;rw[bd0 d,c]
  ·rw[bc9 d]at c;rw[bc9 d,c]
theorem set_lf(u:IsSyms l)(h:IsRows l R)(d:R[k]? =some at_)(c:R[bh]? =some (at_+1))(t:at_+1<l.length)(w:0<s)(g:sy l at_≠s):aN (bj0 l at_) s+((bj0 R k).take (bQ bh k)).countP (λp=>pvS l p==s)+(if k<bh/\(pvS l at_==s)=true then 1 else 0)=(bj0 R k).countP (dn l (R.take bh) s):=by
 have f:k≠bh:=by
  intro e;subst e;rw[d]at c;injection c with c;omega
 have j:=rC u (A:=R.take bh) (h.nodup.sublist (aU0 _ _)) (λq v=>aR8.1 (h.1.mem_iff.1 (aR7 v))) w;have m:(List.range l.length).countP (dn l (R.take bh) s)=(bj0 R k).countP (dn l (R.take bh) s)+if dn l (R.take bh) s at_=true then 1 else 0:=by
  rw[(h.1.symm.trans (eF d)).countP_eq,aL7]
 have i:dn l (R.take bh) s at_=true↔sy l at_<s:=by
  rw[iS];constructor
  ·rintro(h | ⟨h,_⟩)
   ·exact h
   ·exact absurd h g
  ·exact Ei
 have n:aN l s=aN (bj0 l at_) s+if sy l at_<s then 1 else 0:=by
  unfold aN;have e:l[at_]? =some (sy l at_):=by rw[gK E];exact aO0 _
  rw[(eF e).countP_eq,aL7];simp
 have o:=Ck (λp=>pvS l p==s) d f;have r:lfC l (R.take bh) s=aN l s+(R.take bh).countP (λp=>pvS l p==s):=by unfold lfC;rw[rT]
 have b:lfC l (R.take bh) s=(bj0 R k).countP (dn l (R.take bh) s)+if dn l (R.take bh) s at_=true then 1 else 0:=j.trans m
 rw[r,n,o]at b;by_cases a:sy l at_<s
 ·rw[bd0 a,bd0 (i.2 a)]at b;omega
 ·rw[bc9 a,bc9 (λe=>a (i.1 e))]at b;omega
theorem aF8(Y:IsSyms l)(h:IsRows l R)(B:R[k]? =some at_)(U:R[bh]? =some (at_+1))(T:at_+1<l.length)(hs:0<s)(a1:sy l at_≠s){row:Nat}(b:(pvS l at_≠s/\row=aN (bj0 l at_) s+((bj0 R k).take (bQ bh k)).countP (λp=>pvS l p==s))\/(pvS l at_=s/\∃G,R[G]? =some (at_-1)/\0<at_/\row=inR (aN (bj0 l at_) s+((bj0 R k).take (bQ bh k)).countP (λp=>pvS l p==s)) (bQ G k))):row<R.length/\InvI l (l.set at_ s) at_ (inL (bj0 R k) row at_):=by
 have P:=(aO2.1 B).1;have b1:=cA P;have n:=set_lf Y h B U T hs a1;have a0:(l.set at_ s).length=l.length:=aQ0;have z:(at_::bj0 R k).Nodup:=(eF B).nodup_iff.1 h.nodup;have g:∀p,p≠at_->cG l (l.set at_ s) at_ p=λd=>sy l (p+d):=by
  intro p hp;funext d;unfold cG;by_cases j:p<at_
  ·rw[bd0 j]
  ·rw[bc9 j,sW E,bc9 E]
 have N:cG l (l.set at_ s) at_ at_ 0=s:=by
  unfold cG;rw[bc9 E,sW E,bd0 E]
 have O:(λd=>cG l (l.set at_ s) at_ at_ (d+1))=λd=>sy l (at_+1+d):=by
  funext d;unfold cG;rw[bc9 E,sW E,bc9 E];congr 1;omega
 have C:∀row,(inL (bj0 R k) row at_).Perm (List.range (l.set at_ s).length):=λrow=>by
  rw[a0];exact(fW _ _ _).trans ((eF B).symm.trans h.1)
 have a4:(bj0 R k).Pairwise λp q=>seqLt (cG l (l.set at_ s) at_ p) (cG l (l.set at_ s) at_ q)\/(p=at_/\q+1=at_)\/(q=at_/\p+1=at_):=by
  refine(h.2.sublist (fJ R k)).imp_of_mem (λ{p q} hp hq a3=>Ei ?_);have t:p≠at_:=λe=>(aS2.1 z).1 (e▸hp);have a5:q≠at_:=λe=>(aS2.1 z).1 (e▸hq);rw[g p t,g q a5,<-jM];exact a3
 have M:=Dg Y h bh hs;have H:row<R.length->(∀r (u:r<(bj0 R k).length),(bj0 R k)[r]+1≠at_->(r<row↔dn l (R.take bh) s (bj0 R k)[r]=true))->InvI l (l.set at_ s) at_ (inL (bj0 R k) row at_):=by
  intro i v;refine⟨C row,Al a4 (λr u Q=>?_) (λr u Q=>?_)⟩
  ·have o:=aP0 u;have D:=v r u;generalize (bj0 R k)[r]=p at *;have t:p≠at_:=λe=>(aS2.1 z).1 (e▸o);by_cases F:p+1=at_
   ·exact Ej (Ej ⟨rfl,F⟩)
   left;rw[g p t];exact Hr h U N O ((D F).1 Q)
  ·have o:=aP0 u;have D:=v r u;generalize (bj0 R k)[r]=p at *;have t:p≠at_:=λe=>(aS2.1 z).1 (e▸o);by_cases F:p+1=at_
   ·exact Ej (Ei ⟨rfl,F⟩)
   left;rw[g p t];exact Mb Y h U hs N O (λhd=>by have :=(D F).2 hd;omega) E
 rcases b with ⟨c,b⟩ | ⟨c,G,y,h0,b⟩
 ·have a2:¬(k<bh/\(pvS l at_==s)=true):=λe=>c (by simpa using e.2);rw[bc9 a2,aU7,<-b]at n;have w:=kP (M.sublist (fJ R k));rw[<-n]at w;have Z:row<=(bj0 R k).length:=by rw[n];exact aL9
  have i:row<R.length:=E;exact⟨i,H i (λr u _=>(w r u).symm)⟩
 ·generalize b0:aN (bj0 l at_) s+((bj0 R k).take (bQ bh k)).countP (λp=>pvS l p==s)=LF at *;have X:G≠k:=by
   intro e;subst e;rw[B]at y;injection y with y;omega
  have m:=sQ y P X;have K:=(aO2.1 m).1;generalize ha:bQ G k=a at *;have S:sy l (at_-1)=s:=by
   obtain⟨q,rfl⟩:∃q,at_=q+1:=⟨at_-1,E⟩;rw[cF E]at c;exact c
  have L:dn l (R.take bh) s (at_-1)=true↔k<bh:=by
   rw[iS,cU,show at_-1+1=at_ by omega];constructor
   ·rintro(I | ⟨_,x,F,a8⟩)
    ·omega
    ·have :=(InvI.of_rows h).inj a8 B;omega
   ·intro I;exact Ej ⟨S,k,I,B⟩
  have f:(bj0 R k).countP (dn l (R.take bh) s)=(bj0 (bj0 R k) a).countP (dn l (R.take bh) s)+if k<bh then 1 else 0:=by
   rw[(eF m).countP_eq,aL7];congr 1;by_cases j:k<bh
   ·rw[bd0 j,bd0 (L.2 j)]
   ·rw[bc9 j,bc9 (λe=>j (L.1 e))]
  have A:LF=(bj0 (bj0 R k) a).countP (dn l (R.take bh) s):=by
   have V:(pvS l at_==s)=true:=by simpa using c
   by_cases j:k<bh
   ·rw[bd0 j]at f;rw[bd0 ⟨j,V⟩]at n;omega
   ·rw[bc9 j]at f;rw[bc9 (λe=>j e.1)]at n;omega
  have a9:=cA K;have w:=kP (M.sublist ((fJ _ a).trans (fJ R k)));rw[<-A]at w;have Z:LF<=(bj0 (bj0 R k) a).length:=by rw[A];exact aL9
  have i:row<R.length:=by rw[b];unfold inR;split<;>omega
  refine⟨i,H i (λr u F=>?_)⟩;have a7:r≠a:=by
   intro e;subst e;rw[aO0 u]at m;injection m with m
   omega
  have hg:=sQ (aO0 u) K a7;obtain⟨a6,W⟩:=aO2.1 hg;have :=w _ a6;rw[W]at this;rw[this,b];unfold inR bQ;by_cases I:a<=LF
  ·rw[bd0 I];by_cases J:a<r
   ·rw[bd0 J];omega
   ·rw[bc9 J];omega
  ·rw[bc9 I];by_cases J:a<r
   ·rw[bd0 J];omega
   ·rw[bc9 J]
theorem set_lv(t:IsSyms l)(h:IsRows l R)(o:R[k]? =some at_)(d:R[bh]? =some (at_+1))(u:IsSyms (l.set at_ s))(n:at_+1<l.length)(c:Nat):lvR (l.set at_ s) (inL (bj0 R k) c at_)=inL (bj0 ((lvR l R).set bh s.toNat) k) c (pvS l at_).toNat:=by
 have r:=(aO2.1 o).1;have f:=(aO2.1 d).1;have v:(l.set at_ s).length=l.length:=aQ0;have b:∀p,p≠at_+1->p<l.length->pvS (l.set at_ s) p=pvS l p:=by
  intro p x i;rcases aV0 p with rfl | w
  ·rw[fA t,fA u]
  ·obtain⟨q,rfl⟩:∃q,p=q+1:=⟨p-1,E⟩;rw[cF i,cF E,sW E,bc9 E]
 have a:pvS (l.set at_ s) (at_+1)=s:=by rw[cF E,sW E,bd0 rfl]
 unfold lvR;rw[sN,b at_ E E,tS];congr 2;apply aM9;intro j;rw[aO5,aO3,aP7,aO3];rcases hj:R[j]? with _ | p
 ·have :=List.getElem?_eq_none_iff.1 hj;rw[bc9 E];rfl
 ·by_cases e:bh=j
  ·subst e;rw[d]at hj;cases hj;rw[bd0 rfl,bd0 f,aY6,a]
  ·have g:p≠at_+1:=λm=>e ((InvI.of_rows h).inj d (m▸hj));rw[bc9 e,aY6,aY6,b p g ((InvI.of_rows h).lt (aR5 hj))]
end
section
open Go.Shelf
def Tryz.lays189_ren:Go.Shelf.Ren:=⟨λ| 189=>63 | 125=>131 | 257=>130 | 128=>190 | 129=>191 | 294=>181 | 295=>182 | 296=>183 | 297=>184 | 298=>185 | 299=>186 | 216=>187 | 300=>188 | 301=>189 | 328=>220 | 329=>221 | 330=>222 | 331=>223 | 332=>224 | 215=>204 | 343=>240 | n=>n,λ| 28=>36 | 3=>3 | 46=>23 | 0=>0 | 51=>74 | 53=>69 | 4=>4 | 183=>207 | 182=>206 | 131=>149 | 5=>5 | 9=>9 | 218=>231 | 222=>235 | 228=>249 | 229=>104 | n=>n,λ| n=>n⟩
theorem Tryz.lays189:Go.Proofs.Lays.n189 prog Tryz.lays189_ren:={
 mixed:=Ek
 f125:=func131.trans (bb9 some Ek)
 f128:=func190.trans (bb9 some Ek)
 f129:=func191.trans (bb9 some Ek)
 f189:=func63.trans (bb9 some Ek)
 f215:=func204.trans (bb9 some Ek)
 f216:=func187.trans (bb9 some Ek)
 f257:=func130.trans (bb9 some Ek)
 f294:=func181.trans (bb9 some Ek)
 f295:=func182.trans (bb9 some Ek)
 f296:=func183.trans (bb9 some Ek)
 f297:=func184.trans (bb9 some Ek)
 f298:=func185.trans (bb9 some Ek)
 f299:=func186.trans (bb9 some Ek)
 f300:=func188.trans (bb9 some Ek)
 f301:=func189.trans (bb9 some Ek)
 f328:=func220.trans (bb9 some Ek)
 f329:=func221.trans (bb9 some Ek)
 f330:=func222.trans (bb9 some Ek)
 f331:=func223.trans (bb9 some Ek)
 f332:=func224.trans (bb9 some Ek)
 f343:=func240.trans (bb9 some Ek)
 t0:=aZ6
 a0:=bi8
 z0:=bi9
 v0:=ba4
 t3:=aZ8
 a3:=aZ0
 z3:=aZ3
 v3:=ba5
 t4:=ba1
 a4:=aZ2
 z4:=aZ5
 v4:=ba7
 t5:=ba2
 a5:=Tryz.isAgg5
 z5:=Tryz.sizeOf5
 v5:=Tryz.zeroValue5
 t9:=ba3
 a9:=Tryz.isAgg9
 z9:=Tryz.sizeOf9
 v9:=Tryz.zeroValue9
 t28:=ba0
 a28:=aZ1
 z28:=aZ4
 v28:=ba6
 t46:=Tryz.underlying23
 a46:=Tryz.isAgg23
 z46:=Tryz.sizeOf23
 v46:=Tryz.zeroValue23
 t51:=Tryz.underlying74
 a51:=Tryz.isAgg74
 z51:=Tryz.sizeOf74
 v51:=Tryz.zeroValue74
 t53:=Tryz.underlying69
 a53:=Tryz.isAgg69
 z53:=Tryz.sizeOf69
 v53:=Tryz.zeroValue69
 t131:=Tryz.underlying149
 a131:=Tryz.isAgg149
 z131:=Tryz.sizeOf149
 v131:=Tryz.zeroValue149
 t182:=Tryz.underlying206
 a182:=Tryz.isAgg206
 z182:=Tryz.sizeOf206
 v182:=Tryz.zeroValue206
 t183:=Tryz.underlying207
 a183:=Tryz.isAgg207
 z183:=Tryz.sizeOf207
 v183:=Tryz.zeroValue207
 t218:=Tryz.underlying231
 a218:=Tryz.isAgg231
 z218:=Tryz.sizeOf231
 v218:=Tryz.zeroValue231
 t222:=Tryz.underlying235
 a222:=Tryz.isAgg235
 z222:=Tryz.sizeOf235
 v222:=Tryz.zeroValue235
 t228:=Tryz.underlying249
 a228:=Tryz.isAgg249
 z228:=Tryz.sizeOf249
 v228:=Tryz.zeroValue249
 t229:=Tryz.underlying104
 a229:=Tryz.isAgg104
 z229:=Tryz.sizeOf104
 v229:=Tryz.zeroValue104}
open Go.Sort Go.RowKit in
theorem Tryz.slices_Sort_int (a b c:Nat)(f:List Int)(w:World)(h:Holds (Value.int .i64) w a b f.toArray)(d:a<w)(g:f.length<4611686018427387904):Calls prog 63 #[.slice (a,b) f.length c] w λe j=> e= .returned (.tuple #[])/\∃n i,j=grow (putRow (Value.int .i64) (Sort.ahead w n) a b (f.mergeSort λx y=>decide (x<=y)).toArray) i:=Any.slices_Sort_int Tryz.lays189 a b c f w h d g
open Go.RowKit Go.Sort in
theorem Tryz.slices_Sort_int_none (p:Option Addr)(a:Nat)(w:World):Calls prog 63 #[.slice p 0 a] w λe b=>e= .returned (.tuple #[])/\b=w:=Any.slices_Sort_int_none Tryz.lays189 p a w
end
section
open Go.RowKit
theorem flat4:∀(a:List (Option ST)) (i:Nat) (o:Option ST) (j:Nat),a[i]? =some o->j<4->(a.flatMap jA)[i*4+j]? =(jA o)[j]?
 | [],i,o,j,h,_=>by simp at h
 | y::a,0,o,j,h,hj=>by
  simp only[List.getElem?_cons_zero,aY7]at h;subst h;rw[aN3,aN6 (by rw[vB];omega),aY2,aY0]
 | y::a,i+1,o,j,h,hj=>by
  rw[aN8]at h;rw[aN3,aN7 (by rw[vB];omega),vB,show (i+1)*4+j-4=i*4+j by omega];exact flat4 a i o j h hj
theorem Wd(o:Option ST):∃a b:Nat,jA o=[.int .i64 ((aF o).length:Nat), .int .i64 (aP o:Nat), .int .i64 a, .int .i64 b]:=by
 cases o with
 | none=>exact⟨0,0,rfl⟩
 | some t=>exact⟨_,_,rfl⟩
theorem shRead{w:World}{d n c:Nat}{a:Option Addr}{m:List (Option ST)}(h:ShRow w d (.slice a n c) m){i:Nat}{o:Option ST}(r:m[i]? =some o):∃g f k:Nat,a=some ⟨g,0,none⟩/\g<w/\jA o=[.int .i64 ((aF o).length:Nat), .int .i64 (aP o:Nat), .int .i64 f, .int .i64 k]/\w.cell? (g,i*4)=some (.int .i64 ((aF o).length:Nat))/\w.cell? (g,i*4+1)=some (.int .i64 (aP o:Nat))/\w.cell? (g,i*4+2)=f/\w.cell? (g,i*4+3)=k:=by
 have z:=(aO2.1 r).1;obtain⟨f,k,e⟩:=Wd o;obtain⟨I,x⟩:=h;rcases x with ⟨_,D⟩ | ⟨g,s,l,C,H,q,v,J,K,A⟩
 ·omega
 ·injection C with t F G
  have b:∀j u,j<4->(jA o)[j]? =some u->w.cell? (g,i*4+j)=some u:=by
   intro j u y B;have p:=flat4 m i o j r y;rw[B,<-A,aO6,bd0 E]at p;rw[bb8 w g (i*4+j) l _ (0,0) q];simpa using p
  refine⟨g,f,k,t,(aJ2.1 q).1,e,b 0 _ E (by rw[e];rfl),b 1 _ E (by rw[e];rfl),b 2 _ E (by rw[e];rfl),b 3 _ E (by rw[e];rfl)⟩
def mT(L:List Nat)(l p:Nat):List (List Bool):=dC L l++((List.range p).map (lvl L l)).filter (λb=>decide (0<b.length))
theorem Dd(L:List Nat)(l p:Nat):mT L l (p+1)=mT L l p++if 0<(lvl L l p).length then [lvl L l p]else []:=by
 unfold mT;rw[aS9,aQ2,aN0,aL1];congr 2;by_cases h:0<(lvl L l p).length<;>simp[aN1,h]
theorem Dc(L:List Nat)(l:Nat):mT L l (pw l)=dC L (l+1):=by
 unfold mT dC;rw[aS9,aN2];simp
theorem ap3(L:List Nat){l m:Nat}(h:l<=m):dC L l<+:dC L m:=by
 induction m with
 | zero=>
      obtain rfl:l=0:=E;exact aS8 _
 | succ m a=>
  by_cases e:l=m+1
  ·subst e;exact aS8 _
  ·refine(a E).trans ?_;rw[<-Dc];exact List.prefix_append _ _
theorem aa6(L:List Nat)(l:Nat){p q:Nat}(h:p<=q):mT L l p<+:mT L l q:=by
 induction q with
 | zero=>
      obtain rfl:p=0:=E;exact aS8 _
 | succ q a=>
  by_cases e:p=q+1
  ·subst e;exact aS8 _
  ·refine(a E).trans ?_;rw[Dd];exact List.prefix_append _ _
theorem ap5(L:List Nat){l p:Nat}(e:l<9)(c:p<pw l)(b:0<(lvl L l p).length):(dC L 9)[(mT L l p).length]? =some (lvl L l p):=by
 have a:mT L l (p+1)<+:dC L 9:=((aa6 L l (show p+1<=pw l from c)).trans (by rw[Dc];exact aS8 _)).trans (ap3 L (show l+1<=9 by omega));obtain⟨r,d⟩:=a;rw[<-d,Dd,bd0 b,aL1,aN7 (aV3 _),aW9];rfl
end
end Go.Proofs.YtchinbgemenenaaGreatDoor
