/- Lemmas and contracts under the claims of this seat. No condition. -/
import Derived.Lib.SlBytesConst
import Derived.Shelf.SlCmpFuncs.BinarySearchFunc
import Derived.Shelf.SlCmpFuncs.None
import Derived.Shelf.Spec.SlicesInsertGrow
import Derived.Test.YtchinbgemenenaaGreatDoorZs7
import Derived.Test.YtchinbgemenenaaGreatDoorZs8
namespace Go.Proofs.YtchinbgemenenaaGreatDoor
open Go.Proofs.Tryz
set_option linter.unusedVariables false
set_option linter.unusedSimpArgs false
set_option maxRecDepth 100000
set_option maxHeartbeats 12800000
def bH(L:List Nat):List Int:=L.map Int.ofNat
theorem mD(L:List Nat):(bH L).length=L.length:=by simp[bH]
theorem Sf{L:List Nat}{k s:Nat}(h:L[k]? =some s):sy (bH L) k=(s:Int):=by
 unfold sy bH;rw[aO3,h];rfl
theorem al9{L M:List Nat}(h:bH L=bH M):L=M:=by
 have :=bb9 (List.map Int.toNat) h;unfold bH at this;rw[aQ6,aQ6]at this;have e:(Int.toNat∘Int.ofNat)=id:=by funext x;rfl
 rwa[e,List.map_id,List.map_id]at this
theorem aB9{m:List Int}(h:∀x∈m,0<=x):m=bH (m.map Int.toNat):=by
 unfold bH;rw[aQ6];conv=>lhs;rw[<-List.map_id m]
 apply aQ3;intro x a;have :=h x a;show x=((x.toNat:Nat):Int);omega
theorem Kj(L:List Nat)(k s:Nat):cnt ((bH L).take k) (s:Int)=bB L k s:=by
 unfold cnt bB bH;rw[<-aQ8,aM0,List.count];congr 1;funext x;by_cases e:x=s
 ·subst e;simp
 ·have a:¬(x:Int)=(s:Int):=E;show ((x:Int)==(s:Int))=(x==s);rw[bb6.2 a,bb6.2 e]
theorem aA5(L:List Nat)(s:Nat):cnt (bH L) (s:Int)=L.count s:=by
 have :=Kj L L.length s;rw[aT9 (by rw[mD];exact aV3 _)]at this;rw[this,oZ s (aV3 _)]
structure RW (t:List Int) (r:List Nat) (L:List Nat):Prop where
 byte:aS t
 rows:IsRows (aA t) r
 last:aO (aA t) r=bH L
def ro(r:List Nat)(i:Nat):Nat:=r[i]?.getD 0
section
variable {t:List Int}{r L:List Nat}
theorem RW.isLast (h:RW t r L):IsLast t (bH L):=⟨h.byte,r,h.rows,h.last⟩
theorem RW.of {m:List Int}(h:IsLast t m):∃r,RW t r (m.map Int.toNat)/\m=bH (m.map Int.toNat):=by
 have e:=aB9 (λx d=>(h.range x d).1);obtain⟨a,r,c,b⟩:=h;exact⟨r,⟨a,c,by rw[b];exact e⟩,e⟩
theorem RW.rlen (h:RW t r L):r.length=t.length+1:=by rw[h.rows.len,aE]
theorem RW.len (h:RW t r L):L.length=t.length+1:=by rw[<-mD,h.isLast.len]
theorem RW.syms (h:RW t r L):∀s∈L,s<257:=by
 intro s a;have :=h.isLast.range (s:Int) (aR4.2 ⟨s,a,rfl⟩);omega
theorem RW.get (h:RW t r L){i:Nat}(a:i<=t.length):∃s,L[i]? =some s/\s<257:=by
 have b:=h.len;exact⟨_,aO0 E,h.syms _ (aP0 _)⟩
theorem RW.roE (h:RW t r L){i:Nat}(b:i<=t.length):∃a:i<r.length,r[i]=ro r i:=by
 have :=h.rlen;exact⟨E,by unfold ro;rw[cL]⟩
theorem RW.roLt (h:RW t r L){i:Nat}(c:i<=t.length):ro r i<=t.length:=by
 obtain⟨a,b⟩:=h.roE c;have :=h.rows.lt a;rw[aE,b]at this;omega
theorem RW.inj (h:RW t r L){i j:Nat}(k:i<=t.length)(l:j<=t.length)(e:ro r i=ro r j):i=j:=by
 obtain⟨c,f⟩:=h.roE k;obtain⟨d,g⟩:=h.roE l;rw[<-f,<-g]at e;have b:=aS7.1 h.rows.nodup;rcases aV9 i j with a | a | a
 ·exact absurd e (b i j c d a)
 ·exact a
 ·exact absurd e.symm (b j i d c a)
theorem RW.ex (h:RW t r L){q:Nat}(c:q<=t.length):∃i,i<=t.length/\ro r i=q:=by
 obtain⟨i,b,e⟩:=h.rows.find (a:=q) (by rw[aE];omega);have :=h.rlen;exact⟨i,E,by unfold ro;rw[cL b,e]⟩
theorem RW.sym (h:RW t r L){i s:Nat}(a:L[i]? =some s):(s:Int)=sy (aA t) ((ro r i+t.length)%(t.length+1)):=by
 have d:i<=t.length:=by have :=(aO2.1 a).1;have :=h.len;omega
 obtain⟨b,c⟩:=h.roE d;have :=qB (l:=aA t) b;rw[h.last,Sf a,c,aE]at this;rw[this];rfl
theorem RW.back (h:RW t r L){i s:Nat}(d:L[i]? =some s):aN (bH L) (s:Int)+bB L i s<=t.length/\ro r (aN (bH L) (s:Int)+bB L i s)=(ro r i+t.length)%(t.length+1):=by
 have g:i<=t.length:=by have :=(aO2.1 d).1;have :=h.len;omega
 obtain⟨a,f⟩:=h.roE g;obtain⟨b,c⟩:=Fl (dE h.byte) h.rows a;have e:lfL (aO (aA t) r) i=aN (bH L) (s:Int)+bB L i s:=by
  unfold lfL;rw[h.last,Sf d,Kj]
 simp only[e]at b c;have j:=h.rlen;refine⟨E,?_⟩;unfold ro at f⊢;rw[cL b,c,cL a,aE];rfl
theorem Gj{n p:Nat}(a:p<=n):((p+1)%(n+1)+n)%(n+1)=p:=by
 rcases aV8 p n with h | h
 ·rw[aW1 (E:p+1<n+1),show p+1+n=p+(n+1) by omega,aU4,aW1 E]
 ·obtain rfl:p=n:=E;rw[Nat.mod_self,aY0,aW1 E]
def bj1(t:List Int)(r:List Nat)(i:Nat):Nat:=(sy (aA t) (ro r i)).toNat
theorem RW.frowI (h:RW t r L){i:Nat}(b:i<=t.length):(bj1 t r i:Int)=sy (aA t) (ro r i)/\bj1 t r i<257:=by
 have c:=h.roLt b;have a:sy (aA t) (ro r i)∈aA t:=by
  rw[gK (by rw[aE];omega)];exact aP0 _
 have :=mV h.byte _ a;unfold bj1;omega
theorem RW.belowE (h:RW t r L)(s:Int):aN (bH L) s=(List.range (t.length+1)).countP (λq=>decide (sy (aA t) q<s)):=by
 unfold aN;rw[h.isLast.perm.countP_eq];have e:=bb9 (List.countP λx=>decide (x<s)) (lQ (aA t));rw[aM0,aE]at e;exact e.symm
theorem Ai:∀{n x:Nat},x<n->(List.range n).countP (λq=>decide (q=x))=1
 | 0,x,h=>E
 | n+1,x,h=>by
  rw[aS9,aL5];by_cases e:x=n
  ·subst e;rw[aL8.2 (λq a=>by have :=aR8.1 a;simp;omega)];simp
  ·rw[Ai (show x<n by omega)];have :¬n=x:=λh=>e h.symm;simp[this]
theorem RW.first (h:RW t r L){i:Nat}(d:i<=t.length):aN (bH L) (bj1 t r i:Int)<=i/\i<aN (bH L) ((bj1 t r i:Int)+1):=by
 obtain⟨j,k⟩:=h.roE d;obtain⟨m,_⟩:=h.frowI d;have e:=xK h.rows j;rw[aE,k]at e;have p:=h.roLt d;rw[h.belowE,h.belowE,m];constructor
 ·conv=>rhs;rw[<-e]
  refine List.countP_mono_left (λq _ c=>?_);rw[fR,jC];exact Ei (by simpa using c)
 ·have n:=jG (l:=List.range (t.length+1)) (f:=λq=>gS (aA t) q (ro r i)||decide (q=ro r i)) (g:=λq=>gS (aA t) q (ro r i)) (h:=λq=>decide (q=ro r i)) (λ_ _=>rfl) (λq _ o=>by
   obtain⟨a,b⟩:=o
   simp only[bc3]at b
   subst b
   exact sufLt.irrefl (fR.1 a))
  rw[e,Ai E]at n;have s:(List.range (t.length+1)).countP (λq=>gS (aA t) q (ro r i)||decide (q=ro r i))<=(List.range (t.length+1)).countP (λq=>decide (sy (aA t) q<sy (aA t) (ro r i)+1)):=by
   refine List.countP_mono_left (λq _ c=>?_);simp only[Bool.or_eq_true,bc3]at c⊢;rcases c with c | c
   ·rw[fR,jC]at c;rcases c with c | c<;>omega
   ·subst c;omega
  omega
theorem RW.on (h:RW t r L){i:Nat}(e:i<=t.length):∃j,j<=t.length/\ro r j=(ro r i+1)%(t.length+1)/\L[j]? =some (bj1 t r i)/\aN (bH L) (bj1 t r i:Int)+bB L j (bj1 t r i)=i:=by
 have b:=h.roLt e;obtain⟨j,k,c⟩:=h.ex (q:=(ro r i+1)%(t.length+1)) (by have :=aW2 (ro r i+1) (show 0<t.length+1 by omega);omega);obtain⟨s,f,_⟩:=h.get k;have g:=h.sym f;rw[c,Gj b]at g;have l:=(h.frowI e).1;obtain rfl:s=bj1 t r i:=E;obtain⟨d,a⟩:=h.back f;rw[c,Gj b]at a;exact⟨j,k,c,f,h.inj d e a⟩
theorem RW.onSel (h:RW t r L){i:Nat}(d:i<=t.length):∃j,j<=t.length/\ro r j=(ro r i+1)%(t.length+1)/\L[j]? =some (bj1 t r i)/\kG L ((i:Int)-(aN (bH L) (bj1 t r i:Int):Nat)) (bj1 t r i)=j:=by
 obtain⟨j,b,c,a,e⟩:=h.on d;exact⟨j,b,c,a,Ni a E⟩
theorem rS(m:List Int){a b:Int}(h:a<=b):aN m a<=aN m b:=by
 unfold aN;refine List.countP_mono_left (λq _ c=>?_);simp only[bc3]at c⊢;omega
theorem zE(L:List Nat)(s:Nat):aN (bH L) ((s:Int)+1)=aN (bH L) (s:Int)+L.count s:=by
 have :=zF (m:=bH L) (s:=s);rw[aA5]at this;exact_mod_cast this
theorem Xx(L:List Nat)(s:Int):aN (bH L) s<=L.length:=by
 unfold aN;exact aV4 aL9 (by rw[mD];exact aV3 _)
theorem RW.which (h:RW t r L){i:Nat}(c:i<=t.length):IsWhich (Tl.of (bH L)) i (bj1 t r i:Nat):=by
 have b:∀s:Nat,bl (Tl.of (bH L)).N s=(aN (bH L) (s:Int):Int):=kM (λx f=>by obtain⟨y,_,rfl⟩:=aR4.1 f;exact Int.natCast_nonneg y);have a:(Tl.of (bH L)).all=((t.length+1:Nat):Int):=by
  show ((bH L).length:Int)=_;rw[mD,h.len]
 obtain⟨g,j⟩:=h.first c
 refine⟨λd=>by rw[a]at d;omega,λ_=>⟨bj1 t r i,(h.frowI c).2,rfl,?_,?_⟩⟩
 ·rw[b];omega
 ·rw[b];have e:(((bj1 t r i+1:Nat)):Int)=(bj1 t r i:Int)+1:=E;rw[e];omega
def nar(L:List Nat)(k s:Nat):Nat:=aN (bH L) (s:Int)+bB L k s
theorem nar_le(L:List Nat)(k s:Nat):nar L k s<=L.length:=by
 unfold nar;have a:=zE L s;have b:=Xx L ((s:Int)+1);have c:=(mI L k s).2;omega
theorem ao7(L:List Nat){j k:Nat}(h:j<=k)(s:Nat):nar L j s<=nar L k s:=by
 unfold nar;have :=iD L s h;omega
def lO(t:List Int)(u:List Int)(q:Nat):Prop:=∀d,d<u.length->sy (aA t) (q+d)=sy u d+1
theorem ab7(t:List Int)(q:Nat):lO t [] q:=λd a=>absurd a Es
theorem Vd{t u:List Int}{x:Int}{q:Nat}:lO t (x::u) q↔sy (aA t) q=x+1/\lO t u (q+1):=by
 constructor
 ·intro h;refine⟨by have :=h 0 (Es);simpa[sy]using this,λd a=>?_⟩;have :=h (d+1) (by simpa using a);rw[show q+(d+1)=q+1+d by omega]at this;rw[this];simp[sy]
 ·rintro⟨b,c⟩ d a;cases d with
  | zero=>simpa[sy]using b
  | succ d=>
   have :=c d (by simpa using a);rw[show q+(d+1)=q+1+d by omega,this];simp[sy]
def Nar(t:List Int)(r:List Nat)(u:List Int)(lo hi:Nat):Prop:=lo<=hi/\hi<=t.length+1/\∀i,i<=t.length->(lO t u (ro r i)↔lo<=i/\i<hi)
theorem Nar.nil (h:RW t r L):Nar t r [] 0 (t.length+1):=⟨E,aV3 _,λi a=>⟨λ_=>E,λ_=>ab7 _ _⟩⟩
theorem Nar.cons (h:RW t r L){u:List Int}{p f b:Nat}(F:Nar t r u p f)(M:b<256):Nar t r ((b:Int)::u) (nar L p (b+1)) (nar L f (b+1)):=by
 obtain⟨y,K,z⟩:=F;have x:=h.len;refine⟨ao7 L y _,by have :=nar_le L f (b+1);omega,λi d=>?_⟩;have l:=h.frowI d;have B:=h.first d
 rw[Vd,<-l.1];have A:=zE L (b+1);have I:=(mI L f (b+1)).2;by_cases e:bj1 t r i=b+1
 ·obtain⟨j,C,m,k,s⟩:=h.on d;rw[e]at k s;have D:=h.roLt d;have G:ro r i≠t.length:=by
   intro J;have :=l.1;rw[J,rM]at this;omega
  rw[aW1 E]at m;have q:=z j C;rw[m]at q;have v:j<L.length:=E;have w:=pA (b+1) v;rw[bd0 k]at w;unfold nar;constructor
  ·rintro⟨_,H⟩;obtain⟨n,o⟩:=q.1 H;have N:=iD L (b+1) n;have O:=iD L (b+1) (show j+1<=f from o);omega
  ·rintro⟨n,o⟩;refine⟨E,q.2 ⟨?_,?_⟩⟩
   ·rcases aV8 j p with c | c
    ·have :=iD L (b+1) (show j+1<=p from c);omega
    ·exact c
   ·rcases aV8 j f with c | c
    ·exact c
    ·have :=iD L (b+1) c;omega
 ·constructor
  ·rintro⟨g,_⟩;omega
  ·rintro⟨n,o⟩;exfalso;unfold nar at n o;rcases aV8 (bj1 t r i) (b+1)with c | c
   ·have :=rS (bH L) (a:=(bj1 t r i:Int)+1) (b:=((b+1:Nat):Int)) E;omega
   ·have :=rS (bH L) (a:=((b+1:Nat):Int)+1) (b:=(bj1 t r i:Int)) E;omega
theorem Nar.count (h:RW t r L){u:List Int}{b a:Nat}(v:Nar t r u b a){f:Nat->Bool}(p:∀q,q<=t.length->(f q=true↔lO t u q)):(List.range (t.length+1)).countP f=a-b:=by
 obtain⟨x,y,m⟩:=v;have j:=h.rows.1;rw[aE]at j;rw[<-j.countP_eq];have d:=h.rlen;have k:r=(List.range (t.length+1)).map (ro r):=by
  apply aM8
  ·simp[d]
  ·intro i o z;simp only[aO9,List.getElem_range];unfold ro;rw[cL o]
 rw[k,aM0];have l:(List.range (t.length+1)).countP (f∘ro r)=(List.range (t.length+1)).countP (λi=>decide (b<=i)&&decide (i<a)):=by
  refine aL6 (λi c=>?_);have s:=aR8.1 c;simp only[Function.comp,aJ7,bc3];rw[p _ (h.roLt E),m i E]
 rw[l];have e:∀n,(List.range n).countP (λi=>decide (b<=i)&&decide (i<a))=min a n-b:=by
  intro n;induction n with
  | zero=>simp
  | succ n w=>
   rw[aS9,aL5,w];by_cases g:b<=n/\n<a
   ·simp[g.1,g.2];omega
   ·have :(decide (b<=n)&&decide (n<a))=false:=by
     rw[Bool.and_eq_false_iff,bc1,bc1];omega
    simp[this];omega
 rw[e];omega
end
section
open Go.RowKit
def wsV(s:Nat):Value:= .int .i64 s
theorem Bo{w:World}{a:Option Addr}{L:List Nat}(j:ReadsV w a (L.map wsV)){k s:Nat}(h:L[k]? =some s):∃b c,a=some ⟨b,c,none⟩/\b<w.heap.size/\∀f,Below w w f->f.cell? (b,c+k)=s:=by
 have e:=(aO2.1 h).1;obtain⟨b,c,rfl,g,i⟩:=j k (by rw[aP7];exact e);exact⟨b,c,rfl,g,λf d=>(d.cell (p:=(b,c+k)) g).trans (i k _ (by rw[aO3,h];rfl))⟩
def jY(l k:Nat):Nat->Nat:=λl'=>if l'<l then pw l' else if l'=l then k else 0
theorem fV(l k:Nat):jY l k l=k:=by simp[jY]
theorem Yk:jY 0 0=λ_=>0:=by funext l';simp[jY]
theorem Ag(l k:Nat):pZ (jY l k) l=jY l (k+1):=by
 funext l';unfold pZ jY;by_cases h:l'=l
 ·subst h;simp
 ·simp[h]
theorem Yj(l:Nat):jY l (pw l)=jY (l+1) 0:=by
 funext l';unfold jY;by_cases a:l'<l
 ·simp[a,(E:l'<l+1)]
 ·by_cases b:l'=l
  ·subst b;simp
  ·have c:¬l'<l+1:=E;simp[a,b,c]
theorem Yi:∀l,l<9->jY 9 0 l=pw l:=λl h=>by simp[jY,h]
def BitsOK(O:Nat->Nat->Option ST)(L:List Nat)(l k:Nat):Prop:=∀l' k',(l'<l/\k'<pw l')\/(l'=l/\k'<k)->aF (O l' k')=lvl L l' k'
theorem BitsOK.zero (O:Nat->Nat->Option ST)(L:List Nat):BitsOK O L 0 0:=λb a h=>E
theorem BitsOK.next {O:Nat->Nat->Option ST}{L:List Nat}{l:Nat}(h:BitsOK O L l (pw l)):BitsOK O L (l+1) 0:=λb d c=>h b d (by
 rcases c with ⟨f,a⟩ | ⟨_,a⟩
 ·by_cases e:b=l
  ·subst e;exact Ej ⟨rfl,a⟩
  ·exact Ei ⟨E,a⟩
 ·omega)
theorem BitsOK.push {O:Nat->Nat->Option ST}{L:List Nat}{l k:Nat}(h:BitsOK O L l k){o:Option ST}(c:aF o=lvl L l k):BitsOK (eP O l k o) L l (k+1):=λb a d=>by
 by_cases e:b=l/\a=k
 ·obtain⟨rfl,rfl⟩:=e;rw[cO];exact c
 ·rw[eE _ _ E];exact h b a E
theorem BitsOK.done {O:Nat->Nat->Option ST}{L:List Nat}(h:BitsOK O L 9 0):lC O L:=λl k b a=>h l k (Ei ⟨b,a⟩)
theorem aa9{w:World}{b:Nat}{e:TypeId}{d n c:Nat}{a:Option Addr}{m:List Value}(h:w.ownsRow b e d (.slice a n c) n m):n<=c:=by
 rcases h.2 with ⟨h,_⟩ | ⟨g,f,i,l,_,_,o,_⟩
 ·injection h with _ j k;omega
 ·injection l with _ j k;omega
theorem ai9{w:World}{a:Option Addr}{c:Nat}(L:List Nat)(hr:ReadsV w a (L.map wsV))(hL:Syms L)(hn:L.length<=1000000):Calls prog 146 #[.slice a L.length c] w λe w'=>∃p D O,e= .returned (.tuple #[.pointer (some ⟨p,0,none⟩), .int .i64 0])/\WaveE w (λ_=>False) w' p D O L.length 0 bF/\lC O L/\Below w w w':=by
 have HR:=θ hr;have d5:=θ hL;have d8:=aB w (.cells (jT (λ_=> .slice none 0 0) L.length) 178);have d7:=WavePt.start (base:=w.heap.size) w L.length (aV3 _) (λ_ _=>0) (λ_ _=>none) (λ_ _ _=>False);have a9:Hid (WavePt (w.alloc (.cells (jT (λ_=> .slice none 0 0) L.length) 178)) w w.heap.size (λ_=> .slice none 0 0) (λ_=>0) (λ_ _=>0) (λ_ _=>none) (λ_ _ _=>False) L.length/\Below w w (w.alloc (.cells (jT (λ_=> .slice none 0 0) L.length) 178))):=⟨d7,d8⟩;unfold jT at a9;clear d8 d7 hr hL;go_in;go_wp2_with fail;generalize w.alloc (.cells #[.slice none 0 0, .slice none 0 0, .slice none 0 0, .slice none 0 0, .slice none 0 0, .slice none 0 0, .slice none 0 0, .slice none 0 0, .slice none 0 0,L.length, .int .i64 0] 178)=w0 at *;go_loopw [20] (λx wr=>∃k:Nat,k<=L.length/\x= .int .i64 k/\wr=w0) (λx _=>L.length-(intOf x).toNat);exact⟨0,aY1 _,rfl,rfl⟩;as_aux_lemma=>
  obtain⟨k,hk,rfl,rfl⟩:=hrel;by_cases a2:k<L.length
  ·obtain⟨s,hs⟩:∃s,L[k]? =some s:=⟨_,aO0 a2⟩;obtain⟨b,g1,rfl,a3,b1⟩:=Bo HR.o hs;have hc:=b1 _ a9.o.2;have Z:=d5.o s (aR5 hs);have e2:eA (s:Int)=true:=dD E E;have e9:Hid (∀w,Calls prog 122 #[s] w λe w'=>e= .returned (.bool true)/\w=w'):=λw=>by rw[<-e2];exact cM s w
   have i0:(0:Int)<=(k:Int):=E;have i1:(k:Int)<(L.length:Int):=E;clear b1 e2 hs;go_wp2_with fail;refine Cq (e9.o _) ?_;go_wp2;go_roundw;exact⟨k+1,E,by go_num,trivial⟩;simp[intOf];omega
  ·obtain rfl:k=L.length:=E;go_wp2;clear hk a2;go_loopw [28] (λx wr=>∃l:Nat,l<=9/\x= .int .i64 l/\∃V Q O S,WavePt wr w.heap.size w.heap.size V (jY l 0) Q O S L.length/\BitsOK O L l 0/\(∀T,l<=T->V T= .slice none 0 0)/\Below w w wr) (λx _=>9-(intOf x).toNat);exact⟨0,E,rfl,_,_,_,_,by rw[Yk];exact a9.o.1,BitsOK.zero _ _,λ_ _=>rfl,a9.o.2⟩;as_aux_lemma=>
    clear a9;obtain⟨l,hl,rfl,V,Q,O,S,hP,hO,a1,hb⟩:=hrel;by_cases a2:l<9
    ·have g3:=yW a2;have f6:∀w:World,_:=Zz (pw l) E;have d9:decide ((l:Int)<9)=true:=bc2 E;have f8:wrap64 ((2:Int)^l)=((pw l:Nat):Int):=by
      have :l=0\/l=1\/l=2\/l=3\/l=4\/l=5\/l=6\/l=7\/l=8:=E;rcases this with rfl | rfl | rfl | rfl | rfl | rfl | rfl | rfl | rfl<;>simp[wrap64,pw]
     have HP:=θ hP;have HO:=θ hO;have HB:=θ hb;have X:=θ a1;have b3:Hid (BitsR (wr.alloc (.cells (aI (λ_=> .slice none 0 0) (pw l)).toArray 132)) wr wr.heap.size (pw l) (λ_=> .slice none 0 0) (iI L l 0)/\Below wr wr (wr.alloc (.cells (aI (λ_=> .slice none 0 0) (pw l)).toArray 132))):=θ ⟨by rw[Pk];exact BitsR.start wr (pw l) (aV3 _),aB wr _⟩;clear hP hO hb a1;go_wp2_with fail;clear f8 f6 d9;generalize wr.alloc (.cells (aI (λ_=> .slice none 0 0) (pw l)).toArray 132)=wm at *;obtain⟨wl,e4⟩:∃wl,wl=wr:=⟨_,rfl⟩;rw[<-e4]at HP HB b3⊢;clear e4;go_loopw [37] (λx wr=>∃j:Nat,j<=L.length/\x= .int .i64 j/\∃vs,BitsR wr wl.heap.size wl.heap.size (pw l) vs (iI L l j)/\Below wl wl wr) (λx _=>L.length-(intOf x).toNat);exact⟨0,E,rfl,_,b3.o.1,b3.o.2⟩;as_aux_lemma=>
      clear b3;obtain⟨j,R,rfl,vs,hR,a3⟩:=hrel;by_cases d0:j<L.length
      ·obtain⟨s,hs⟩:∃s,L[j]? =some s:=⟨_,aO0 d0⟩;obtain⟨b,g1,rfl,g2,b1⟩:=Bo HR.o hs;have hc:=b1 wr (HB.o.trans (a3.mono HB.o.size));have Z:=d5.o s (aR5 hs);have d2:=sR Z a2;have i0:(0:Int)<=(j:Int):=E;have i1:(j:Int)<(L.length:Int):=E;have d4:=θ (Pj (l:=l) hs);have f1:=θ (λw=>tV Z (E:l<=9) w);have e8:=θ (λw=>yL Z a2 w);have b6:=θ (Hk L l (pth s l) j);clear b1 hs;generalize pth s l=π at *;generalize dN s l=bt at *;have j0:(0:Int)<=(π:Int):=E;have j1:(π:Int)<((pw l:Nat):Int):=E;have kc:=hR.cell d2;have kf:=hR.frz π;have K:=θ hR;have d3:=θ a3;have y:=θ d2;have b5:=θ d0;clear hR a3 d2;have f5:wl<wr.heap.size:=K.o.lt;have b7:=θ f5;go_wp2_with fail;refine Cq (f1.o _) ?_;go_wp2_with fail;refine aG (λ_=>True) Ek trivial (λt=>?_);refine rV 0 1 2 3 t ?_;refine rU 4 6 t ?_;refine rt 7 t ?_;refine rc 8 (λw _=>e8.o w) t ?_;refine oC (i:=5) (j:=9) rfl rfl Ek rfl rfl (λU r=>?bbt5) (λU r=>?bbt9);case bbt5=>
        go_simp;refine r.out _ _ trivial ?_;intro t;try simp only[pt]
        refine rg 9 λU r=>?_;go_simp;refine r.out _ _ trivial ?_;intro t;try simp only[pt]
        refine rg 10 λU r=>?_;refine kK _ _ 132 rfl wl.heap.size 4 Tryz.infoBoolR aZ7 rfl Ed _ _ _ rfl (bb1 (K.o.rows π y.o) _) wr 1 [.bool bt] rfl rfl ?hus ?h1 ?c1 ?c2 ?c3 ?_;case hus=>
         intro j u R;have hx:=bb8 _ wr j _ _ _ (bc6 wr (.cells #[.bool bt] 4));refine Eq.trans hx ?_;simpa using R
        case h1=>intro u hu;simp at hu;subst hu;rfl
        case c1=>have :=b6.o;unfold maxLen;omega
        case c2=>have :=b6.o;omega
        case c3=>have :=b7.o;simp;omega
        intro g z w3 f d n G;have C:=θ (K.o.mid y.o (w2:=(wr.alloc (.cells #[.bool bt] 4)).drew) (aB wr _).drew d);have F:=θ (K.o.push y.o (x:=bt) (w2:=(wr.alloc (.cells #[.bool bt] 4)).drew) (aB wr _).drew rfl f d n);have c7:=θ (d3.o.trans (F.o.2.below (B:=wl.heap.size) (λj R=>R.elim (λe=>E) (λe=>((K.o.rows π y.o).lt j e).1)) (by have :=b7.o;omega)));have f9:=C.o.1;have g0:=C.o.2;clear f d n G;refine r.out _ _ trivial ?_;intro t;try simp only[pt]
        refine rt 11 t ?_;refine rg 12 λU r=>?_;go_simp;refine r.out _ _ trivial ?_;intro t;try simp only[pt]
        refine rz ?_;clear t;go_wp2;go_roundw;exact⟨j+1,by have :=b5.o;omega,by go_num,_,by rw[d4.o];exact F.o.1,c7.o⟩;have :=b5.o;simp[intOf];omega
       case bbt9=>
        go_simp;refine r.out _ _ trivial ?_;intro t;try simp only[pt]
        refine rg 5 λU r=>?_;go_simp;refine r.out _ _ trivial ?_;intro t;try simp only[pt]
        refine rg 10 λU r=>?_;refine kK _ _ 132 rfl wl.heap.size 4 Tryz.infoBoolR aZ7 rfl Ed _ _ _ rfl (bb1 (K.o.rows π y.o) _) wr 1 [.bool bt] rfl rfl ?hus ?h1 ?c1 ?c2 ?c3 ?_;case hus=>
         intro j u R;have hx:=bb8 _ wr j _ _ _ (bc6 wr (.cells #[.bool bt] 4));refine Eq.trans hx ?_;simpa using R
        case h1=>intro u hu;simp at hu;subst hu;rfl
        case c1=>have :=b6.o;unfold maxLen;omega
        case c2=>have :=b6.o;omega
        case c3=>have :=b7.o;simp;omega
        intro g z w3 f d n G;have C:=θ (K.o.mid y.o (w2:=(wr.alloc (.cells #[.bool bt] 4)).drew) (aB wr _).drew d);have F:=θ (K.o.push y.o (x:=bt) (w2:=(wr.alloc (.cells #[.bool bt] 4)).drew) (aB wr _).drew rfl f d n);have c7:=θ (d3.o.trans (F.o.2.below (B:=wl.heap.size) (λj R=>R.elim (λe=>E) (λe=>((K.o.rows π y.o).lt j e).1)) (by have :=b7.o;omega)));have f9:=C.o.1;have g0:=C.o.2;clear f d n G;refine r.out _ _ trivial ?_;intro t;try simp only[pt]
        refine rt 11 t ?_;refine rg 12 λU r=>?_;go_simp;refine r.out _ _ trivial ?_;intro t;try simp only[pt]
        refine rz ?_;clear t;go_wp2;go_roundw;exact⟨j+1,by have :=b5.o;omega,by go_num,_,by rw[d4.o];exact F.o.1,c7.o⟩;have :=b5.o;simp[intOf];omega
      ·obtain rfl:j=L.length:=E;have c5:w<wl.heap.size:=HP.o.tyP.lt;have f2:=θ c5;have c8:Hid (WavePt wr w.heap.size w.heap.size V (jY l 0) Q O S L.length):=θ (HP.o.below a3);have c6:Hid (Below w w wr):=θ (HB.o.trans (a3.mono HB.o.size));have K:=θ hR;clear hR a3 c5 HB HP R d0;go_wp2_with fail;obtain⟨we,e3⟩:∃we,we=wr:=⟨_,rfl⟩;rw[<-e3]at c8 c6 K⊢;clear e3;go_loopw [59] (λx wr=>∃k:Nat,k<=pw l/\x= .int .i64 k/\∃V Q O S,WavePt wr w.heap.size w.heap.size V (jY l k) Q O S L.length/\BitsOK O L l k/\Chg (λj=>j=w.heap.size) we wr/\(∀g,(V l).ownBlock=some g->we.heap.size<=g)/\(∀T,l<T->V T= .slice none 0 0)) (λx _=>pw l-(intOf x).toNat);exact⟨0,E,rfl,V,Q,O,S,c8.o,HO.o,Chg.refl,λg hg=>by rw[X.o l (aV3 _)]at hg;simp[Value.ownBlock]at hg,λT a4=>X.o T E⟩;as_aux_lemma=>
        clear c8 HO X;clear V Q O S;obtain⟨k,hk,rfl,V,Q,O,S,hP,hO,hC,hG,a1⟩:=hrel;have HC:=θ hC;by_cases d1:k<pw l
        ·have c9:BitsR wr wl.heap.size wl.heap.size (pw l) vs (iI L l L.length):=K.o.chg hC (λj R e=>by have :=f2.o;omega);have f:=c9.rows k d1;rw[Cp]at f;obtain⟨a',c',hv,_,_⟩:=aD f;have f3:=c9.cell d1;rw[hv]at f f3;have f4:(lvl L l k).length<=L.length:=by have :=Hk L l k L.length;rwa[Cp]at this
         have c4:=aa9 f;have a5:Hid (∀m,Calls prog 195 #[.slice a' (lvl L l k).length c'] (wr.drewN m) λe w'=>∃q S' o,e= .returned (.pointer (some ⟨q,0,none⟩))/\(∃mm,TreeIs S' w' q o mm 0)/\(∀j,S' j->wr.heap.size<=j)/\aF o=lvl L l k/\Chg (λ_=>False) wr w'):=θ (λm=>by
          refine(aH3 (wr.drewN m) (lvl L l k) (dM (w:=wr.drewN m) f) c4 E).mono ?_
          rintro e w' ⟨q,S',o,rfl,h1,h2,h3,h4⟩
          exact⟨q,S',o,rfl,⟨_,h1⟩,h2,h3,((Chg.refl (S:=λ_=>False) (w:=wr)).drewN m).trans h4 (λb hb=>hb.elim)⟩)
         have i0:(0:Int)<=(k:Int):=E;have i1:(k:Int)<((pw l:Nat):Int):=E;have l0:(0:Int)<=(l:Int):=E;have l9:(l:Int)<9:=E;have pc:wr.cell? (w,l)=some (V l):=by rw[bb8 wr w.heap.size l _ _ _ hP.head,Ha V _ a2]
         have f7:w<wr.heap.size:=hP.tyP.lt;have y:=θ hP;have HO:=θ hO;have HG:=θ hG;have X:=θ a1;have J:=θ d1;have d6:=θ f7;have W:=θ a2;clear hP hO hC hG a1 c9 f hv c4 f4;go_wp2_with fail;refine aG (λ_=>True) Ek trivial (λt=>?_);refine rV 0 1 2 3 t ?_;refine rV 4 5 6 8 t ?_;refine rV 10 11 15 16 t ?_;refine oC (i:=7) (j:=9) rfl rfl Ek rfl rfl (λU r=>?btr7) (λU r=>?btr9);case btr7=>
          go_simp;refine r.out _ _ trivial ?_;intro t;try simp only[pt]
          refine rg 9 λU r=>?_;go_simp
          ((refine(a5.o 1).mono ?_))
          rintro e A ⟨q,S',o,rfl,⟨mm,hT⟩,b0,M,Y⟩;have c0:A.cell? (w,l)=some (V l):=Y.cell (p:=(w,l)) pc id;have b2:w<A.heap.size:=by have :=Y.size;have :=d6.o;omega
          have a6:=θ b2;have b9:=θ hT;have b8:=θ b0;have b4:=θ M;have H:=θ Y;clear hT b0 M Y a5;refine r.out _ _ trivial ?_;intro t;try simp only[pt]
          refine rt 12 t ?_;refine rg 13 λU r=>?_;go_simp;refine r.out _ _ trivial ?_;intro t;try simp only[pt]
          refine rg 14 λU r=>?_;have a0:=θ (H.o.own (by have :=y.o.rows l W.o;rw[fV]at this;exact this:wr.ownsRow w.heap.size 181 3 (V l) k (shC Q l k)) (λ_ _=>id));refine kK _ _ 175 rfl w.heap.size 181 Tryz.infoShelf Tryz.underlying175 rfl Ed _ _ _ rfl (bb1 a0.o _) A 1 [.pointer q, .int .i64 l, .int .i64 k] rfl rfl ?hus ?h1 ?c1 ?c2 ?c3 ?_;case hus=>
           intro j u R;have hx:=bb8 _ A j _ _ _ (bc6 A (.cells #[.pointer q,l,k] 181));refine Eq.trans hx ?_;simpa using R
          case h1=>intro u hu;simp at hu;rcases hu with rfl | rfl | rfl<;>rfl
          case c1=>have :=J.o;unfold maxLen;omega
          case c2=>have :=J.o;omega
          case c3=>have :=a6.o;simp;omega
          intro g z w3 f d n G;have d:(A.alloc (.cells #[.pointer q,l,k] 181)).grownBy w3 (V l).ownBlock:=d;have n:(V l).ownBlock=some g\/(A.alloc (.cells #[.pointer q,l,k] 181)).heap.size<=g:=n;have C:=θ (y.o.mid W.o H.o (w2:=(A.alloc (.cells #[.pointer q,l,k] 181))) (aB A _) d);have P:=y.o.push W.o (m:=mm) (o:=o) b9.o b8.o H.o (w2:=(A.alloc (.cells #[.pointer q,l,k] 181))) (aB A _) (v:= .slice (some ⟨g,0,none⟩) (k+1) z) (g:=g) rfl (by rw[fV];exact f) d n;rw[Ag,fV]at P;have F:=θ P;have I:(V l).ownBlock=some g\/we.heap.size<=g:=n.elim Ei (λh=>Ej (by simp at h;have :=H.o.size;have :=HC.o.size;omega));have a8:=θ I;have a7:=θ (HO.o.push b4.o);have e5:=C.o.1;have e6:=C.o.2;clear f d n I G P c0;refine r.out _ _ trivial ?_;intro t;try simp only[pt]
          refine rt 17 t ?_;refine rg 18 λU r=>?_;go_simp;refine r.out _ _ trivial ?_;intro t;try simp only[pt]
          refine rz ?_;clear t;go_wp2;go_roundw;case rel=>exact⟨k+1,by have :=J.o;omega,by go_num,_,_,_,_,F.o.1,a7.o,HC.o.trans F.o.2 (λj R=>R.elim Ei (λe=>Ej (HG.o j e))),λg' N=>by
           have e1:cE V l (.slice g (k+1) z) l= .slice g (k+1) z:=by simp[cE]
           rw[e1]at N
           simp only[Value.ownBlock,aY7]at N
           subst N
           exact a8.o.elim (λe=>HG.o _ e) id,λT a4=>by
           have e1:cE V l (.slice g (k+1) z) T=V T:=by unfold cE;rw[bc9 E]
           rw[e1];exact X.o T a4⟩
          case measure=>have :=J.o;simp[intOf];omega
         case btr9=>
          go_simp
          ((refine(a5.o 1).mono ?_))
          rintro e A ⟨q,S',o,rfl,⟨mm,hT⟩,b0,M,Y⟩;have c0:A.cell? (w,l)=some (V l):=Y.cell (p:=(w,l)) pc id;have b2:w<A.heap.size:=by have :=Y.size;have :=d6.o;omega
          have a6:=θ b2;have b9:=θ hT;have b8:=θ b0;have b4:=θ M;have H:=θ Y;clear hT b0 M Y a5;refine r.out _ _ trivial ?_;intro t;try simp only[pt]
          refine rt 12 t ?_;refine oC (i:=7) (j:=13) rfl rfl Ek rfl rfl (λU r=>?btrb7) (λU r=>?btrb13);case btrb7=>
           go_simp;refine r.out _ _ trivial ?_;intro t;try simp only[pt]
           refine rg 13 λU r=>?_;go_simp;refine r.out _ _ trivial ?_;intro t;try simp only[pt]
           refine rg 14 λU r=>?_;have a0:=θ (H.o.own (by have :=y.o.rows l W.o;rw[fV]at this;exact this:wr.ownsRow w.heap.size 181 3 (V l) k (shC Q l k)) (λ_ _=>id));refine kK _ _ 175 rfl w.heap.size 181 Tryz.infoShelf Tryz.underlying175 rfl Ed _ _ _ rfl (bb1 a0.o _) A 1 [.pointer q, .int .i64 l, .int .i64 k] rfl rfl ?hus ?h1 ?c1 ?c2 ?c3 ?_;case hus=>
            intro j u R;have hx:=bb8 _ A j _ _ _ (bc6 A (.cells #[.pointer q,l,k] 181));refine Eq.trans hx ?_;simpa using R
           case h1=>intro u hu;simp at hu;rcases hu with rfl | rfl | rfl<;>rfl
           case c1=>have :=J.o;unfold maxLen;omega
           case c2=>have :=J.o;omega
           case c3=>have :=a6.o;simp;omega
           intro g z w3 f d n G;have d:(A.alloc (.cells #[.pointer q,l,k] 181)).grownBy w3 (V l).ownBlock:=d;have n:(V l).ownBlock=some g\/(A.alloc (.cells #[.pointer q,l,k] 181)).heap.size<=g:=n;have C:=θ (y.o.mid W.o H.o (w2:=(A.alloc (.cells #[.pointer q,l,k] 181))) (aB A _) d);have P:=y.o.push W.o (m:=mm) (o:=o) b9.o b8.o H.o (w2:=(A.alloc (.cells #[.pointer q,l,k] 181))) (aB A _) (v:= .slice g (k+1) z) (g:=g) rfl (by rw[fV];exact f) d n;rw[Ag,fV]at P;have F:=θ P;have I:(V l).ownBlock=some g\/we.heap.size<=g:=n.elim Ei (λh=>Ej (by simp at h;have :=H.o.size;have :=HC.o.size;omega));have a8:=θ I;have a7:=θ (HO.o.push b4.o);have e5:=C.o.1;have e6:=C.o.2;clear f d n I G P c0;refine r.out _ _ trivial ?_;intro t;try simp only[pt]
           refine rt 17 t ?_;refine rg 18 λU r=>?_;go_simp;refine r.out _ _ trivial ?_;intro t;try simp only[pt]
           refine rz ?_;clear t;go_wp2;go_roundw;case rel=>exact⟨k+1,by have :=J.o;omega,by go_num,_,_,_,_,F.o.1,a7.o,HC.o.trans F.o.2 (λj R=>R.elim Ei (λe=>Ej (HG.o j e))),λg' N=>by
            have e1:cE V l (.slice g (k+1) z) l= .slice g (k+1) z:=by simp[cE]
            rw[e1]at N
            simp only[Value.ownBlock,aY7]at N
            subst N
            exact a8.o.elim (λe=>HG.o _ e) id,λT a4=>by
            have e1:cE V l (.slice g (k+1) z) T=V T:=by unfold cE;rw[bc9 E]
            rw[e1];exact X.o T a4⟩
           case measure=>have :=J.o;simp[intOf];omega
          case btrb13=>
           go_simp;refine r.out _ _ trivial ?_;intro t;try simp only[pt]
           refine rg 7 λU r=>?_;go_simp;refine r.out _ _ trivial ?_;intro t;try simp only[pt]
           refine rg 14 λU r=>?_;have a0:=θ (H.o.own (by have :=y.o.rows l W.o;rw[fV]at this;exact this:wr.ownsRow w.heap.size 181 3 (V l) k (shC Q l k)) (λ_ _=>id));refine kK _ _ 175 rfl w.heap.size 181 Tryz.infoShelf Tryz.underlying175 rfl Ed _ _ _ rfl (bb1 a0.o _) A 1 [.pointer q, .int .i64 l, .int .i64 k] rfl rfl ?hus ?h1 ?c1 ?c2 ?c3 ?_;case hus=>
            intro j u R;have hx:=bb8 _ A j _ _ _ (bc6 A (.cells #[.pointer q,l,k] 181));refine Eq.trans hx ?_;simpa using R
           case h1=>intro u hu;simp at hu;rcases hu with rfl | rfl | rfl<;>rfl
           case c1=>have :=J.o;unfold maxLen;omega
           case c2=>have :=J.o;omega
           case c3=>have :=a6.o;simp;omega
           intro g z w3 f d n G;have d:(A.alloc (.cells #[.pointer q,l,k] 181)).grownBy w3 (V l).ownBlock:=d;have n:(V l).ownBlock=some g\/(A.alloc (.cells #[.pointer q,l,k] 181)).heap.size<=g:=n;have C:=θ (y.o.mid W.o H.o (w2:=(A.alloc (.cells #[.pointer q,l,k] 181))) (aB A _) d);have P:=y.o.push W.o (m:=mm) (o:=o) b9.o b8.o H.o (w2:=(A.alloc (.cells #[.pointer q,l,k] 181))) (aB A _) (v:= .slice g (k+1) z) (g:=g) rfl (by rw[fV];exact f) d n;rw[Ag,fV]at P;have F:=θ P;have I:(V l).ownBlock=some g\/we.heap.size<=g:=n.elim Ei (λh=>Ej (by simp at h;have :=H.o.size;have :=HC.o.size;omega));have a8:=θ I;have a7:=θ (HO.o.push b4.o);have e5:=C.o.1;have e6:=C.o.2;clear f d n I G P c0;refine r.out _ _ trivial ?_;intro t;try simp only[pt]
           refine rt 17 t ?_;refine rg 18 λU r=>?_;go_simp;refine r.out _ _ trivial ?_;intro t;try simp only[pt]
           refine rz ?_;clear t;go_wp2;go_roundw;case rel=>exact⟨k+1,by have :=J.o;omega,by go_num,_,_,_,_,F.o.1,a7.o,HC.o.trans F.o.2 (λj R=>R.elim Ei (λe=>Ej (HG.o j e))),λg' N=>by
            have e1:cE V l (.slice g (k+1) z) l= .slice g (k+1) z:=by simp[cE]
            rw[e1]at N
            simp only[Value.ownBlock,aY7]at N
            subst N
            exact a8.o.elim (λe=>HG.o _ e) id,λT a4=>by
            have e1:cE V l (.slice g (k+1) z) T=V T:=by unfold cE;rw[bc9 E]
            rw[e1];exact X.o T a4⟩
           case measure=>have :=J.o;simp[intOf];omega
        ·obtain rfl:k=pw l:=E;have HN:=θ hO.next;have f0:=θ hP;have X:=θ a1;have e0:Below w we wr:=hC.below (λj e=>E) c6.o.size;have e7:=θ (c6.o.trans e0);clear hP hO hC hG a1 e0;go_wp2;go_roundw;exact⟨l+1,E,by go_num,V,Q,O,S,by rw[<-Yj];exact f0.o,HN.o,λT a4=>X.o T E,e7.o⟩;simp[intOf];omega
    ·obtain rfl:l=9:=E;have HD:=θ (hP.done Yi hb.size);have HL:=θ hO.done;have HB:=θ hb;clear hP hO hb a1;go_wp2;go_ret2;obtain⟨D,hD⟩:=HD.o;exact⟨_,D,O,rfl,hD,HL.o,HB.o⟩
theorem wIns1{B:Nat}{Z:Nat->Prop}{w:World}{p n:Nat}{D:WD}{O:Nat->Nat->Option ST}{i:Int}(h:WaveE B Z w p D O n i bF){l k:Nat}(C:l<9)(A:k<pw l){u v:Nat}{j:Nat}(d:j<=(aF (O l k)).length)(b:(aF (O l k)).length<2147483648){x:Bool}(y:Box1 w u j 3)(z:Box1 w v (.bool x) 4):Calls prog 215 #[cI D l k, .pointer u, .pointer v] w λe G=>e= .returned (.tuple #[])/\pQ B Z (λ_=>False) w G p D (eP O l k (oI (O l k) j x)) n i l k (7*aP (O l k)+2)/\True:=by
 have a:=aB w (.cells #[.pointer (D.Q l k,0),l,k] 181);obtain⟨W,t⟩:∃W,W=w.alloc (.cells #[.pointer (D.Q l k,0),l,k] 181):=⟨_,rfl⟩;rw[<-t]at a;have H:=(y.below a).cell;have I:=(z.below a).cell;have c:=θ ((h.below a).tInsert C A j d b x);have m:=θ a;clear h y z a C A d b;unfold cI;obtain⟨q,F⟩:=Ey (D.Q l k);rw[F]at c t⊢;clear F;subst t;go_in;go_wp2_with fail;refine c.o.mono ?_;rintro e J ⟨rfl,g,f⟩;have s:=θ g;have r:=θ f;clear g f c;go_wp2;go_end0;refine⟨rfl,⟨s.o,?_⟩,trivial⟩;exact(Chg.of_below (S:=λj=>exT B Z j\/False) m.o).trans (r.o.mono (λj d=>Ei d)) (λj d=>Ei d)
def LvlM(O:Nat->Nat->Option ST)(L L':List Nat)(l:Nat):Prop:=∀l' k,l'<9->k<pw l'->aF (O l' k)=if l'<l then lvl L' l' k else lvl L l' k
theorem LvlM.start {O:Nat->Nat->Option ST}{L a:List Nat}(h:lC O L):LvlM O L a 0:=λd k b c=>by rw[bc9 E];exact h d k b c
theorem LvlM.fin {O:Nat->Nat->Option ST}{L a:List Nat}(h:LvlM O L a 9):lC O a:=λd k b c=>by rw[h d k b c,bd0 b]
theorem Iz{l:List Bool}{k:Nat}(b x:Bool)(h:k<=l.length):aM (inL l k b) k x=aM l k x:=by
 unfold aM inL;rw[aT7 (by rw[aQ1];omega),aU1,Nat.min_self]
theorem LvlM.ins {O:Nat->Nat->Option ST}{L:List Nat}{k s l:Nat}(h:LvlM O L (inL L k s) l)(g:k<=L.length)(n:l<9)(o:s<257):LvlM (eP O l (pth s l) (oI (O l (pth s l)) (bO L l (pth s l) k) (dN s l))) L (inL L k s) (l+1)/\aF (O l (pth s l))=lvl L l (pth s l):=by
 have b:aF (O l (pth s l))=lvl L l (pth s l):=by rw[h l _ n (Di E E),bc9 E]
 refine⟨λa d j m=>?_,b⟩;by_cases e:a=l/\d=pth s l
 ·obtain⟨rfl,rfl⟩:=e;rw[cO,bd0 E,xA (by rw[b];exact Rq _ _ _ _),b,Zy s g,bd0 rfl]
 ·have c:a≠l\/d≠pth s l:=E;rw[eE _ _ c,h a d j m];by_cases i:a=l
  ·subst i;rw[bc9 E,bd0 E,Zy s g,bc9 E]
  ·by_cases f:a<l
   ·rw[bd0 f,bd0 E]
   ·rw[bc9 f,bc9 E]
theorem pF(w:World)(a b:Obj):Below w w ((w.alloc a).alloc b).drew:=
 (((aJ6 _ _).alloc (aV3 _) _).alloc Es _).drew
theorem winsA(w:World)(a b c u:Value)(T U:TypeId):Box3 ((w.alloc (.cells #[a,b,c] T)).alloc (.cells #[u] U)).drew w a b c T/\Box1 ((w.alloc (.cells #[a,b,c] T)).alloc (.cells #[u] U)).drew (w.heap.size+1) u U:=by
 have e:=bc6 w (.cells #[a,b,c] T);have d:=bc6 (w.alloc (.cells #[a,b,c] T)) (.cells #[u] U);rw[show (w.alloc (.cells #[a,b,c] T)).heap.size=w.heap.size+1 by simp]at d;exact⟨(Chg.of_below (S:=λ_=>False) (aB (w.alloc (.cells #[a,b,c] T)) _)).heap e id,d⟩
theorem insB(w:World)(a b c u:Value)(T U:TypeId):Box3 ((w.alloc (.cells #[u] U)).alloc (.cells #[a,b,c] T)).drew (w.heap.size+1) a b c T/\Box1 ((w.alloc (.cells #[u] U)).alloc (.cells #[a,b,c] T)).drew w u U:=by
 have e:=bc6 w (.cells #[u] U);have d:=bc6 (w.alloc (.cells #[u] U)) (.cells #[a,b,c] T);rw[show (w.alloc (.cells #[u] U)).heap.size=w.heap.size+1 by simp]at d;exact⟨d,(Chg.of_below (S:=λ_=>False) (aB (w.alloc (.cells #[u] U)) _)).heap e id⟩
theorem Rg{B:Nat}{X:Nat->Prop}{w:World}{p:Nat}{D:WD}{O:Nat->Nat->Option ST}{L:List Nat}{g4:Int}(h:WaveE B X w p D O L.length g4 bF)(hO:lC O L)(hL:Syms L)(hn:L.length<=1000000000){H:Nat}(hH:HiO O H)(i7:H<=1000000000)(k s:Nat)(U:k<=L.length)(hs:s<257):Calls prog 170 #[.pointer p,k,s] w λe z=> e= .returned (.int .i64 0)/\∃(A:Nat->Nat->Option ST) (a:Int),0<=a/\a<=9*(8*H+4)/\WaveE B X z p D A (L.length+1) a bF/\lC A (inL L k s)/\HiO A (H+1)/\Chg (exT B X) w z:=by
 have a8:=aB w (.cells #[k] 3);obtain⟨W,hW⟩:∃W,W=w.alloc (.cells #[k] 3):=⟨_,rfl⟩;have b5:Box1 W w k 3:=by rw[hW];exact Box1.new w _ _
 rw[<-hW]at a8;have c8:WaveE B (λi=>X i\/i=w.heap.size) W p D O L.length g4 bF:=h.less a8 (λi u=>u.elim Ei (λe=>Ej E)) (λi u=>u.elim (λg=>aV7 (h.x i g) a8.size) (λe=>by subst e;exact b5.lt));have d4:p≠w.heap.size:=by have :=h.cells.2.2.2.2;omega
 have HX:=θ h.x;have i4:=θ h.le;obtain⟨n,c9,h7,fz,hp⟩:=c8.cells;have i3:=fz 10;have kc:=b5.cell;have c4:=θ (c8.setVis 0);have a1:Hid (∀v,Box1 (W.setCell (p,10) v) w k 3):=λv=>b5.chg (S:=λj=>j=p) (Chg.refl.setCell (S:=λj=>j=p) (p,10) (Ei rfl) _) (λe=>d4 e.symm);have d8:=θ a8;have x0:=n 0 E;have x1:=n 1 E;have x2:=n 2 E;have x3:=n 3 E;have x4:=n 4 E;have x5:=n 5 E;have x6:=n 6 E;have x7:=n 7 E;have x8:=n 8 E;have f8:eA (s:Int)=true:=dD E E;have g7:Hid (∀w,Calls prog 122 #[s] w λe z=>e= .returned (.bool true)/\w=z):=λw=>by rw[<-f8];exact cM s w
 have HO:=θ hO;have e5:=θ hH;have g9:=θ hL;have HK:=θ U;have c0:=θ hn;have d0:decide ((k:Int)<0)=false:=bc0 E;have d1:decide (L.length<k)=false:=bc0 E;have d2:decide ((L.length:Int)<(k:Int))=false:=bc0 E;have i6:=θ d4;clear h n fz hO hH hL hn c8 a8 b5 U f8;subst hW;go_in;go_wp2_with fail;refine Cq (g7.o _) ?_;go_wp2;go_quiet (fail);go_wp2_with fail;have b4:Hid (WaveE B (λi=>X i\/i=w.heap.size) (((w.alloc (.cells #[k] 3)).setCell (p,10) (.int .i64 0)).drewN nq) p D O L.length 0 bF/\Box1 (((w.alloc (.cells #[k] 3)).setCell (p,10) (.int .i64 0)).drewN nq) w.heap.size k 3/\Chg (exT B X) w (((w.alloc (.cells #[k] 3)).setCell (p,10) (.int .i64 0)).drewN nq)):=
  ⟨c4.o.1.drewN nq,a1.o _,((Chg.of_below (S:=exT B X) d8.o).trans (c4.o.2.mono (λj R=>cJ (λi u=>Ei u) R)) (λj R=>Ei R)).drewN nq⟩
 generalize ((w.alloc (.cells #[k] 3)).setCell (p,10) (.int .i64 0)).drewN nq=ws at *;clear c4 a1 d8 x0 x1 x2 x3 x4 x5 x6 x7 x8 c9 h7 i3 kc d0 d1 d2 hp d4;go_loopw [35] (λx wr=>∃l:Nat,l<=9/\x= .int .i64 l/\∃(A:Nat->Nat->Option ST) (a:Int),0<=a/\a<=l*(8*H+4)/\WaveE B (λi=>X i\/i=w.heap.size) wr p D A L.length a bF/\LvlM A L (inL L k s) l/\(∀V k',V<9->k'<pw V->aP (A V k')<=H+1/\(l<=V->aP (A V k')<=H))/\Box1 wr w.heap.size (.int .i64 (bO L l (pth s l) k:Nat)) 3/\Chg (exT B X) w wr) (λx _=>9-(intOf x).toNat);exact⟨0,E,rfl,O,0,E,Es,b4.o.1,LvlM.start HO.o,λV k' h1 h2=>by have :=e5.o V k' h1 h2;omega,by rw[iB E,mY g9.o.lt k HK.o];exact b4.o.2.1,b4.o.2.2⟩;as_aux_lemma=>
  clear b4 HO e5;obtain⟨l,hl,rfl,A,a,d5,d6,hE,hM,a3,a5,hC⟩:=hrel;by_cases c:l<9
  ·have i9:∀w:World,(Instr.index 176 (.agg #[D.row 0,D.row 1,D.row 2,D.row 3,D.row 4,D.row 5,D.row 6,D.row 7,D.row 8]) (.int .i64 (l:Int))).run prog w= .ok (.slice (D.G l,0) (pw l) (D.C l)) w:=sL D c;have T:=sR hs c;have i2:=yW c;obtain⟨r0,r1,r2⟩:=hE.shelf c T;obtain⟨a6,a7⟩:=hM.ins HK.o c hs;have c7:=(a3 l (pth s l) c T).2 (aV3 _);have c2:a<=9*(8*(H:Int)+4):=by
    have h1:(l:Int)*(8*(H:Int)+4)<=9*(8*(H:Int)+4):=aK1 E E;omega
   have K:bO L l (pth s l) k<=(lvl L l (pth s l)).length:=Rq _ _ _ _;have P:(lvl L l (pth s l)).length<=L.length:=by unfold lvl;rw[aP7];exact aP6 _ _
   have a4:=Zk (o:=A l (pth s l)) (k:=bO L l (pth s l) k) (b:=dN s l) (hE.tGood c T).1;have b1:aM (aF (oI (A l (pth s l)) (bO L l (pth s l) k) (dN s l))) (bO L l (pth s l) k) (dN s l)=bO L (l+1) (pth s (l+1)) k:=by
    rw[xA (by rw[a7];exact K),a7,Iz _ _ K,lU L c,iY c]
   have e8:=θ (λw=>tV hs hl w);have e3:=θ (λw=>yL hs c w);rw[<-a7]at K P;obtain⟨y,g3⟩:=Ey (pth s l);obtain⟨bt,f6⟩:=Ey (dN s l);obtain⟨ct,f7⟩:=Ey (bO L l (pth s l) k);rw[f7]at a6 K a5 a4 b1;rw[f6]at a6 a4 b1 e3;rw[g3]at a6 a7 c7 K P a4 b1 e8 T r0 r1 r2;have HC:=θ hC;have HE:=θ hE;have a1:=θ a5;have e6:=θ a6;have e7:=θ b1;have b3:=θ a4;have b2:=θ a3;have g5:=θ K;have h0:=θ P;have a0:=θ c7;have c1:=θ c2;have c5:=θ d5;have h5:=θ d6;have c3:=θ T;have i0:(0:Int)<=(y:Int):=E;have i1:(y:Int)<((pw l:Nat):Int):=E;have g0:=a5.lt;have h4:=θ g0;clear hM hE a5 hC a7 a6 a4 b1 a3 K P c7 c2 d5 d6 T i2 g0 g3 f6 f7;obtain⟨q,hq⟩:=Ey (D.Q l y);rw[hq]at r0;generalize D.G l=g at *;generalize D.C l=gc at *;go_upto_region 11 with fail
   go_cut [9,10]from 36 to 57 (λt9 d7 wx=>∃b9 m:Nat,t9= .pointer b9/\d7= .pointer m/\b9≠m/\wr<=b9/\wr<=m/\Box3 wx b9 (.pointer q) (.int .i64 l) (.int .i64 y) 181/\Box1 wx m (.bool bt) 4/\Below wr wr wx)
   case first=>as_aux_lemma=>
    have t:Hid (∀z,Below wr wr z->(z.cell? (g,y*3)=some (.pointer q)/\z.cell? (g,y*3+1)=l/\z.cell? (g,y*3+2)=y)/\Below wr wr z):=λz hb=>by
     have hg:=ba8 wr _ r0;exact⟨⟨(hb.cell (p:=(g,y*3)) hg).trans r0,(hb.cell (p:=(g,y*3+1)) hg).trans r1,(hb.cell (p:=(g,y*3+2)) hg).trans r2⟩,hb⟩
    clear r0 r1 r2 e6 b2 b3 e7 HE HC;refine aG (λz=>(z.cell? (g,y*3)=some (.pointer q)/\z.cell? (g,y*3+1)=l/\z.cell? (g,y*3+2)=y)/\Below wr wr z) Ek (t.o _ ⟨rfl,rfl,rfl,aV3 _,λ_ _=>rfl⟩) (λf=>?_);refine rU 0 1 f ?_;refine rt 2 f ?_;refine rc 3 (λw _=>e8.o w) f ?_;refine rV 4 5 6 7 f ?_;refine rc 8 (λw _=>e3.o w) f ?_;refine oC (i:=9) (j:=10) rfl rfl Ek rfl rfl (λκ I=>?bis9) (λκ I=>?bis10);case bis9=>
     go_simp;refine I.out _ _ (t.o _ (f.2.alloc f.2.size _)) ?_;intro f;try simp only[pt]
     refine rg 10 λκ I=>?_;go_simp;refine I.out _ _ (t.o _ (f.2.alloc f.2.size _)) ?_;intro f;try simp only[pt]
     refine rg 11 λκ I=>?_;go_simp;refine I.out _ _ (t.o _ (pF _ _ _)) ?_;intro f;try simp only[pt]
     refine rg 12 λκ I=>?_;go_simp;refine I.out _ _ (t.o _ (pF _ _ _)) ?_;intro f;try simp only[pt]
     refine rz ?_;clear f;go_wp2_with fail;go_meet;case rel=>exact⟨wr.heap.size,wr.heap.size+1,rfl,rfl,E,aV3 _,E,(winsA _ _ _ _ _ _ _).1,(winsA _ _ _ _ _ _ _).2,pF _ _ _⟩
    case bis10=>
     go_simp;refine I.out _ _ (t.o _ (f.2.alloc f.2.size _)) ?_;intro f;try simp only[pt]
     refine rg 9 λκ I=>?_;go_simp;refine I.out _ _ (t.o _ (f.2.alloc f.2.size _)) ?_;intro f;try simp only[pt]
     refine rg 11 λκ I=>?_;go_simp;refine I.out _ _ (t.o _ (pF _ _ _)) ?_;intro f;try simp only[pt]
     refine rg 12 λκ I=>?_;go_simp;refine I.out _ _ (t.o _ (pF _ _ _)) ?_;intro f;try simp only[pt]
     refine rz ?_;clear f;go_wp2_with fail;go_meet;case rel=>exact⟨wr.heap.size+1,wr.heap.size,rfl,rfl,E,E,aV3 _,(insB _ _ _ _ _ _ _).1,(insB _ _ _ _ _ _ _).2,pF _ _ _⟩
   case rest=>as_aux_lemma=>
    obtain⟨b9,m,rfl,rfl,f9,h9,f3,J,d,a9⟩:=hcut;have hE:=HE.o.less a9 (Y:=λi=>(X i\/i=w.heap.size)\/(i=b9\/i=m)) (λi u=>u.elim Ei (λg=>Ej E)) (λi u=>u.elim (λg=>aV7 (HE.o.x i g) a9.size) (λg=>by have :=J.lt;have :=d.lt;omega));have d3:=a1.o.below a9;have r:=θ (Ev hE c c3.o ⟨c5.o,by have :=c1.out;omega⟩ (M:=7*aP (A l y)+2) (by have :=a0.o;omega) (Y:=λ_=>False) (λi e=>e.elim) (eP A l y (oI (A l y) ct bt)) 215 #[.pointer (some ⟨w.heap.size,0,none⟩), .pointer m]
     (enters_of func215 Ek rfl) (λ_=>True) (λ_ _ _ _=>trivial)
     (λw0 Z i8 hb h8=>wIns1 h8 c c3.o g5.o (by have :=h0.o;have :=c0.o;omega) (d3.below hb) (d.below hb)))
    have b7:=θ d3;have d9:=θ J;have b6:=θ d;have e4:Hid (Chg (exT B X) w _):=HC.o.trans (Chg.of_below (S:=exT B X) a9) (λj R=>Ei R);have i5:Hid (b9≠m/\w<wr.heap.size/\wr<=b9/\wr<=m):=⟨f9,h4.o,h9,f3⟩;obtain⟨e0,e1,e2⟩:=J.cells;unfold cI at r;rw[hq]at r;clear hE d3 J d a9 f9 h9 f3 r0 r1 r2 HC HE a1;go_wp2_with fail;refine r.o.mono ?_;rintro e w2 ⟨rfl,v1,d6,f4,F,_⟩;have F:Chg (exT B (λi=>(X i\/i=w.heap.size)\/(i=b9\/i=m))) _ w2:=F.mono (λj R=>R.elim id (λh=>h.elim));have J:=Box3.chg d9.o F (λU=>U.2 (Ej (Ei rfl)));have d:=b6.o.chg F (λU=>U.2 (Ej (Ej rfl)));have b0:=b7.o.chg F (λU=>U.2 (Ei (Ej rfl)));have a2:=θ (Ex f4 c c3.o ⟨by have :=c5.o;omega,by have :=c1.out;have :=a0.o;omega⟩ (by rw[cO];have :=b3.o;have :=a0.o;omega) (ct:Int) bt);rw[cO,aK5,e7.o]at a2;unfold cI at a2;rw[hq]at a2;have e9:Hid (Chg (exT B X) w w2):=e4.o.trans F (λj R=>Ei (cJ (λi u=>Ei (Ei u)) R));have k2:=b0.cell;have d7:=d.cell;obtain⟨f0,f1,f2⟩:=J.cells;have b8:=θ b0;clear f4 F J d b0 r d9 b6 b7 e4 e0 e1 e2;go_wp2_with fail;refine a2.o.mono ?_;rintro e w3 ⟨rfl,v2,j0,f5,c6⟩;have N:=b8.o.chg c6 (λU=>U.2 (Ei (Ej rfl)));have k3:=N.cell;have j2:=N.frz;have g8:=θ N;have g6:=θ f5;have h6:Hid (Chg (exT B X) w w3):=e9.o.trans c6 (λj R=>Ei (cJ (λi u=>Ei (Ei u)) R));clear f5 c6 N a2 b8 e9 k2 d7 f0 f1 f2;go_wp2;go_roundw;case rel=>
     refine⟨l+1,E,by go_num,_,a+v1+v2,?_,?_,(g6.o.mono (λi u=>Ei u)).chg (Z:=λj=>j=w.heap.size) (Chg.refl.setCell (S:=λj=>j=w.heap.size) (w,0) (Ei rfl) _) (λk U _ e=>U.2 (Ej e)),e6.out,λV k' g1 g2=>?_,g8.o.set _,h6.o.setCell _ (Ej (aV3 _)) _⟩
     ·have :=c5.o;omega
     ·have e:((l+1:Nat):Int)*(8*(H:Int)+4)=(l:Int)*(8*(H:Int)+4)+(8*(H:Int)+4):=by push_cast;rw[Int.add_mul];omega
      rw[e];have h1:=h5.o;have h2:=a0.o;have h3:=b3.o;omega
     ·by_cases e:V=l/\k'=y
      ·obtain⟨rfl,rfl⟩:=e;rw[cO];have h2:=a0.o;have h3:=b3.o;exact⟨E,λh=>E⟩
      ·rw[eE _ _ E];have :=b2.o V k' g1 g2;exact⟨this.1,λh=>this.2 E⟩
    case measure=>simp[intOf];omega
  ·obtain rfl:l=9:=E;have HC:=θ hC;have HE:=θ hE;have HM:=θ hM;have b2:=θ a3;obtain⟨_,c9,_,fz,_⟩:=hE.cells;have z9:=fz 9;have j1:IntKind.i64.wrap ((L.length:Int)+1)=(L.length:Int)+1:=aK8 _ (by have :=c0.o;omega);have HN:Hid ((L.length:Int)+1=((L.length+1:Nat):Int)):=by show _=_;omega
   clear hC hE hM a3 a5 fz;go_wp2;go_ret;rw[HN.o];refine⟨rfl,A,a,d5,E,((HE.o.mono (λi u=>Ei u)).setN (L.length+1)).1,HM.o.fin,λV k' h1 h2=>(b2.o V k' h1 h2).1,HC.o.trans ((HE.o.mono (λi u=>Ei u)).setN (L.length+1)).2 (λj R=>Ei R)⟩
theorem wDel1{B:Nat}{Z:Nat->Prop}{w:World}{p n:Nat}{D:WD}{O:Nat->Nat->Option ST}{u:Int}(h:WaveE B Z w p D O n u bF){l k:Nat}(I:l<9)(v:k<pw l){C f:Nat}(P:Z C)(M:Z f){j:Nat}(g:j<(aF (O l k)).length){N:Value}(G:Box1 w C j 3)(H:Box1 w f N 4):Calls prog 211 #[cI D l k, .pointer C, .pointer f] w λe L=>e= .returned (.tuple #[])/\pQ B Z (λi=>i=f) w L p D (eP O l k (jO (O l k) j)) n u l k (7*aP (O l k)+2)/\Box1 L f (.bool (aX (aF (O l k)) j)) 4:=by
 have a:=aB w (.cells #[.pointer (D.Q l k,0),l,k] 181);obtain⟨W,F⟩:∃W,W=w.alloc (.cells #[.pointer (D.Q l k,0),l,k] 181):=⟨_,rfl⟩;rw[<-F]at a;have R:=(G.below a).cell;have b:=θ ((h.below a).tDelete I v j g);have y:=θ (H.below a);have x:=θ a;have s:=θ M;clear h G H a P M I v g;unfold cI;obtain⟨r,K⟩:=Ey (aX (aF (O l k)) j);rw[K]at b⊢;clear K;obtain⟨q,J⟩:=Ey (D.Q l k);rw[J]at b F⊢;clear J;subst F;go_in;go_wp2_with fail;refine b.o.mono ?_;rintro e V ⟨rfl,t,d⟩;have c:=y.o.chg d (λv=>v.2 s.o);have m:=θ c;have T:=c.cell;have U:=c.frz;have A:=θ t;have z:=θ d;clear t d c b;go_wp2;go_end0;refine⟨rfl,⟨A.o.setBox s.o _,?_⟩,m.out.set _⟩;exact((Chg.of_below (S:=λj=>exT B Z j\/j=f) x.o).trans (z.o.mono (λj g=>Ei g)) (λj g=>Ei g)).setCell _ (Ei (Ej rfl)) _
theorem LvlM.del {O:Nat->Nat->Option ST}{L:List Nat}{k s l:Nat}(h:LvlM O L (bj0 L k) l)(c:L[k]? =some s)(n:l<9)(o:s<257):LvlM (eP O l (pth s l) (jO (O l (pth s l)) (bO L l (pth s l) k))) L (bj0 L k) (l+1)/\aF (O l (pth s l))=lvl L l (pth s l):=by
 have b:aF (O l (pth s l))=lvl L l (pth s l):=by rw[h l _ n (Di E E),bc9 E]
 refine⟨λa f j m=>?_,b⟩;by_cases e:a=l/\f=pth s l
 ·obtain⟨rfl,rfl⟩:=e;rw[cO,bd0 E,Gt (by rw[b];exact(Cz c a).1),b,Sj c,bd0 rfl]
 ·have d:a≠l\/f≠pth s l:=E;rw[eE _ _ d,h a f j m];by_cases i:a=l
  ·subst i;rw[bc9 E,bd0 E,Sj c,bc9 E]
  ·by_cases g:a<l
   ·rw[bd0 g,bd0 E]
   ·rw[bc9 g,bc9 E]
theorem Rf{B:Nat}{X:Nat->Prop}{w:World}{p:Nat}{D:WD}{O:Nat->Nat->Option ST}{L:List Nat}{g9:Int}(h:WaveE B X w p D O L.length g9 bF)(hO:lC O L)(hL:Syms L)(hn:L.length<=1000000000){H:Nat}(hH:HiO O H)(j9:H<=1000000000)(k s:Nat)(m:L[k]? =some s):Calls prog 161 #[.pointer p,k] w λe I=> e= .returned (.tuple #[s, .int .i64 0])/\∃(b:Nat->Nat->Option ST) (a:Int),0<=a/\a<=9*(8*H+4)/\WaveE B X I p D b (bj0 L k).length a bF/\lC b (bj0 L k)/\HiO b H/\Chg (exT B X) w I:=by
 have i9:=(aO2.1 m).1;have hs:s<257:=hL s (aR5 m);have a4:=aB w (.cells #[k] 3);obtain⟨W,hW⟩:∃W,W=w.alloc (.cells #[k] 3):=⟨_,rfl⟩;have b4:Box1 W w k 3:=by rw[hW];exact Box1.new w _ _
 rw[<-hW]at a4;have d6:WaveE B (λi=>X i\/i=w.heap.size) W p D O L.length g9 bF:=h.less a4 (λi n=>n.elim Ei (λe=>Ej E)) (λi n=>n.elim (λg=>aV7 (h.x i g) a4.size) (λe=>by subst e;exact b4.lt));have P:p≠w.heap.size:=by have :=h.cells.2.2.2.2;omega
 have HX:=θ h.x;have j7:=θ h.le;obtain⟨f,c9,i7,fz,hp⟩:=d6.cells;have j4:=fz 10;have kc:=b4.cell;have c8:=θ (d6.setVis 0);have f3:Hid (∀v,Box1 (W.setCell (p,10) v) w k 3):=λv=>b4.chg (S:=λj=>j=p) (Chg.refl.setCell (S:=λj=>j=p) (p,10) (Ei rfl) _) (λe=>P e.symm);have e3:=θ a4;have x0:=f 0 E;have x1:=f 1 E;have x2:=f 2 E;have x3:=f 3 E;have x4:=f 4 E;have x5:=f 5 E;have x6:=f 6 E;have x7:=f 7 E;have x8:=f 8 E;have HO:=θ hO;have e9:=θ hH;have h8:=θ hL;have HK:=θ m;have c3:=θ hn;have d0:decide ((k:Int)<0)=false:=bc0 E;have d1:decide (L.length<=k)=false:=bc0 E;have d2:decide ((L.length:Int)<=(k:Int))=false:=bc0 E;have j8:=θ P;clear h f fz hO hH hL hn d6 a4 b4 m;subst hW;go_in;go_wp2;go_quiet (fail);go_wp2_with fail;have a9:Hid (WaveE B (λi=>X i\/i=w.heap.size) (((w.alloc (.cells #[k] 3)).setCell (p,10) (.int .i64 0)).drewN nq) p D O L.length 0 bF/\Box1 (((w.alloc (.cells #[k] 3)).setCell (p,10) (.int .i64 0)).drewN nq) w k 3/\Chg (exT B X) w (((w.alloc (.cells #[k] 3)).setCell (p,10) (.int .i64 0)).drewN nq)):=
  ⟨c8.o.1.drewN nq,f3.o _,((Chg.of_below (S:=exT B X) e3.o).trans (c8.o.2.mono (λj N=>cJ (λi n=>Ei n) N)) (λj N=>Ei N)).drewN nq⟩
 generalize ((w.alloc (.cells #[k] 3)).setCell (p,10) (.int .i64 0)).drewN nq=ws at *;clear c8 f3 e3 x0 x1 x2 x3 x4 x5 x6 x7 x8 c9 i7 j4 kc d0 d1 d2 hp P;go_loopw [6,31] (λv x wr=>∃l:Nat,l<=9/\x= .int .i64 l/\v= .int .i64 (pth s l:Nat)/\∃(b:Nat->Nat->Option ST) (a:Int),0<=a/\a<=l*(8*H+4)/\WaveE B (λi=>X i\/i=w.heap.size) wr p D b L.length a bF/\LvlM b L (bj0 L k) l/\(∀l' k',l'<9->k'<pw l'->aP (b l' k')<=H)/\Box1 wr w (.int .i64 (bO L l (pth s l) k:Nat)) 3/\Chg (exT B X) w wr) (λ_ x _=>9-(intOf x).toNat);exact⟨0,E,rfl,by rw[iB E];rfl,O,0,E,Es,a9.o.1,LvlM.start HO.o,e9.o,by rw[iB E,mY h8.o.lt k E];exact a9.o.2.1,a9.o.2.2⟩;as_aux_lemma=>
  clear a9 HO e9;obtain⟨l,hl,rfl,rfl,b,a,b6,a7,hE,hM,a3,J,hC⟩:=hrel;by_cases d:l<9
  ·have k0:∀w:World,(Instr.index 176 (.agg #[D.row 0,D.row 1,D.row 2,D.row 3,D.row 4,D.row 5,D.row 6,D.row 7,D.row 8]) (.int .i64 (l:Int))).run prog w= .ok (.slice (D.G l,0) (pw l) (D.C l)) w:=sL D d;have y:=sR hs d;have j1:=yW d;obtain⟨r0,r1,r2⟩:=hE.shelf d y;obtain⟨b2,K⟩:=hM.del HK.o d hs;obtain⟨g1,g2⟩:=Cz HK.o l;have d4:=a3 l (pth s l) d y;have g7:a<=9*(8*(H:Int)+4):=by
    have h1:(l:Int)*(8*(H:Int)+4)<=9*(8*(H:Int)+4):=aK1 E E;omega
   have b1:=(Gv (o:=b l (pth s l)) (k:=bO L l (pth s l) k) (hE.tGood d y).1 (by rw[K];exact g1)).2;obtain⟨c,b8⟩:=Ey (pth s l);obtain⟨bt,b3⟩:=Ey (dN s l);obtain⟨z,d8⟩:=Ey (bO L l (pth s l) k);have P:2*c+rX bt=pth s (l+1):=by rw[<-b8,<-b3,iY d]
   have d9:aM (aF (b l c)) z bt=bO L (l+1) (pth s (l+1)) k:=by
    rw[<-b8,<-b3,<-d8,K,lU L d,iY d]
   rw[d8]at b2 g1 g2 J b1;rw[b3]at g2;rw[b8]at b2 K d4 b1 y r0 r1 r2 g1 g2⊢;rw[<-K]at g1 g2;have g5:=tW (l:=aF (b l c)) (k:=z) E;obtain⟨on,b5⟩:=Ey (aM (aF (b l c)) z true);rw[b5]at g5;have g3:bt=true->(on:Nat)=bO L (l+1) (pth s (l+1)) k:=λh=>by rw[<-d9,h,b5]
   have g4:bt=false->(z:Int)-(on:Int)=(bO L (l+1) (pth s (l+1)) k:Nat):=λh=>by
    rw[<-d9,h];omega
   obtain⟨wa,b7⟩:∃wa,wa=wr.alloc (.cells #[.pointer (D.Q l c,0),l,c] 181):=⟨_,rfl⟩;obtain⟨wb,a8⟩:∃wb,wb=wa.alloc (.cells #[.bool false] 4):=⟨_,rfl⟩;have sa:wa.heap.size=wr.heap.size+1:=by rw[b7];simp
   have ba:Below wr wr wa:=by rw[b7];exact aB wr _
   have bb:Below wa wa wb:=by rw[a8];exact aB wa _
   have r:Below wr wr wb:=ba.trans (bb.mono ba.size);have d3:Box3 wb wr (.pointer (D.Q l c,0)) (.int .i64 l) (.int .i64 c) 181:=(Chg.of_below (S:=λ_=>False) bb).heap (by rw[b7];exact bc6 wr _) id;have a1:Box1 wb (wr.heap.size+1) (.bool false) 4:=by rw[a8,<-sa];exact Box1.new wa _ _
   have g6:=J.lt;have d7:WaveE B (λi=>(X i\/i=w.heap.size)\/(i=wr.heap.size\/i=wr.heap.size+1)) wb p D b L.length a bF:=hE.less r (λi n=>n.elim Ei (λg=>Ej E)) (λi n=>n.elim (λg=>aV7 (hE.x i g) r.size) (λg=>by have :=a1.lt;omega));have i6:=θ d7;have R:=θ a1;have e4:=θ d3;have T:=θ (J.below r);have e6:Hid (Chg (exT B X) w wb):=hC.trans (Chg.of_below (S:=exT B X) r) (λj N=>Ei N);have f4:=θ g6;have i2:=θ hE.cells.2.2.2.2;have c7:Hid (Calls prog 159 #[.pointer p,cI D l c,z, .bool true] wb λe b9=>
     e= .returned (.int .i64 (on:Nat))/\∃v':Nat,v'<=aP (b l c)+1/\WaveE B (λi=>(X i\/i=w.heap.size)\/(i=wr.heap.size\/i=wr.heap.size+1)) b9 p D b L.length (a+v') bF/\Chg (exT B (λi=>(X i\/i=w.heap.size)\/(i=wr.heap.size\/i=wr.heap.size+1))) wb b9):=by
    have :=Ex d7 d y ⟨b6,E⟩ E (z:Int) true;rw[aK5,b5]at this;exact this
   have a0:Hid (∀I,Calls prog 160 #[cI D l c, .bool bt] I λe b9=>e= .returned (.int .i64 (pth s (l+1):Nat))/\Below I I b9):=λI=>by
    have :=wNext D (l:=l) (k:=c) E bt I;rw[P]at this;exact this
   have c6:Hid (∀(w1:World) (v1:Nat),v1<=aP (b l c)+1->WaveE B (λi=>(X i\/i=w.heap.size)\/(i=wr.heap.size\/i=wr.heap.size+1)) w1 p D b L.length (a+v1) bF->Box1 w1 w z 3->Box1 w1 (wr.heap.size+1) (.bool false) 4->
     Calls prog 156 #[.pointer p,cI D l c, .func (.func 211) #[] #[.pointer w, .pointer (wr.heap.size+1,0)]] w1 λe I=>
      e= .returned (.tuple #[])/\∃v:Nat,v<=7*aP (b l c)+2/\WaveE B (λi=>(X i\/i=w.heap.size)\/(i=wr.heap.size\/i=wr.heap.size+1)) I p D (eP b l c (jO (b l c) z)) L.length (a+v1+v) bF/\Chg (λj=>exT B (λi=>(X i\/i=w.heap.size)\/(i=wr.heap.size\/i=wr.heap.size+1)) j\/j=wr.heap.size+1) w1 I/\Box1 I (wr.heap.size+1) (.bool bt) 4):=λw1 v1 a7 h1 h2 h3=>by
    refine Ev h1 d y ⟨E,E⟩ (M:=7*aP (b l c)+2) E (Y:=λi=>i=wr.heap.size+1) (λi e=>Ej (Ej e)) _ _ _ (enters_of func211 Ek rfl) (λI=>Box1 I (wr.heap.size+1) (.bool bt) 4) (λw1 w2 hb hc=>hb.chg hc (λe=>by have :=i2.o;omega)) (λw0 Z g0 hb i8=>?_);have :=wDel1 i8 d y (g0 _ (Ei (Ej rfl))) (g0 _ (Ej (Ej rfl))) g1 (h2.below hb) (h3.below hb);rw[g2]at this;exact this
   have h9:=θ b2;have h6:=θ b1;have c5:=θ a3;have e8:=θ d4;have i3:=θ b6;have i4:=θ a7;have i0:(0:Int)<=(c:Int):=E;have i1:(c:Int)<((pw l:Nat):Int):=E;have j5:z<=1000000000:=by
    have h1:(aF (b l c)).length<=L.length:=by rw[K];unfold lvl;rw[aP7];exact aP6 _ _
    have :=c3.o;omega
   have j6:on<=z:=E;obtain⟨e0,e1,e2⟩:=d3.cells;have g8:=T.o.cell;have j2:=J.cell;have h0:=θ g3;have h4:=θ g4;clear hE hM J hC K g1 g2 d4 g7 b6 a7 d8 b8 b3 d9 P sa ba bb r d3 a1 g6 d7 y j1 b1 a3 b2 g5 b5 g3 g4;unfold cI at c6 c7 a0;generalize D.Q l c=q at *;generalize D.G l=g at *;generalize D.C l=gc at *;subst b7;rw[a8]at g8;go_wp2_with fail;rw[<-a8];refine c7.o.mono ?_;rintro e w2 ⟨rfl,v1,a7,f8,a2⟩;have A:=Box3.chg e4.o a2 (λm=>m.2 (Ej (Ei rfl)));have t:=R.o.chg a2 (λm=>m.2 (Ej (Ej rfl)));have a6:=T.o.chg a2 (λm=>m.2 (Ei (Ej rfl)));have V:=θ (c6.o w2 v1 a7 f8 a6 t);have c0:=θ A;have U:=θ a6;have f6:Hid (Chg (exT B X) w w2):=e6.o.trans a2 (λj N=>Ei (cJ (λi n=>Ei (Ei n)) N));obtain⟨f0,f1,f2⟩:=A.cells;clear f8 a2 A t a6 c7 e4 R T e6 e0 e1 e2 g8 j2 a8 c6 i6;go_wp2_with fail;refine V.o.mono ?_;rintro e w3 ⟨rfl,v2,k1,f9,b0,d5⟩;have A:=Box3.chg c0.o b0 (λm=>m.elim (λm=>m.2 (Ej (Ei rfl))) (λe=>E));have c4:=U.o.chg b0 (λm=>m.elim (λm=>m.2 (Ei (Ej rfl))) (λe=>by have :=f4.o;omega));have f5:=θ d5;have e5:=θ A;have c2:=θ c4;have e7:=θ f9;have f7:Hid (Chg (exT B X) w w3):=f6.o.trans b0 (λj N=>N.elim (λh=>Ei (cJ (λi n=>Ei (Ei n)) h)) (λe=>by right;have :=f4.o;omega));obtain⟨y0,y1,y2⟩:=A.cells;have j3:=d5.cell;clear f9 b0 d5 A c4 V c0 U f6 f0 f1 f2;go_wp2_with fail;refine(a0.o _).mono ?_;rintro e w4 ⟨rfl,a5⟩;have F:=c2.o.below a5;have t:=f5.o.below a5;have k6:=t.cell;have k4:=F.cell;have k5:=F.frz;have h7:=θ F;have h5:=θ (e7.o.below a5);have i5:Hid (Chg (exT B X) w w4):=f7.o.trans (Chg.of_below (S:=exT B X) a5) (λj N=>Ei N);clear F t a5 f5 e5 c2 e7 f7 y0 y1 y2 j3 a0;have c1:Hid (∀u:Value,0<=a+(v1:Int)+(v2:Int)/\a+(v1:Int)+(v2:Int)<=((l+1:Nat):Int)*(8*H+4)/\WaveE B (λi=>X i\/i=w.heap.size) (w4.setCell w u) p D (eP b l c (jO (b l c) z)) L.length (a+v1+v2) bF/\LvlM (eP b l c (jO (b l c) z)) L (bj0 L k) (l+1)/\(∀l' k',l'<9->k'<pw l'->aP (eP b l c (jO (b l c) z) l' k')<=H)/\Box1 (w4.setCell w u) w u 3/\Chg (exT B X) w (w4.setCell w u)):=λu=>by
    refine⟨by have :=i3.o;omega,?_,(h5.o.mono (λi n=>Ei n)).chg (Z:=λj=>j=w.heap.size) (Chg.refl.setCell (S:=λj=>j=w.heap.size) (w,0) (Ei rfl) _) (λk m _ e=>m.2 (Ej e)),h9.out,λl' k' g1 g2=>?_,h7.o.set _,i5.o.setCell _ (Ej (aV3 _)) _⟩
    ·have e:((l+1:Nat):Int)*(8*(H:Int)+4)=(l:Int)*(8*(H:Int)+4)+(8*(H:Int)+4):=by push_cast;rw[Int.add_mul];omega
     rw[e];have h1:=i4.o;have h2:=e8.o;omega
    ·by_cases e:l'=l/\k'=c
     ·obtain⟨rfl,rfl⟩:=e;rw[cO];have h2:=e8.o;have h3:=h6.o;omega
     ·rw[eE _ _ E];exact c5.o l' k' g1 g2
   cases bt
   ·have k2:IntKind.i64.wrap ((z:Int)-(on:Int))=(z:Int)-(on:Int):=aK8 _ E;go_wp2;go_roundw;case rel=>
     have hg:=h4.o Es;rw[hg];exact⟨l+1,E,by go_num,rfl,_,_,c1.o _⟩
    case measure=>simp[intOf];omega
   ·go_wp2;go_roundw;case rel=>
     have hg:=h0.o Es;rw[hg];exact⟨l+1,E,by go_num,rfl,_,_,c1.o _⟩
    case measure=>simp[intOf];omega
  ·obtain rfl:l=9:=E;have j0:=qF s;have HC:=θ hC;have HE:=θ hE;have HM:=θ hM;have c5:=θ a3;obtain⟨_,c9,_,fz,_⟩:=hE.cells;have z9:=fz 9;have k3:IntKind.i64.wrap ((L.length:Int)-1)=(L.length:Int)-1:=aK8 _ (by have :=c3.o;omega);have HN:Hid ((L.length:Int)-1=((bj0 L k).length:Nat)):=by show _=_;rw[fN i9];omega
   clear hC hE hM a3 J fz;go_wp2;go_ret2;rw[HN.o];refine⟨by rw[j0];rfl,b,a,b6,E,((HE.o.mono (λi n=>Ei n)).setN (bj0 L k).length).1,HM.o.fin,c5.o,HC.o.trans ((HE.o.mono (λi n=>Ei n)).setN (bj0 L k).length).2 (λj N=>Ei N)⟩
def Wv(B:Nat)(X:Nat->Prop)(w:World)(p:Nat)(L:List Nat):Prop:=∃D O vis,WaveE B X w p D O L.length vis bF/\lC O L
section
variable {B:Nat}{X Y:Nat->Prop}{w w':World}{p:Nat}{L:List Nat}
theorem iH{D:WD}{O:Nat->Nat->Option ST}{n:Nat}{b:Int}{c:Nat->Nat->Int->Prop}(h:WaveE B X w p D O n b c):HiO O 1000000000:=λl k e d=>by
 have a:=h.tGood e d;cases ho:O l k with
 | none=>simp[aP]
 | some t=>rw[ho]at a;have :=jI a.1.2 a.2;simp only[aP];omega
theorem Wv.less (h:Wv B X w p L)(c:Below w w w')(e:∀k,Y k->X k\/w.heap.size<=k)(d:∀k,Y k->k<w'.heap.size):Wv B Y w' p L:=by
 obtain⟨D,O,v,a,b⟩:=h;exact⟨D,O,v,a.less c e d,b⟩
theorem Wv.mono (h:Wv B X w p L)(c:∀k,Y k->X k):Wv B Y w p L:=by
 obtain⟨D,O,v,a,b⟩:=h;exact⟨D,O,v,a.mono c,b⟩
theorem Wv.chg {Z:Nat->Prop}(h:Wv B X w p L)(c:Chg Z w w')(d:∀k,exT B X k->k<w.heap.size->¬Z k):Wv B X w' p L:=by
 obtain⟨D,O,v,a,b⟩:=h;exact⟨D,O,v,a.chg c d,b⟩
theorem Wv.le (h:Wv B X w p L):B<=w:=by obtain⟨D,O,v,a,b⟩:=h;exact a.le
theorem wvGet(h:Wv B X w p L)(f:Syms L)(i:L.length<=1000000000)(k s:Nat)(g:L[k]? =some s):Calls prog 102 #[.pointer p,k] w λe w'=>e= .returned (.tuple #[s, .int .i64 0])/\Wv B X w' p L/\Chg (exT B X) w w':=by
 obtain⟨D,O,v,a,b⟩:=h;refine(Oo a b f i (iH a) (aV3 _) k s g).mono ?_;rintro e w' ⟨rfl,j,_,_,c,d⟩;exact⟨rfl,⟨D,O,j,c,b⟩,d⟩
theorem wvRank(h:Wv B X w p L)(f:Syms L)(g:L.length<=1000000000)(k:Int)(s:Nat)(i:s<257):Calls prog 175 #[.pointer p,k,s] w λe w'=>e= .returned (bB L k.toNat s:Int)/\Wv B X w' p L/\Chg (exT B X) w w':=by
 obtain⟨D,O,v,a,b⟩:=h;refine(Ir a b f g (iH a) (aV3 _) k s i).mono ?_;rintro e w' ⟨rfl,j,_,_,c,d⟩;exact⟨rfl,⟨D,O,j,c,b⟩,d⟩
theorem az3(h:Wv B X w p L)(a:BitTab w)(b:0<B)(i:Syms L)(k:L.length<=1000000000)(j:Int)(s:Nat)(l:s<257):Calls prog 125 #[.pointer p,j,s] w λe w'=>e= .returned (kG L j s:Int)/\Wv B X w' p L/\Chg (exT B X) w w':=by
 obtain⟨D,O,v,c,d⟩:=h;refine(Ri c a b d i k (iH c) (aV3 _) j s l).mono ?_;rintro e w' ⟨rfl,m,f,g⟩;exact⟨rfl,⟨D,O,m,f,d⟩,g⟩
theorem Oz(h:Wv B X w p L)(j:Syms L)(l:L.length<=1000000000)(k s:Nat)(b:k<=L.length)(m:s<257):Calls prog 170 #[.pointer p,k,s] w λe w'=>e= .returned (.int .i64 0)/\Wv B X w' p (inL L k s)/\Chg (exT B X) w w':=by
 obtain⟨D,O,v,a,d⟩:=h;refine(Rg a d j l (iH a) (aV3 _) k s b m).mono ?_;rintro e w' ⟨rfl,c,n,_,_,f,g,_,i⟩;exact⟨rfl,⟨D,c,n,by rw[iK b];exact f,g⟩,i⟩
theorem az2(h:Wv B X w p L)(i:Syms L)(l:L.length<=1000000000)(k s:Nat)(j:L[k]? =some s):Calls prog 161 #[.pointer p,k] w λe w'=>e= .returned (.tuple #[s, .int .i64 0])/\Wv B X w' p (bj0 L k)/\Chg (exT B X) w w':=by
 obtain⟨D,O,v,a,c⟩:=h;refine(Rf a c i l (iH a) (aV3 _) k s j).mono ?_;rintro e w' ⟨rfl,b,m,_,_,d,f,_,g⟩;exact⟨rfl,⟨D,b,m,d,f⟩,g⟩
theorem wvLen(h:Wv B X w p L):Calls prog 118 #[.pointer p] w λe w'=>e= .returned L.length/\w=w':=by
 obtain⟨D,O,v,a,b⟩:=h;exact ay7 a
theorem wvAll(h:Wv B X w p L)(k:Syms L)(l:L.length<=1000000000):Calls prog 143 #[.pointer p] w λe w'=> ∃g,e= .returned (.slice (some ⟨g,0,none⟩) L.length L.length)/\w.heap.size<=g/\RowC w' g (L.map wsV) 3/\Wv B (λi=>X i\/i=g) w' p L/\Chg (exT B X) w w':=by
 obtain⟨D,O,v,a,b⟩:=h;refine(ay6 a b k l (iH a) (aV3 _)).mono ?_;rintro e w' ⟨g,rfl,c,d,f,j⟩;exact⟨g,rfl,c,d,⟨D,O,v,f,b⟩,j⟩
def dC(L:List Nat)(l:Nat):List (List Bool):=(List.range l).flatMap (λl=>((List.range (pw l)).map (lvl L l)).filter (λb=>decide (0<b.length)))
theorem Ie{O:Nat->Nat->Option ST}(h:lC O L):(gR O 9).map aF=dC L 9:=by
 have a:∀l,l<=9->(gR O l).map aF=dC L l:=by
  intro l i;induction l with
  | zero=>rfl
  | succ l g=>
   have e:dC L (l+1)=dC L l++((List.range (pw l)).map (lvl L l)).filter (λb=>decide (0<b.length)):=by
    unfold dC;rw[aS9,aN2];simp
   rw[xU,aQ2,g E,e];congr 1;unfold shL;have c:(List.range (pw l)).map (lvl L l)=((List.range (pw l)).map (O l)).map aF:=by
    rw[aQ6];apply aQ3;intro k d;exact(h l k E (aR8.1 d)).symm
   rw[c];exact(List.filter_map (f:=aF) (p:=λb:List Bool=>decide (0<b.length)) (l:=(List.range (pw l)).map (O l))).symm
 exact a 9 (aV3 _)
theorem wvNew{a:Option Addr}{c:Nat}(L:List Nat)(i:ReadsV w a (L.map wsV))(g:Syms L)(h:L.length<=1000000):Calls prog 146 #[.slice a L.length c] w λe w'=>∃p,e= .returned (.tuple #[.pointer (some ⟨p,0,none⟩), .int .i64 0])/\Wv w (λ_=>False) w' p L/\Below w w w':=by
 refine(ai9 L i g h).mono ?_;rintro e w' ⟨p,D,O,rfl,b,d,f⟩;exact⟨p,rfl,⟨D,O,0,b,d⟩,f⟩
theorem Wv.base {b:Nat}(h:Wv B X w p L)(m:b<=B):Wv b (λj=>X j\/(b<=j/\j<B)) w p L:=by
 obtain⟨D,O,v,⟨⟨S,f,d⟩,i,l⟩,c⟩:=h;refine⟨D,O,v,⟨⟨S,f,λj g=>?_⟩,E,λk a=>?_⟩,c⟩
 ·have :=d j g;exact⟨by have :=this.1;omega,λa=>a.elim this.2 (λe=>by have :=this.1;omega)⟩
 ·rcases a with a | a
  ·exact l k a
  ·omega
end
def yY(xs ys:List Int):Bool:=decide (xs=ys)
theorem Of{a b:List Int}{k:Nat}(d:k<a.length)(e:k<b.length)(h:a.take k=b.take k)(c:a[k]?.getD 0=b[k]?.getD 0):a.take (k+1)=b.take (k+1):=by
 rw[aT5,aT5,h,aO0 d,aO0 e];rw[aO0 d,aO0 e]at c;simp only[aY3]at c;rw[c]
theorem Mv(a b:Option Addr)(c d:Nat)(f g:List Int)(w:World)(D:Reads w .i64 a f)(F:Reads w .i64 b g)(O:f.length<=9223372036854775806):Calls prog 17 #[.slice a f.length c, .slice b g.length d] w λe I=>e= .returned (.bool (yY f g))/\∃n,I=w.drewN n:=by
 by_cases l:f.length=g.length
 ·have q:((f.length:Int) != (g.length:Int))=false:=by simp[l]
  have u:=θ l;rw[<-l]at q⊢;clear l;go_in;go_wp2;go_loopw [5] (λi wr=>∃k:Nat,k<=f.length/\i= .int .i64 k/\f.take k=g.take k/\∃n,wr=w.drewN n) (λi _=>f.length-(intOf i).toNat);exact⟨0,aY1 _,rfl,rfl,0,rfl⟩;case round=>
   obtain⟨k,N,rfl,C,P,rfl⟩:=hrel;have B:=θ C;clear C;by_cases r:k<f.length
   ·obtain⟨J,Q,rfl,_,m⟩:=D.some E;obtain⟨K,R,rfl,_,p⟩:=F.some (by have :=u.o;omega);have L:=m k r;have M:=p k (by have :=u.o;omega);clear m p D F;have A:Hid ((f[k]?.getD 0=g[k]?.getD 0->f.take (k+1)=g.take (k+1))/\(f[k]?.getD 0≠g[k]?.getD 0->yY f g=false)):=
     ⟨λz=>Of r (by have :=u.o;omega) B.o z,λs=>bc0 λz=>s (by rw[z])⟩
    generalize f[k]?.getD 0=x at *;generalize g[k]?.getD 0=y at *;have G:(0:Int)<=(k:Int):=E;have H:(k:Int)<(f.length:Int):=E;by_cases j:x=y
    ·subst j;go_wp2;go_quiet (fail);go_wp2;go_roundw;exact⟨k+1,E,Es,A.o.1 (by trivial),_,rfl⟩;simp[intOf];omega
    ·have s:(x != y)=true:=by simp[j]
     have v:Hid (yY f g=false):=A.o.2 j;clear j;go_wp2;go_quiet (fail);go_wp2;go_ret;exact⟨dO v.o.symm,_,bb0 _ _ _⟩
   ·obtain rfl:k=f.length:=E;have v:Hid (yY f g=true):=bc2 (by
     have :=B.o
     rwa[aT8,u.o,aT8]at this)
    go_wp2;go_ret;exact⟨dO v.o.symm,_,rfl⟩
 ·have q:((f.length:Int) != (g.length:Int))=true:=by rw[bne_iff_ne];omega
  have t:yY f g=false:=bc0 λh=>l (by rw[h]);rw[t];clear t l;go_in;go_wp2;go_ret;exact⟨rfl,0,rfl⟩
theorem Qc(a b:Option Addr)(n m c d:Nat)(f g:List Int)(w:World)(l:Reads w .i64 a f)(o:Reads w .i64 b g)(j:n=f.length)(i:m=g.length)(h:f.length<=9223372036854775806):Calls prog 17 #[.slice a n c, .slice b m d] w λe p=>e= .returned (.bool (yY f g))/\∃k,p=w.drewN k:=by
 subst j;subst i;exact Mv a b c d f g w l o h
theorem readsN{w:World}{a:Option Addr}{L:List Nat}(h:ReadsV w a (L.map wsV)):Reads w .i64 a (L.map Int.ofNat):=by
 intro i e;rw[aP7]at e;obtain⟨b,d,g,c,k⟩:=h i (by rw[aP7];exact e);refine⟨b,d,g,c,λj f=>k j _ ?_⟩;rw[aP7]at f;rw[aO3,aO3,aO0 f];rfl
theorem vC{L:List Nat}{a:List (Option ST)}(h:a.map aF=dC L 9):a.length=(dC L 9).length:=by
 rw[<-h,aP7]
theorem Sp(L:List Nat):(dC L 9).length<=511:=by
 have a:∀l,l<=9->(dC L l).length<=pw l-1:=by
  intro l;induction l with
  | zero=>intro _;simp[dC]
  | succ l c=>
   intro i;have e:dC L (l+1)=dC L l++((List.range (pw l)).map (lvl L l)).filter (λb=>decide (0<b.length)):=by
    unfold dC;rw[aS9,aN2];simp
   have d:=c E;have f:(((List.range (pw l)).map (lvl L l)).filter (λb=>decide (0<b.length))).length<=pw l:=
    aV4 (aP6 _ _) Es
   have g:pw (l+1)=2*pw l:=by unfold pw;rw[aW8];omega
   have h:=Mi l;rw[e,aP3];omega
 have :=a 9 (aV3 _);exact this
section
variable {B:Nat}{X Y:Nat->Prop}{w w':World}{p:Nat}{L:List Nat}
theorem Wv.aside {Z:Nat->Prop}(h:Wv B X w p L)(d:Chg Z w w')(m:∀k,exT B X k->k<w.heap.size->¬Z k):Wv B (λk=>X k\/(w.heap.size<=k/\k<w'.heap.size)) w' p L:=by
 obtain⟨D,O,v,h,f⟩:=h;obtain⟨S,b,c⟩:=h.i;refine⟨D,O,v,⟨⟨S,b.chg d (λk a=>m k (c k a) (b.lt k a)),λj e=>⟨(c j e).1,λl=>l.elim (c j e).2 (λg=>by have :=b.lt j e;omega)⟩⟩,aV4 h.le d.size,?_⟩,f⟩;rintro k (a | a)
 ·exact aV7 (h.x k a) d.size
 ·exact a.2
theorem Wv.xlt (h:Wv B X w p L){k:Nat}(a:X k):k<w:=by
 obtain⟨D,O,v,h,b⟩:=h;exact h.x k a
end
structure W3 (B:Nat) (K:Nat->Prop) (w:World) (pa:Nat) (La:List Nat) (pb:Nat) (Lb:List Nat) (pc:Nat) (Lc:List Nat):Prop where
 ex:∃Xa Xb Xc:Nat->Prop,Wv B Xa w pa La/\Wv B Xb w pb Lb/\Wv B Xc w pc Lc/\(∀k,B<=k->k<w.heap.size->(Xa k\/Xb k)/\(Xa k\/Xc k)/\(Xb k\/Xc k))/\∀k,K k->Xa k/\Xb k/\Xc k
section
variable {B:Nat}{K:Nat->Prop}{w w':World}{pa pb pc:Nat}{La Lb Lc:List Nat}
end
def TAt(B:Nat)(w:World)(p:Nat)(t:Tl):Prop:=IsTally w p t/\B<=p
theorem aH7{w:World}(l:List Int){a:Option Addr}{c n:Nat}(h:Reads w .i64 a l)(i:n=l.length)(j:∀x∈l,0<=x/\x<257)(b:l.length<=2147483648):Calls prog 136 #[.slice a n c] w λe d=>∃p,e= .returned (.tuple #[.pointer (some ⟨p,0,none⟩), .int .i64 0])/\TAt w d p (Tl.of l)/\Below w w d:=by
 subst i;refine(Im h j b).mono ?_;rintro e d ⟨rfl,f,g⟩;exact⟨_,rfl,⟨f,aV3 _⟩,g⟩
def t8:Tl:=Tl.of [0,5,5,256]
structure WkP (B:Nat) (X:Nat->Prop) (w:World) (p pw pt:Nat) (L:List Nat) (T:Tl):Prop where
 hd:w.heap[p]? =some (.cells #[.pointer pw, .pointer pt] 139 (0,0))
 v:Wv B (λk=>X k\/k=p\/k=pt) w pw L
 t:IsTally w pt T
 ep:exT B X p
 et:exT B X pt
 ne:p≠pt
 sy:Syms L
def WkT(B:Nat)(X:Nat->Prop)(w:World)(p:Nat)(L:List Nat)(T:Tl):Prop:=∃pw pt,WkP B X w p pw pt L T
section
variable {B:Nat}{X Y:Nat->Prop}{w w':World}{p pw pt:Nat}{L L':List Nat}{T T':Tl}
theorem WkT.le (h:WkT B X w p L T):B<=w:=by obtain⟨pw,pt,h⟩:=h;exact h.v.le
theorem WkT.ok (h:WkT B X w p L T):T.Ok:=by obtain⟨pw,pt,h⟩:=h;exact h.t.ok
theorem WkT.sy (h:WkT B X w p L T):Syms L:=by obtain⟨pw,pt,h⟩:=h;exact h.sy
theorem WkT.xlt (h:WkT B X w p L T){k:Nat}(a:X k):k<w:=by obtain⟨pw,pt,h⟩:=h;exact h.v.xlt (Ei a)
theorem WkP.cells (h:WkP B X w p pw pt L T):w.cell? p=some (.pointer pw)/\w.cell? (p,1)=some (.pointer pt):=
 ⟨bb8 w p 0 _ _ _ h.hd,bb8 w p 1 _ _ _ h.hd⟩
theorem WkP.step (h:WkP B X w p pw pt L T)(d:Wv B (λk=>X k\/k=p\/k=pt) w' pw L')(c:Syms L')(b:Chg (exT B (λk=>X k\/k=p\/k=pt)) w w'):WkP B X w' p pw pt L' T/\Chg (exT B X) w w':=
 ⟨⟨b.heap h.hd (λa=>a.2 (Ej (Ei rfl))),d,h.t.chg b (λa=>a.2 (Ej (Ej rfl))),h.ep,h.et,h.ne,c⟩,b.mono (λk a=>⟨a.1,λe=>a.2 (Ei e)⟩)⟩
theorem WkP.aside {Z:Nat->Prop}(h:WkP B X w p pw pt L T)(c:Chg Z w w')(d:∀k,exT B X k->k<w.heap.size->¬Z k):WkP B (λk=>X k\/(w.heap.size<=k/\k<w'.heap.size)) w' p pw pt L T:=by
 have f:=(aJ2.1 h.hd).1;have i:=h.t.lt;refine⟨c.heap h.hd (d p h.ep f),(h.v.aside c (λk a e=>d k ⟨a.1,λb=>a.2 (Ei b)⟩ e)).mono (λk a=>?_),h.t.chg c (d pt h.et i),⟨h.ep.1,λb=>b.elim h.ep.2 (λg=>E)⟩,⟨h.et.1,λb=>b.elim h.et.2 (λg=>E)⟩,h.ne,h.sy⟩;rcases a with (a | a) | a | a
 ·exact Ei (Ei a)
 ·exact Ej a
 ·exact Ei (Ej (Ei a))
 ·exact Ei (Ej (Ej a))
theorem WkP.mono (h:WkP B X w p pw pt L T)(c:∀k,Y k->X k):WkP B Y w p pw pt L T:=
 ⟨h.hd,h.v.mono (λk d=>d.elim (λa=>Ei (c k a)) Ej),h.t,⟨h.ep.1,λb=>h.ep.2 (c p b)⟩,⟨h.et.1,λb=>h.et.2 (c pt b)⟩,h.ne,h.sy⟩
theorem WkP.below (h:WkP B X w p pw pt L T)(a:Below w w w'):WkP B X w' p pw pt L T:=
 (h.aside (Z:=λ_=>False) (Chg.of_below a) (λ_ _ _ b=>b)).mono (λk c=>Ei c)
theorem WkT.aside {Z:Nat->Prop}(h:WkT B X w p L T)(a:Chg Z w w')(b:∀k,exT B X k->k<w.heap.size->¬Z k):WkT B (λk=>X k\/(w.heap.size<=k/\k<w'.heap.size)) w' p L T:=by
 obtain⟨pw,pt,h⟩:=h;exact⟨pw,pt,h.aside a b⟩
theorem WkT.mono (h:WkT B X w p L T)(a:∀k,Y k->X k):WkT B Y w p L T:=by
 obtain⟨pw,pt,h⟩:=h;exact⟨pw,pt,h.mono a⟩
theorem WkT.below (h:WkT B X w p L T)(a:Below w w w'):WkT B X w' p L T:=by
 obtain⟨pw,pt,h⟩:=h;exact⟨pw,pt,h.below a⟩
theorem WkT.less (h:WkT B X w p L T)(a:Below w w w')(c:∀k,Y k->X k\/(w.heap.size<=k/\k<w'.heap.size)):WkT B Y w' p L T:=
 (h.aside (Z:=λ_=>False) (Chg.of_below a) (λ_ _ _ b=>b)).mono c
theorem WkT.new {B:Nat}{f b l:World}{pw pt:Nat}(c:Wv B X f pw L)(n:Syms L)(i:Below f f b)(h:IsTally b pt T)(q:f<=pt)(m:l=b.alloc (.cells #[.pointer pw, .pointer pt] 139)):WkT B X l b L T:=by
 subst m;have r:=h.lt;have j:=i.size;have o:=c.le;have e:=bc6 b (.cells #[.pointer pw, .pointer pt] 139);have d:=i.alloc j (.cells #[.pointer pw, .pointer pt] 139);refine⟨pw,pt,e,c.less d (Y:=λk=>X k\/k=b.heap.size\/k=pt) (λk a=>?_) (λk a=>?_),h.chg (Chg.refl.alloc (S:=λ_=>False) _) id,⟨E,λg=>?_⟩,⟨E,λg=>?_⟩,E,n⟩
 ·rcases a with a | rfl | rfl
  ·exact Ei a
  ·exact Ej j
  ·exact Ej q
 ·rcases a with a | rfl | rfl
  ·have :=c.xlt a;have :=d.size;omega
  ·simp
  ·simp;omega
 ·have :=c.xlt g;omega
 ·have :=c.xlt g;omega
theorem WkT.base {b:Nat}(h:WkT B X w p L T)(c:b<=B):WkT b (λj=>X j\/(b<=j/\j<B)) w p L T:=by
 obtain⟨pw,pt,h⟩:=h;refine⟨pw,pt,h.hd,(h.v.base c).mono (λk a=>?_),h.t,⟨aV4 c h.ep.1,λd=>d.elim h.ep.2 (λg=>by have :=h.ep.1;omega)⟩,⟨aV4 c h.et.1,λd=>d.elim h.et.2 (λg=>by have :=h.et.1;omega)⟩,h.ne,h.sy⟩;rcases a with (a | a) | a | a
 ·exact Ei (Ei a)
 ·exact Ej a
 ·exact Ei (Ej (Ei a))
 ·exact Ei (Ej (Ej a))
theorem yB{T:Tl}(h:T.Ok)(s:Int):0<=cC T s/\cC T s<=2147483648:=by
 unfold cC;have b:=vT h.pos (Ae s);have a:=lX h.pos (Ae s) (aV3 _);rw[h.sum]at a;have :=h.max;omega
end
theorem ag2(L:List Nat){s:Nat}(b:s<=257):cC (Tl.of (bH L)) (s:Int)=(aN (bH L) (s:Int):Int):=by
 unfold cC;rw[show iM (s:Int)=s by unfold iM;omega];exact kM (λx a=>by obtain⟨y,_,rfl⟩:=aR4.1 a;exact Int.natCast_nonneg y) s
theorem ay9{w:World}{a:Option Addr}{c:Nat}(L:List Nat)(j:ReadsV w a (L.map wsV))(i:Syms L)(A:L.length<=1000000):Calls prog 88 #[.slice a L.length c] w λe u=>∃p,e= .returned (.pointer (some ⟨p,0,none⟩))/\WkT w (λ_=>False) u p L (Tl.of (bH L))/\Below w w u:=by
 have f:=θ (wvNew (c:=c) L j i A);have l:=θ j;have h:=θ i;clear j i;go_in;go_wp2_with fail;refine f.o.mono ?_;rintro e F ⟨pw,rfl,r,g⟩;have q:=θ r;have b:=θ g;have m:=θ (aH7 (w:=F) (a:=a) (c:=c) (n:=L.length) (bH L) (readsN (l.o.below' g)) (by rw[mD]) (λx C=>by obtain⟨y,D,rfl⟩:=aR4.1 C;have :=h.o y D;show 0<=(y:Int)/\(y:Int)<257;omega) (by rw[mD];omega));clear r g f l;go_wp2_with fail;refine m.o.mono ?_;rintro e k ⟨pt,rfl,⟨t,s⟩,d⟩;have z:Hid (WkT w (λ_=>False) (k.alloc (.cells #[.pointer pw, .pointer pt] 139)) k L (Tl.of (bH L))):=θ (WkT.new q.o h.o d t s rfl);have v:Hid (Below w w (k.alloc (.cells #[.pointer pw, .pointer pt] 139))):=θ ((b.o.trans (d.mono b.o.size)).alloc (b.o.trans (d.mono b.o.size)).size _);clear t s d m q b;go_wp2;go_ret;exact⟨_,rfl,z.o,v.o⟩
section
variable {B:Nat}{X:Nat->Prop}{w:World}{p:Nat}{L:List Nat}{T:Tl}
theorem Xo(h:WkT B X w p L T):Calls prog 56 #[.pointer p] w λe d=>e= .returned L.length/\w=d:=by
 obtain⟨pw,pt,a⟩:=h;obtain⟨f,c⟩:=a.cells;have b:=θ (wvLen a.v);clear a c;go_in;go_wp2_with fail;refine Cq b.o ?_;go_wp2;go_ret;exact Er
theorem wkAll(h:WkT B X w p L T)(u:L.length<=1000000):Calls prog 85 #[.pointer p] w λe c=> ∃g,e= .returned (.slice (some ⟨g,0,none⟩) L.length L.length)/\RowC c g (L.map wsV) 3/\w.heap.size<=g/\WkT B (λk=>X k\/k=g) c p L T/\Chg (exT B X) w c:=by
 obtain⟨pw,pt,d⟩:=h;obtain⟨r,s⟩:=d.cells;have b:=θ d;have m:=θ (wvAll d.v d.sy E);clear d s;go_in;go_wp2_with fail;refine m.o.mono ?_;rintro e c ⟨g,rfl,l,f,n,j⟩;have q:Hid (WkT B (λk=>X k\/k=g) c p L T/\Chg (exT B X) w c):=θ (by
  have x:=(aJ2.1 b.o.hd).1
  have y:=b.o.t.lt
  exact⟨⟨pw,pt,j.heap b.o.hd (λa=>a.2 (Ej (Ei rfl))),n.mono (λk a=>by
   rcases a with (a | a) | a | a
   ·exact Ei (Ei a)
   ·exact Ej a
   ·exact Ei (Ej (Ei a))
   ·exact Ei (Ej (Ej a))),b.o.t.chg j (λa=>a.2 (Ej (Ej rfl))),⟨b.o.ep.1,λi=>i.elim b.o.ep.2 (λe=>E)⟩,⟨b.o.et.1,λi=>i.elim b.o.et.2 (λe=>E)⟩,b.o.ne,b.o.sy⟩,j.mono (λk a=>⟨a.1,λi=>a.2 (Ei i)⟩)⟩)
 clear n j m b r;go_wp2;go_ret;exact⟨g,rfl,f,l,q.o⟩
theorem Gf{pw pt:Nat}(h:WkP B X w p pw pt L T)(s:Int):Calls prog 126 #[.pointer p,s] w λe c=>e= .returned (cC T s:Int)/\w=c:=by
 obtain⟨b,d⟩:=h.cells;have a:=θ (Dz h.t s);clear h b;go_in;go_wp2_with fail;refine Cq a.o ?_;go_wp2;go_ret;exact Er
theorem Ov{pw pt:Nat}(h:WkP B X w p pw pt L T)(i:L.length<=1000000)(k s:Nat)(f:s<257):Calls prog 175 #[.pointer pw,k,s] w λe a=>e= .returned (bB L k s:Int)/\WkP B X a p pw pt L T/\Chg (exT B X) w a:=by
 refine(wvRank h.v h.sy E (k:Int) s f).mono ?_;rintro e a ⟨rfl,g,d⟩;obtain⟨b,c⟩:=h.step g h.sy d;exact⟨by rw[aK5],b,c⟩
theorem wpGet{pw pt:Nat}(h:WkP B X w p pw pt L T)(i:L.length<=1000000){k s:Nat}(f:L[k]? =some s):Calls prog 102 #[.pointer pw,k] w λe a=>e= .returned (.tuple #[s, .int .i64 0])/\WkP B X a p pw pt L T/\Chg (exT B X) w a:=by
 refine(wvGet h.v h.sy E k s f).mono ?_;rintro e a ⟨rfl,g,d⟩;obtain⟨b,c⟩:=h.step g h.sy d;exact⟨rfl,b,c⟩
theorem az1{pw pt:Nat}(h:WkP B X w p pw pt L T)(a:BitTab w)(b:0<B)(l:L.length<=1000000)(j:Int)(s:Nat)(i:s<257):Calls prog 125 #[.pointer pw,j,s] w λe c=>e= .returned (kG L j s:Int)/\WkP B X c p pw pt L T/\Chg (exT B X) w c:=by
 refine(az3 h.v a b h.sy E j s i).mono ?_;rintro e c ⟨rfl,k,g⟩;obtain⟨d,f⟩:=h.step k h.sy g;exact⟨rfl,d,f⟩
theorem wkS{pw pt:Nat}{a:World}(h:WkP B X a p pw pt L T)(b:Chg (exT B X) w a):a.drew.cell? p=some (.pointer pw)/\WkP B X a.drew p pw pt L T/\Chg (exT B X) w a.drew:=
 ⟨h.cells.1,h.below ⟨rfl,rfl,rfl,aV3 _,λ_ _=>rfl⟩,b.drew⟩
theorem wkSt{pw pt:Nat}{d a:World}(h:WkP B X a p pw pt L T)(c:Chg (exT B X) w d)(f:Chg (exT B X) d a):a.cell? p=some (.pointer pw)/\WkP B X a p pw pt L T/\Chg (exT B X) w a:=
 ⟨h.cells.1,h,c.trans f (λb e=>Ei e)⟩
theorem Oq(h:WkT B X w p L T){i:Int}(c:0<=i)(d:i<L.length):Calls prog 123 #[.pointer p,i] w λe b=>e= .returned (.bool true)/\w=b:=by
 have a:=θ (Xo h);clear h;go_in;go_wp2_with fail;refine Cq a.o ?_;go_wp2;go_ret;exact Er
theorem zW(h:WkT B X w p L T){i:Int}(c:0<=i)(d:i<L.length)(m:L.length<=2147483649):Calls prog 59 #[.pointer p,i] w λe f=>(∃r,e= .returned (.int .i64 r)/\IsWhich T i r)/\w=f:=by
 have g:=θ (Oq h c d);obtain⟨pw,pt,b⟩:=h;obtain⟨j,l⟩:=b.cells;have a:=θ (Xl b.t i E E);clear b j c d;go_in;go_wp2_with fail;refine Cq g.o ?_;go_wp2_with fail;refine a.o.mono ?_;rintro e f ⟨⟨r,rfl,k⟩,rfl⟩;go_wp2;go_ret;exact⟨⟨r,rfl,k⟩,rfl⟩
theorem vN(h:WkT B X w p L T){i s:Nat}(q:L[i]? =some s)(H:L.length<=1000000):Calls prog 121 #[.pointer p,i] w λe a=>e= .returned (cC T s+bB L i s:Int)/\WkT B X a p L T/\Chg (exT B X) w a:=by
 have P:=(aO2.1 q).1;have c:=h.sy s (aR5 q);have F:=θ (Oq (i:=(i:Int)) h E E);obtain⟨A,C⟩:=yB h.ok (s:Int);have z:=(mI L i s).1;obtain⟨pw,pt,y⟩:=h;obtain⟨M,N⟩:=y.cells;have D:=θ (wpGet y H q);have d:=θ (λ(a:World) (u:WkP B X a p pw pt L T)=>Gf u (s:Int));have f:=θ (λ(a:World) (u:WkP B X a p pw pt L T)=>Ov u H i s c);obtain⟨G,g⟩:=Ey (cC T (s:Int));rw[g]at d A C⊢;obtain⟨J,n⟩:=Ey (bB L i s);rw[n]at f z⊢;have I:IntKind.i64.wrap (G+(J:Int))=G+J:=aK8 _ E;clear y q N g n;go_in;go_wp2_with fail;refine Cq F.o ?_;go_wp2_with fail;refine D.o.mono ?_;rintro e Q ⟨rfl,l,j⟩;have K:=θ (wkS l j);clear l j D F M;go_upto_region 4 with fail
 refine aG (λa=>a.cell? p=some (.pointer pw)/\WkP B X a p pw pt L T/\Chg (exT B X) w a) Ek (K.o) (λb=>?_);refine rU 0 1 b ?_;refine rc 2 (λw I=>d.o w I.2.1) b ?_;refine rV 3 4 5 6 b ?_;refine rU 7 8 b ?_;refine rg 9 λS O=>?_;go_simp
 ((refine(f.o _ b.2.1).mono ?_))
 rintro e R ⟨rfl,x,v⟩;refine O.out _ _ (wkSt x b.2.2 v) ?_;intro b;try simp only[pt]
 refine rU 10 11 b ?_;refine rz ?_;obtain⟨_,m,k⟩:=b;have t:=θ m;have r:=θ k;clear m k;go_wp2;go_ret;exact⟨rfl,⟨pw,pt,t.o⟩,r.o⟩
theorem az0(h:WkT B X w p L T)(c:BitTab w)(n:0<B){i s:Nat}(Q:i<L.length)(P:s<257)(q:IsWhich T i s)(O:L.length<=1000000):Calls prog 60 #[.pointer p,i] w λe a=>e= .returned (kG L ((i:Int)-cC T s) s:Int)/\WkT B X a p L T/\Chg (exT B X) w a:=by
 have J:=θ (zW (i:=(i:Int)) h E E E);have v:=θ h.ok;have x:=θ q;obtain⟨C,D⟩:=yB h.ok (s:Int);have l:=h.le;obtain⟨pw,pt,G⟩:=h;have f:=θ (λ(a:World) (y:WkP B X a p pw pt L T)=>Gf y (s:Int));have d:=θ (λ(a:World) (y:WkP B X a p pw pt L T) (N:Chg (exT B X) w a)=>az1 y (c.below (bZ N l) n) n O ((i:Int)-cC T s) s P);have K:=θ (wkS (w:=w) G Chg.refl);obtain⟨R,m⟩:=Ey (kG L ((i:Int)-cC T s) s);rw[m]at d⊢;obtain⟨F,g⟩:=Ey (cC T (s:Int));rw[g]at f d C D;have I:IntKind.i64.wrap ((i:Int)-F)=(i:Int)-F:=aK8 _ E;clear G q m g l c;go_in;go_wp2_with fail;refine J.o.mono ?_;rintro e a ⟨⟨r,rfl,H⟩,rfl⟩;obtain rfl:=IsWhich.unique v.o H x.o;clear H;go_upto_region 4 with fail
 refine aG (λa=>a.cell? p=some (.pointer pw)/\WkP B X a p pw pt L T/\Chg (exT B X) w a) Ek (K.o) (λb=>?_);refine rV 0 1 2 3 b ?_;refine rU 4 5 b ?_;refine rt 6 b ?_;refine rc 7 (λw I=>f.o w I.2.1) b ?_;refine rU 8 9 b ?_;refine rg 10 λU M=>?_;go_simp
 ((refine(d.o _ b.2.1 b.2.2).mono ?_))
 rintro e S ⟨rfl,A,z⟩;refine M.out _ _ (wkSt A b.2.2 z) ?_;intro b;try simp only[pt]
 refine rt 11 b ?_;refine rz ?_;obtain⟨_,k,j⟩:=b;have u:=θ k;have t:=θ j;clear k j;go_wp2;go_ret;exact⟨rfl,⟨pw,pt,u.o⟩,t.o⟩
theorem Ot(h:WkT B X w p L T)(N I:Int){s lo' hi':Nat}(M:s<257)(G:(lo':Int)=min (max N 0) L.length)(H:(hi':Int)=max (min I L.length) lo')(J:L.length<=1000000):Calls prog 128 #[.pointer p,N,I,s] w λe b=>e= .returned (.tuple #[.int .i64 (cC T s+bB L lo' s), .int .i64 (cC T s+bB L hi' s)])/\WkT B X b p L T/\Chg (exT B X) w b:=by
 have v:Hid (∀w,Calls prog 122 #[s] w λe b=>e= .returned (.bool true)/\w=b):=θ (λw=>by rw[<-dD (s:=(s:Int)) E E];exact cM s w);have j:=θ (Xo h);obtain⟨D,F⟩:=yB h.ok (s:Int);have z:=(mI L lo' s).1;have A:=(mI L hi' s).1;have R:lo'<=1000000:=E;have S:hi'<=1000000:=E;have Z:=G.symm;have e2:=H.symm;obtain⟨pw,pt,K⟩:=h;have f:=θ (λ(b:World) (m:WkP B X b p pw pt L T)=>Gf m (s:Int));have k:=θ (λ(b:World) (m:WkP B X b p pw pt L T)=>Ov m J lo' s M);have l:=θ (λ(b:World) (m:WkP B X b p pw pt L T)=>Ov m J hi' s M);have Q:=θ (wkS (w:=w) K Chg.refl);obtain⟨t,n⟩:=Ey (cC T (s:Int));rw[n]at f D F⊢;obtain⟨O,c⟩:=Ey (bB L lo' s);rw[c]at k z⊢;obtain⟨P,d⟩:=Ey (bB L hi' s);rw[d]at l A⊢;have U:IntKind.i64.wrap (t+(O:Int))=t+O:=aK8 _ E;have V:IntKind.i64.wrap (t+(P:Int))=t+P:=aK8 _ E;clear K G H c d n;go_in;go_wp2_with fail;refine Cq (v.o _) ?_;go_wp2_with fail;refine Cq j.o ?_;go_wp2_with fail;refine Cq j.o ?_;go_upto_region 5 with fail
 refine aG (λb=>b.cell? p=some (.pointer pw)/\WkP B X b p pw pt L T/\Chg (exT B X) w b) Ek (Q.o) (λa=>?_);refine rU 0 1 a ?_;refine rc 2 (λw C=>f.o w C.2.1) a ?_;refine rV 3 4 5 6 a ?_;refine rV 7 8 11 12 a ?_;refine rV 14 15 16 17 a ?_;refine rU 18 19 a ?_;refine rg 9 λY y=>?_;go_simp
 ((refine(k.o _ a.2.1).mono ?_))
 rintro e W ⟨rfl,i,g⟩;refine y.out _ _ (wkSt i a.2.2 g) ?_;intro a;try simp only[pt]
 refine rt 10 a ?_;refine rc 13 (λw C=>f.o w C.2.1) a ?_;refine rg 20 λY y=>?_;go_simp
 ((refine(l.o _ a.2.1).mono ?_))
 rintro e W ⟨rfl,i,g⟩;refine y.out _ _ (wkSt i a.2.2 g) ?_;intro a;try simp only[pt]
 refine rU 21 22 a ?_;refine rt 23 a ?_;refine rz ?_;obtain⟨_,r,q⟩:=a;have x:=θ r;have u:=θ q;clear r q;go_wp2;go_ret2;exact⟨rfl,⟨pw,pt,x.o⟩,u.o⟩
end
theorem Kl{P:Program}{src dst e:TypeId}{w:World}{a:Option Addr}{c:Nat}{d:List Int}(k:P.underlying src=some (.slice e))(g:P.underlying e=some (.int .u8))(f:P.underlying dst=some .string)(h:Reads w .u8 a d):(convert src dst (.slice a d.length c)).run P w= .ok (.string (strOfNums d)) w:=by
 by_cases n:d.length=0
 ·have r:d=[]:=aM7 n;subst r;cases a with
  | none=>exact run_convert_bytes_nil w src e k g _ _ dst f
  | some m=>
   have :=run_convert_bytes_back w src dst e m c [] k g f (λj q=>absurd q Es);exact this
 ·obtain⟨b,l,rfl,_,o⟩:=h.some E;exact run_convert_bytes_arg w src e k g b l d.length c d rfl (λi p=>by rw[o i p,aN4]) dst f
end
section
open Go.Shelf
def Tryz.laysBS_ren:Go.Shelf.Ren:=⟨λ| 14=>148 | n=>n,λ| 22=>36 | 24=>3 | 29=>3 | 32=>98 | 3=>3 | 4=>4 | 35=>23 | 0=>0 | n=>n,λ| n=>n⟩
theorem Tryz.laysBS:Go.Proofs.SlLaysG2.n14 prog Tryz.laysBS_ren:={
 mixed:=Ek
 f14:=⟨Tryz.f148.name,Ed,func148.trans (bb9 some Ek)⟩
 t0:=aZ6
 a0:=bi8
 z0:=bi9
 v0:=ba4
 t3:=aZ8
 a3:=aZ0
 z3:=aZ3
 v3:=ba5
 t4:=ba1
 a4:=aZ2
 z4:=aZ5
 v4:=ba7
 t22:=ba0
 a22:=aZ1
 z22:=aZ4
 v22:=ba6
 a24:=aZ0
 z24:=aZ3
 a29:=aZ0
 z29:=aZ3
 t32:=Tryz.underlying98
 a32:=Tryz.isAgg98
 z32:=Tryz.sizeOf98
 v32:=Tryz.zeroValue98
 t35:=Tryz.underlying23
 a35:=Tryz.isAgg23
 z35:=Tryz.sizeOf23
 v35:=Tryz.zeroValue23}
def Tryz.laysIF_ren:Go.Shelf.Ren:=⟨λ| 6=>151 | n=>n,λ| 22=>36 | 23=>3 | 25=>158 | 3=>3 | 0=>0 | 4=>4 | n=>n,λ| n=>n⟩
theorem Tryz.laysIF:Go.Proofs.SlLaysH.n6 prog Tryz.laysIF_ren:={
 mixed:=Ek
 f6:=⟨Tryz.f151.name,Ed,func151.trans (bb9 some Ek)⟩
 t0:=aZ6
 a0:=bi8
 z0:=bi9
 v0:=ba4
 t3:=aZ8
 a3:=aZ0
 z3:=aZ3
 v3:=ba5
 t4:=ba1
 a4:=aZ2
 z4:=aZ5
 v4:=ba7
 t22:=ba0
 a22:=aZ1
 z22:=aZ4
 v22:=ba6
 a23:=aZ0
 z23:=aZ3
 t25:=Tryz.underlying158
 a25:=Tryz.isAgg158
 z25:=Tryz.sizeOf158
 v25:=Tryz.zeroValue158}
def Tryz.laysIns_ren:Go.Shelf.Ren:=⟨λ| 21=>99 | 27=>154 | 28=>155 | 35=>205 | 39=>230 | n=>n,λ| 22=>36 | 3=>3 | 4=>4 | 0=>0 | n=>n,λ| n=>n⟩
theorem Tryz.laysIns:Go.Proofs.Lays2.n21 prog Tryz.laysIns_ren:={
 mixed:=Ek
 f21:=func99.trans (bb9 some Ek)
 f27:=func154.trans (bb9 some Ek)
 f28:=func155.trans (bb9 some Ek)
 f35:=func205.trans (bb9 some Ek)
 f39:=func230.trans (bb9 some Ek)
 t0:=aZ6
 a0:=bi8
 z0:=bi9
 v0:=ba4
 t3:=aZ8
 a3:=aZ0
 z3:=aZ3
 v3:=ba5
 t4:=ba1
 a4:=aZ2
 z4:=aZ5
 v4:=ba7
 t22:=ba0
 a22:=aZ1
 z22:=aZ4
 v22:=ba6
 i3:=by kernel_rfl}
def Tryz.laysSF0_ren:Go.Shelf.Ren:=⟨λ| 6=>95 | 15=>131 | 14=>147 | 28=>190 | 29=>191 | 20=>196 | 21=>197 | 22=>198 | 23=>199 | 24=>200 | 25=>201 | 26=>202 | 27=>203 | 46=>227 | 47=>221 | 48=>222 | 49=>228 | 50=>229 | 57=>242 | n=>n,λ| 22=>36 | 24=>3 | 25=>98 | 3=>3 | 39=>23 | 0=>0 | 53=>74 | 55=>69 | 4=>4 | 46=>207 | 45=>206 | 50=>149 | 5=>5 | 9=>9 | 66=>231 | 70=>235 | 76=>249 | 77=>104 | n=>n,λ| n=>n⟩
theorem Tryz.laysSF0:Go.Proofs.SlLaysF0.n6 prog Tryz.laysSF0_ren:={
 mixed:=Ek
 f6:=⟨Tryz.f95.name,Ed,func95.trans (bb9 some Ek)⟩
 f14:=⟨Tryz.f147.name,Ed,func147.trans (bb9 some Ek)⟩
 f15:=func131.trans (bb9 some Ek)
 f20:=⟨Tryz.f196.name,Ed,func196.trans (bb9 some Ek)⟩
 f21:=⟨Tryz.f197.name,Ed,func197.trans (bb9 some Ek)⟩
 f22:=⟨Tryz.f198.name,Ed,func198.trans (bb9 some Ek)⟩
 f23:=⟨Tryz.f199.name,Ed,func199.trans (bb9 some Ek)⟩
 f24:=⟨Tryz.f200.name,Ed,func200.trans (bb9 some Ek)⟩
 f25:=⟨Tryz.f201.name,Ed,func201.trans (bb9 some Ek)⟩
 f26:=⟨Tryz.f202.name,Ed,func202.trans (bb9 some Ek)⟩
 f27:=⟨Tryz.f203.name,Ed,func203.trans (bb9 some Ek)⟩
 f28:=func190.trans (bb9 some Ek)
 f29:=func191.trans (bb9 some Ek)
 f46:=⟨Tryz.f227.name,Ed,func227.trans (bb9 some Ek)⟩
 f47:=func221.trans (bb9 some Ek)
 f48:=func222.trans (bb9 some Ek)
 f49:=⟨Tryz.f228.name,Ed,func228.trans (bb9 some Ek)⟩
 f50:=⟨Tryz.f229.name,Ed,func229.trans (bb9 some Ek)⟩
 f57:=⟨Tryz.f242.name,Ed,func242.trans (bb9 some Ek)⟩
 t0:=aZ6
 a0:=bi8
 z0:=bi9
 v0:=ba4
 t3:=aZ8
 a3:=aZ0
 z3:=aZ3
 v3:=ba5
 t4:=ba1
 a4:=aZ2
 z4:=aZ5
 v4:=ba7
 t5:=ba2
 a5:=Tryz.isAgg5
 z5:=Tryz.sizeOf5
 v5:=Tryz.zeroValue5
 t9:=ba3
 a9:=Tryz.isAgg9
 z9:=Tryz.sizeOf9
 v9:=Tryz.zeroValue9
 t22:=ba0
 a22:=aZ1
 z22:=aZ4
 v22:=ba6
 t25:=Tryz.underlying98
 a25:=Tryz.isAgg98
 z25:=Tryz.sizeOf98
 v25:=Tryz.zeroValue98
 t39:=Tryz.underlying23
 a39:=Tryz.isAgg23
 z39:=Tryz.sizeOf23
 v39:=Tryz.zeroValue23
 t45:=Tryz.underlying206
 a45:=Tryz.isAgg206
 z45:=Tryz.sizeOf206
 v45:=Tryz.zeroValue206
 t46:=Tryz.underlying207
 a46:=Tryz.isAgg207
 z46:=Tryz.sizeOf207
 v46:=Tryz.zeroValue207
 t50:=Tryz.underlying149
 a50:=Tryz.isAgg149
 z50:=Tryz.sizeOf149
 v50:=Tryz.zeroValue149
 t53:=Tryz.underlying74
 a53:=Tryz.isAgg74
 z53:=Tryz.sizeOf74
 v53:=Tryz.zeroValue74
 t55:=Tryz.underlying69
 a55:=Tryz.isAgg69
 z55:=Tryz.sizeOf69
 v55:=Tryz.zeroValue69
 t66:=Tryz.underlying231
 a66:=Tryz.isAgg231
 z66:=Tryz.sizeOf231
 v66:=Tryz.zeroValue231
 t70:=Tryz.underlying235
 a70:=Tryz.isAgg235
 z70:=Tryz.sizeOf235
 v70:=Tryz.zeroValue235
 t76:=Tryz.underlying249
 a76:=Tryz.isAgg249
 z76:=Tryz.sizeOf249
 v76:=Tryz.zeroValue249
 t77:=Tryz.underlying104
 a77:=Tryz.isAgg104
 z77:=Tryz.sizeOf104
 v77:=Tryz.zeroValue104}
end
def seqLt(f g:Nat->Int):Prop:=∃d,(∀e,e<d->f e=g e)/\f d<g d
theorem seqLt.irrefl {f:Nat->Int}:¬seqLt f f:=λ⟨d,_,h⟩=>E
theorem seqLt.trans {f g h:Nat->Int}(a:seqLt f g)(b:seqLt g h):seqLt f h:=by
 obtain⟨d,k,o⟩:=a;obtain⟨e,n,p⟩:=b;rcases aV9 d e with j | j | j
 ·exact⟨d,λx c=>(k x c).trans (n x E),by have :=n d j;omega⟩
 ·subst j;exact⟨d,λx c=>(k x c).trans (n x c),E⟩
 ·exact⟨e,λx c=>(k x E).trans (n x c),by have :=k e j;omega⟩
theorem seqLt.asymm {f g:Nat->Int}(a:seqLt f g):¬seqLt g f:=λb=>seqLt.irrefl (a.trans b)
theorem iG{f g:Nat->Int}:seqLt f g↔f 0<g 0\/(f 0=g 0/\seqLt (λd=>f (d+1)) (λd=>g (d+1))):=by
 constructor
 ·rintro⟨d,a,b⟩;cases d with
  | zero=>exact Ei b
  | succ d=>exact Ej ⟨a 0 E,d,λe c=>a (e+1) E,b⟩
 ·rintro(h | ⟨h,d,a,b⟩)
  ·exact⟨0,λe c=>E,h⟩
  ·refine⟨d+1,λe c=>?_,b⟩;cases e with
   | zero=>exact h
   | succ e=>exact a e E
theorem jM{l:List Int}{a b:Nat}:sufLt l a b↔seqLt (λd=>sy l (a+d)) (λd=>sy l (b+d)):=by
 constructor
 ·rintro⟨w,d,_,c,e⟩;exact⟨d,c,e⟩
 ·rintro⟨d,c,e⟩;exact⟨d+1,d,E,c,e⟩
section
variable {α:Type}
theorem kC{l:List α}{k:Nat}{x:α}(h:k<=l.length):(inL l k x).length=l.length+1:=by simp[inL];omega
theorem cA{l:List α}{k:Nat}(h:k<l.length):(bj0 l k).length+1=l.length:=by simp[bj0];omega
theorem iT{l:List α}{k:Nat}{x:α}(b:k<=l.length)(j:Nat):(inL l k x)[j]? =if j<k then l[j]? else if j=k then some x else l[j-1]? :=by
 unfold inL;rw[aN5];have a:(l.take k).length=k:=by simp;omega
 rw[a];by_cases h:j<k
 ·rw[bd0 h,bd0 h,aO6,bd0 h]
 ·rw[bc9 h,bc9 h];by_cases e:j=k
  ·subst e;simp
  ·rw[bc9 e,show j-k=(j-k-1)+1 by omega,aN8,aN9];congr 1;omega
theorem dF(l:List α){k:Nat}(b:k<l.length)(j:Nat):(bj0 l k)[j]? =if j<k then l[j]? else l[j+1]? :=by
 unfold bj0;rw[aN5];have a:(l.take k).length=k:=by simp;omega
 rw[a];by_cases h:j<k
 ·rw[bd0 h,bd0 h,aO6,bd0 h]
 ·rw[bc9 h,bc9 h,aN9];congr 1;omega
theorem Sc(l:List α){k:Nat}{x:α}(h:l[k]? =some x):inL (bj0 l k) k x=l:=by
 have b:=(aO2.1 h).1;apply aM9;intro j;have d:=cA b;rw[iT E];by_cases a:j<k
 ·rw[bd0 a,dF l b,bd0 a]
 ·rw[bc9 a];by_cases c:j=k
  ·subst c;rw[bd0 rfl,h]
  ·rw[bc9 c,dF l b,bc9 E];congr 1;omega
theorem fW(l:List α)(k:Nat)(x:α):(inL l k x).Perm (x::l):=by
 unfold inL;refine List.perm_middle.trans ?_;rw[aT6]
theorem fJ(l:List α)(i:Nat):(bj0 l i).Sublist l:=by
 unfold bj0;rw[<-List.eraseIdx_eq_take_drop_succ];exact List.eraseIdx_sublist _ _
theorem sN{a:Type}(f:α->a)(l:List α)(k:Nat)(x:α):(inL l k x).map f=inL (l.map f) k (f x):=by simp[inL,aQ8,aQ5]
theorem tS{a:Type}(f:α->a)(l:List α)(k:Nat):(bj0 l k).map f=bj0 (l.map f) k:=by simp[bj0,aQ8,aQ5]
theorem eF{l:List α}{k:Nat}{x:α}(h:l[k]? =some x):l.Perm (x::bj0 l k):=by
 have :=fW (bj0 l k) k x;rwa[Sc l h]at this
theorem Al{R:α->α->Prop}{l:List α}{k:Nat}{x:α}(h:l.Pairwise R)(d:∀i (a:i<l.length),i<k->R l[i] x)(e:∀i (a:i<l.length),k<=i->R x l[i]):(inL l k x).Pairwise R:=by
 unfold inL;rw[List.pairwise_append];refine⟨h.sublist (aU0 _ _),aS6.2 ⟨λy b=>?_,h.sublist (List.drop_sublist _ _)⟩,λy b z c=>?_⟩
 ·obtain⟨i,a,rfl⟩:=aP1 b;rw[aP5]at a;rw[aO8];exact e (k+i) E E
 ·obtain⟨i,a,rfl⟩:=aP1 b;rw[aQ1]at a;rw[aP2];rcases aR1.1 c with rfl | c
  ·exact d i E E
  ·obtain⟨j,f,rfl⟩:=aP1 c;rw[aP5]at f;rw[aO8];exact aS7.1 h i (k+j) E E E
theorem kP{D:α->Bool}:∀{a:List α},a.Pairwise (λp q=>D q=true->D p=true)->∀r (d:r<a.length),(D a[r]=true↔r<a.countP D)
 | [],_,r,d=>absurd d Es
 | x::a,h,r,d=>by
  obtain⟨e,f⟩:=aS6.1 h;rw[aL7];by_cases c:D x=true
  ·rw[bd0 c];cases r with
   | zero=>simp[c]
   | succ r=>
    have :=kP f r (by simpa using d);simp only[List.getElem_cons_succ];rw[this];omega
  ·have j:a.countP D=0:=aL8.2 (λy g b=>c (e y g b));rw[bc9 c,j];constructor
   ·intro b;exfalso;cases r with
    | zero=>exact c b
    | succ r=>
     simp only[List.getElem_cons_succ]at b;exact c (e _ (aP0 _) b)
   ·intro b;omega
end
def bQ(row gone:Nat):Nat:=if gone<row then row-1 else row
def inR(row came:Nat):Nat:=if came<=row then row+1 else row
theorem ao6{α:Type}{l:List α}{a t n:Nat}{y x:α}(f:l[n]? =some y)(d:a<l.length)(g:n≠a)(k:t<l.length):(inL (bj0 l a) t x)[inR (bQ n a) t]? =some y:=by
 have j:=cA d;rw[iT E];unfold inR bQ;have c:∀m,m=(if a<n then n-1 else n)->(bj0 l a)[m]? =some y:=by
  intro m b;rw[dF l d,<-f];by_cases h:a<n
  ·rw[bd0 h]at b;rw[bc9 E];congr 1;omega
  ·rw[bc9 h]at b;rw[bd0 E];congr 1
 generalize b:(if a<n then n-1 else n)=m;have e:=c m b.symm;by_cases h:t<=m
 ·rw[bd0 h,bc9 E,bc9 E];rw[<-e];congr 1
 ·rw[bc9 h,bd0 E];exact e
theorem sQ{α:Type}{l:List α}{a n:Nat}{y:α}(c:l[n]? =some y)(b:a<l.length)(d:n≠a):(bj0 l a)[bQ n a]? =some y:=by
 rw[dF l b];unfold bQ;rw[<-c];by_cases h:a<n
 ·rw[bd0 h,bc9 E];congr 1;omega
 ·rw[bc9 h,bd0 E]
theorem in_get{α:Type}{l:List α}{t n:Nat}{y x:α}(a:l[n]? =some y)(b:t<=l.length):(inL l t x)[inR n t]? =some y:=by
 rw[iT b];unfold inR;rw[<-a];by_cases h:t<=n
 ·rw[bd0 h,bc9 E,bc9 E];congr 1
 ·rw[bc9 h,bd0 E]
theorem Jf{α:Type}{l:List α}{t:Nat}{x:α}(a:t<=l.length):(inL l t x)[t]? =some x:=by
 rw[iT a,bc9 E,bd0 rfl]
def pvS(m:List Int)(p:Nat):Int:=sy m ((p+m.length-1)%m.length)
theorem cF{m:List Int}{q:Nat}(h:q+1<m.length):pvS m (q+1)=sy m q:=by
 unfold pvS;rw[show q+1+m.length-1=q+m.length by omega,aU4,aW1 E]
theorem fA{m:List Int}(a:IsSyms m):pvS m 0=0:=by
 have :=a.pos;unfold pvS;rw[aY0,aW1 E,a.last]
def lfC(m:List Int)(A:List Nat)(c:Int):Nat:=(List.range m.length).countP (λq=>decide (sy m q<c))+A.countP (λp=>pvS m p==c)
theorem Gq{n:Nat}{f:Nat->Bool}:∀{A:List Nat},A.Nodup->(∀p∈A,p<n)->(List.range n).countP (λq=>f q&&decide (q∈A))=A.countP f
 | [],_,_=>Es
 | x::A,h1,h2=>by
  obtain⟨c,d⟩:=aS2.1 h1;rw[jG (g:=λq=>f q&&decide (q∈A)) (h:=λq=>f x&&decide (q=x)),Gq d (λp j=>h2 p (aR2 _ j)),aL7]
  ·congr 1;cases hf:f x
   ·simp
   ·simp only[Bool.true_and,bd1];exact Ai (h2 x aR3)
  ·intro q _;by_cases e:q=x
   ·subst e;simp[c]
   ·simp[e]
  ·rintro q _ ⟨a,b⟩;simp only[aJ7,bc3]at a b;rw[b.2]at a;exact c a.2
theorem rC{m:List Int}(b:IsSyms m){A:List Nat}(e:A.Nodup)(a:∀p∈A,p<m.length){c:Int}(j:0<c):lfC m A c=(List.range m.length).countP λq=>decide (sy m q<c)||(decide (sy m q=c)&&decide (q+1∈A)):=by
 have k:=b.pos;rw[jG (g:=λq=>decide (sy m q<c)) (h:=λq=>decide (sy m q=c)&&decide (q+1∈A)) (λ_ _=>rfl) (λq _ h=>by
  simp only[aJ7,bc3]at h;omega)]
 unfold lfC;congr 1;rw[<-Gq (f:=λp=>pvS m p==c) e a,(vD m.length).countP_eq,aM0];refine aL6 (λq d=>?_);have d:=aR8.1 d;simp only[Function.comp,aJ7,bb7,bc3];rcases aV8 (q+1) m.length with h | h
 ·rw[aW1 h,cF h]
 ·obtain rfl:q=m.length-1:=E;rw[show m.length-1+1=m.length by omega,Nat.mod_self,fA b,b.last];constructor
  ·rintro⟨h,_⟩;omega
  ·rintro⟨h,_⟩;omega
def cG(l m:List Int)(i j:Nat):Nat->Int:=λd=>if j<i then sy l (j+d)else sy m (j+d)
structure InvI (l m:List Int) (i:Nat) (R:List Nat):Prop where
 perm:R.Perm (List.range m.length)
 ord:R.Pairwise λp q=>seqLt (cG l m i p) (cG l m i q)\/(p=i/\q+1=i)\/(q=i/\p+1=i)
section
variable {l m:List Int}{i:Nat}{R:List Nat}
theorem InvI.len (h:InvI l m i R):R.length=m.length:=by have :=h.perm.length_eq;simpa using this
theorem InvI.nodup (h:InvI l m i R):R.Nodup:=h.perm.nodup_iff.2 aS4
theorem InvI.lt (h:InvI l m i R){p:Nat}(a:p∈R):p<m.length:=aR8.1 (h.perm.mem_iff.1 a)
theorem InvI.find (h:InvI l m i R){p:Nat}(c:p<m.length):∃a:Nat,R[a]? =some p:=by
 obtain⟨a,b,e⟩:=aP1 (h.perm.mem_iff.2 (aR8.2 c));exact⟨a,by rw[aO0 b,e]⟩
theorem InvI.inj (h:InvI l m i R){a b p:Nat}(k:R[a]? =some p)(n:R[b]? =some p):a=b:=by
 obtain⟨g,e⟩:=aO2.1 k;obtain⟨j,f⟩:=aO2.1 n;have d:=aS7.1 h.nodup;rcases aV9 a b with c | c | c
 ·exact absurd (e.trans f.symm) (d a b g j c)
 ·exact c
 ·exact absurd (f.trans e.symm) (d b a j g c)
theorem InvI.key (h:InvI l m i R){a b p q:Nat}(f:R[a]? =some p)(g:R[b]? =some q)(c:a<b)(j:¬((p=i/\q+1=i)\/(q=i/\p+1=i))):seqLt (cG l m i p) (cG l m i q):=by
 obtain⟨d,rfl⟩:=aO2.1 f;obtain⟨e,rfl⟩:=aO2.1 g;exact(aS7.1 h.ord a b d e c).resolve_right j
theorem InvI.row (h:InvI l m i R){a b p q:Nat}(f:R[a]? =some p)(d:R[b]? =some q)(g:seqLt (cG l m i p) (cG l m i q))(j:¬((p=i/\q+1=i)\/(q=i/\p+1=i))):a<b:=by
 rcases aV9 a b with c | c | c
 ·exact c
 ·subst c;rw[f]at d;cases d;exact absurd g seqLt.irrefl
 ·exact absurd (h.key d f c (λe=>j e.symm)) g.asymm
theorem gW(a:∀j,j<i->sy l j=sy m j)(j:Nat):cG l m i j 0=sy m j:=by
 unfold cG;split
 ·rename_i h;rw[aU7];exact a j h
 ·rfl
theorem rB{j:Nat}(a:j+1≠i):(λd=>cG l m i j (d+1))=cG l m i (j+1):=by
 funext d;unfold cG;by_cases h:j<i
 ·rw[bd0 h,bd0 E,show j+(d+1)=j+1+d by omega]
 ·rw[bc9 h,bc9 E,show j+(d+1)=j+1+d by omega]
theorem xC(a:∀j,j<i->sy l j=sy m j){p q:Nat}(b:p+1≠i)(c:q+1≠i):seqLt (cG l m i p) (cG l m i q)↔sy m p<sy m q\/(sy m p=sy m q/\seqLt (cG l m i (p+1)) (cG l m i (q+1))):=by
 rw[iG,gW a,gW a,rB b,rB c]
theorem rA{j:Nat}(b:j+1≠i):cG l m (i-1) j=cG l m i j:=by
 funext d;unfold cG;by_cases h:j<i-1
 ·rw[bd0 h,bd0 E]
 ·by_cases a:j<i
  ·omega
  ·rw[bc9 h,bc9 a]
theorem Ld(a:0<i):cG l m (i-1) (i-1)=λd=>sy m (i-1+d):=by
 funext d;unfold cG;rw[bc9 E]
theorem Ix(a:0<i):(λd=>cG l m (i-1) (i-1) (d+1))=cG l m i i:=by
 rw[Ld a];funext d;unfold cG;rw[bc9 E];show sy m (i-1+(d+1))=_;congr 1;omega
theorem jU(h:InvI l m i R){a p:Nat}(b:R[a]? =some p):(List.range m.length).Perm (p::bj0 R a):=h.perm.symm.trans (eF b)
theorem cU{A:List Nat}{k p:Nat}:p∈A.take k↔∃a:Nat,a<k/\A[a]? =some p:=by
 rw[List.mem_take_iff_getElem];constructor
 ·rintro⟨a,h,e⟩;exact⟨a,E,by rw[aO0 E,e]⟩
 ·rintro⟨a,h,e⟩;obtain⟨c,b⟩:=aO2.1 e;exact⟨a,E,b⟩
def dn(m:List Int)(A:List Nat)(c:Int)(q:Nat):Bool:=decide (sy m q<c)||(decide (sy m q=c)&&decide (q+1∈A))
theorem iS{A:List Nat}{c:Int}{q:Nat}:dn m A c q=true↔sy m q<c\/(sy m q=c/\q+1∈A):=by unfold dn;simp
end
end Go.Proofs.YtchinbgemenenaaGreatDoor
