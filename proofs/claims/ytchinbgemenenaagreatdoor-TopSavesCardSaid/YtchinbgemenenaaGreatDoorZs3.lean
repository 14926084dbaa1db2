/- Lemmas and contracts under the claims of this seat. No condition. -/
import Derived.Test.YtchinbgemenenaaGreatDoorZs2
namespace Go.Proofs.YtchinbgemenenaaGreatDoor
open Go.Proofs.Tryz
set_option linter.unusedVariables false
set_option linter.unusedSimpArgs false
set_option maxRecDepth 100000
set_option maxHeartbeats 12800000
section
open Go.RowKit
def Blk(w:World)(p:Nat)(n:Int)(x y:Nat):Prop:=w.heap[p]? =some (.cells #[n, .int .u64 x, .int .u64 y] 242 (0,0))
theorem Blk.cells {w:World}{p:Nat}{n:Int}{x y:Nat}(h:Blk w p n x y):w.cell? p=n/\w.cell? (p,1)=some (.int .u64 x)/\w.cell? (p,2)=some (.int .u64 y)/\∀j,w.frozen? ⟨p,j,none⟩=false:=
 ⟨by rw[bb8 w p 0 _ _ _ h];rfl,by rw[bb8 w p 1 _ _ _ h];rfl,by rw[bb8 w p 2 _ _ _ h];rfl,λj=>bc4 w p j _ _ h⟩
theorem Blk.set0 {w:World}{p:Nat}{n:Int}{x y:Nat}(h:Blk w p n x y)(a:Int):Blk (w.setCell p a) p a x y:=bc7 w p 0 _ _ a h
theorem Blk.set1 {w:World}{p:Nat}{n:Int}{x y:Nat}(h:Blk w p n x y)(a:Nat):Blk (w.setCell (p,1) (.int .u64 a)) p n a y:=bc7 w p 1 _ _ (.int .u64 a) h
theorem Blk.set2 {w:World}{p:Nat}{n:Int}{x y:Nat}(h:Blk w p n x y)(a:Nat):Blk (w.setCell (p,2) (.int .u64 a)) p n x a:=bc7 w p 2 _ _ (.int .u64 a) h
theorem aE8{k:Nat}(h:k<64):IntKind.u64.wrap ((2:Int)^k)=((2^k:Nat):Int):=by
 have a:=jN h;have b:=aX9 k;rw[sA];exact yG E E
theorem Xy{k m:Nat}(h:k%64=m):IntKind.u64.wrap ((2:Int)^min (IntKind.u64.wrap ((k:Int).tmod 64)).toNat 64)=((2^m:Nat):Int):=by
 have a:(k:Int).tmod 64=(m:Int):=by rw[aK4 E];omega
 have b:IntKind.u64.wrap (m:Int)=(m:Int):=yG E E;rw[a,b,aK5,aW0 E];exact aE8 E
theorem ac7{k:Nat}(h:k<64):IntKind.i64.wrap ((k:Int)/64)=0/\IntKind.i64.wrap ((k:Int).tmod 64)=k/\IntKind.i64.wrap ((k:Int)%64)=k:=by
 refine⟨?_,?_,?_⟩
 ·rw[aK8]<;>omega
 ·rw[aK4 E,aK8]<;>omega
 ·rw[aK8]<;>omega
theorem ac6{k:Nat}(h:64<=k)(a:k<128):IntKind.i64.wrap ((k:Int)/64)=1/\IntKind.i64.wrap ((k:Int).tmod 64)=((k-64:Nat):Int)/\IntKind.i64.wrap ((k:Int)%64)=((k-64:Nat):Int):=by
 refine⟨?_,?_,?_⟩
 ·rw[aK8]<;>omega
 ·rw[aK4 E,aK8]<;>omega
 ·rw[aK8]<;>omega
theorem sG(w:World)(a:Option Addr)(c:Nat)(l:List Bool)(hr:ReadsV w a (l.map Value.bool))(hl:l.length<=128):Calls prog 235 #[.slice a l.length c] w λe w'=>e= .returned (.tuple #[.pointer w, .int .i64 0])/\IsBlock w' w l/\Below w w w':=by
 have hd:decide ((128:Int)<(l.length:Int))=false:=by simp;omega
 have H:=aR w (.cells #[l.length, .int .u64 0, .int .u64 0] 242);have J:Blk (w.alloc (.cells #[l.length, .int .u64 0, .int .u64 0] 242)) w l.length (loW (l.take 0)) (hiW (l.take 0)):=by
  have n:loW (l.take 0)=0:=by rw[aU2];exact aC2
  have q:hiW (l.take 0)=0:=by rw[aU2];exact aB4
  rw[n,q];exact bc6 w _
 have O:=θ J;have HR:=θ hr;obtain⟨p,hp⟩:=Ey w.heap.size;have A:=θ hp;clear J hr hp;go_in;go_wp2_with fail;rw[A.o];go_loopw [16] (λi wr=>∃k:Nat,k<=l.length/\i= .int .i64 k/\Blk wr p l.length (loW (l.take k)) (hiW (l.take k))/\Below w w wr) (λi _=>l.length-(intOf i).toNat);exact⟨0,aY1 _,rfl,by have :=O.o;rw[A.o]at this;exact this,H⟩;case round=>
  obtain⟨k,hk,rfl,f,z⟩:=hrel;clear H;by_cases L:k<l.length
  ·obtain⟨b,a2,rfl,a1,Z⟩:=(HR.o.below' z).some (by rw[aP7];omega);have S:=Z k (.bool (l[k]?.getD false)) (by rw[aO3,aO0 L];rfl);have M:l.take (k+1)=l.take k++[l[k]?.getD false]:=by rw[aT5,aO0 L];rfl
   have s:(l.take k).length=k:=by rw[aQ1];omega
   have B:=θ M;have d:=θ s;have U:=dS (l.take k);have T:=dR (l.take k);generalize I:l[k]?.getD false=bv at *;have a0:=θ I;clear Z M s I;cases bv
   ·have n:loW (l.take (k+1))=loW (l.take k):=by
     rw[B.o];by_cases h:k<64
     ·rw[Sg (by rw[d.o];exact h)];simp
     ·rw[Lk (by rw[d.o];omega)]
    have q:hiW (l.take (k+1))=hiW (l.take k):=by
     rw[B.o];by_cases h:k<64
     ·rw[Rz (by rw[d.o];exact h)]
     ·rw[Kx (by rw[d.o];omega) (by rw[d.o];omega)];simp
    have C:=θ n;have D:=θ q;have j:=θ f;clear n q f;go_wp2;go_roundw;exact⟨k+1,E,by go_num,by rw[C.out,D.out];exact j.o,z⟩;simp[intOf];omega
   ·by_cases r:k<64
    ·have n:loW (l.take (k+1))=loW (l.take k)|||2^k:=by
      rw[B.o,Sg (by rw[d.o];exact r),d.o];simp
     have q:hiW (l.take (k+1))=hiW (l.take k):=by rw[B.o,Rz (by rw[d.o];exact r)]
     have u:=jN r;have F:bits .or .u64 ((loW (l.take k):Nat):Int) (IntKind.u64.wrap ((2:Int)^min (IntKind.u64.wrap ((k:Int).tmod 64)).toNat 64))=((loW (l.take k)|||2^k:Nat):Int):=by
      rw[Xy (m:=k) E];exact sP _ _ U E
     have C:=θ n;have D:=θ q;have N:=θ F;generalize loW (l.take k)=x at *;generalize hiW (l.take k)=y at *;obtain⟨P,Q,R,G⟩:=f.cells;have t:=G 1;obtain⟨V,W,X⟩:=ac7 r;have j:=θ f;clear n q F f G P R u;go_wp2;refine aG (λ_=>True) Ek trivial (λg=>?_);refine rV 0 1 2 3 g ?_;refine rV 4 5 7 8 g ?_;refine rV 9 10 12 13 g ?_;refine rg 6 λY v=>?_;go_simp;refine v.out _ _ trivial ?_;intro g;try simp only[pt]
     refine rU 11 14 g ?_;refine rg 15 λY v=>?_;go_simp;refine v.out _ _ trivial ?_;intro g;try simp only[pt]
     refine rz ?_;rw[N.out];clear Q t V W X;go_wp2;go_roundw;exact⟨k+1,E,by go_num,by rw[C.out,D.out];exact j.o.set1 _,dX z.drew z.drew.size (by have :=A.o;omega) _⟩;simp[intOf];omega
    ·have n:loW (l.take (k+1))=loW (l.take k):=by rw[B.o,Lk (by rw[d.o];omega)]
     have q:hiW (l.take (k+1))=hiW (l.take k)|||2^(k-64):=by
      rw[B.o,Kx (by rw[d.o];omega) (by rw[d.o];omega),d.o];simp
     have u:=jN (k:=k-64) E;have F:bits .or .u64 ((hiW (l.take k):Nat):Int) (IntKind.u64.wrap ((2:Int)^min (IntKind.u64.wrap ((k:Int).tmod 64)).toNat 64))=((hiW (l.take k)|||2^(k-64):Nat):Int):=by
      rw[Xy (m:=k-64) E];exact sP _ _ T E
     have C:=θ n;have D:=θ q;have N:=θ F;generalize loW (l.take k)=x at *;generalize hiW (l.take k)=y at *;obtain⟨P,Q,R,G⟩:=f.cells;have t:=G 2;obtain⟨V,W,X⟩:=ac6 (k:=k) E E;have j:=θ f;clear n q F f G P Q u;go_wp2;refine aG (λ_=>True) Ek trivial (λg=>?_);refine rV 0 1 2 3 g ?_;refine rV 4 5 7 8 g ?_;refine rV 9 10 12 13 g ?_;refine rg 6 λY v=>?_;go_simp;refine v.out _ _ trivial ?_;intro g;try simp only[pt]
     refine rU 11 14 g ?_;refine rg 15 λY v=>?_;go_simp;refine v.out _ _ trivial ?_;intro g;try simp only[pt]
     refine rz ?_;rw[N.out];clear R t V W X;go_wp2;go_roundw;exact⟨k+1,E,by go_num,by rw[C.out,D.out];exact j.o.set2 _,dX z.drew z.drew.size (by have :=A.o;omega) _⟩;simp[intOf];omega
  ·have K:k=l.length:=E;have M:l.take k=l:=by rw[K,aT8]
   rw[M]at f;clear M K;go_wp2;go_ret2;exact⟨by rw[A.o];rfl,⟨hl,by rw[A.o];exact f⟩,z⟩
def BlkStep(w w':World)(p:Nat)(l:List Bool):Prop:=IsBlock w' p l/\Chg (λq=>q=p) w w'
theorem Kf{w:World}{p:Nat}{i:List Bool}(h:IsBlock w p i)(a:Option Addr)(c:Nat)(l:List Bool)(k:ReadsV w a (l.map Value.bool))(j:l.length<=128):Calls prog 263 #[.pointer p, .slice a l.length c] w λe t=>e= .returned (.tuple #[])/\BlkStep w t p l:=by
 have s:=θ k;have r:=θ h;clear k h;go_in;go_wp2_with fail;refine(sG w a c l s.o j).mono ?_;rintro e u ⟨rfl,g,f⟩;obtain⟨z,A,B,_⟩:=g.cells;have d:=r.o.below' f;obtain⟨C,D,F,b⟩:=d.cells;have G:=b 0;have H:=b 1;have I:=b 2;have m:=θ d;have v:=θ g;have n:Hid (Chg (λq=>q=p) w u):=Chg.of_below f;generalize w.heap.size=q at *;clear d g f b;go_wp2;go_end0;exact⟨rfl,⟨j,((Blk.set0 (x:=loW i) (y:=hiW i) m.o.2 _).set1 _).set2 _⟩,((n.o.setCell _ (Ei rfl) _).setCell _ (Ei rfl) _).setCell _ (Ei rfl) _⟩
theorem Kd{w:World}{p:Nat}{l:List Bool}(h:IsBlock w p l)(N:l.length<128)(k:Nat)(m:k<=l.length)(f:k<64)(b:Bool):Calls prog 251 #[.pointer p,k, .bool b] w λe F=>e= .returned (.int .i64 0)/\BlkStep w F p (inL l k b):=by
 have j:Blk w p l.length (loW l) (hiW l):=h.2;obtain⟨G,H,I,i⟩:=j.cells;have J:=i 0;have K:=i 1;have L:=i 2;have M:((l.length:Int)==128)=false:=by simp;omega
 have A:decide ((k:Int)<0)=false:=Es;have B:decide ((l.length:Int)<(k:Int))=false:=by simp;omega
 have O:(k:Int)/64=0:=E;have P:(k:Int)%64=k:=E;have C:=dS l;have D:=dR l;have r:=lo_in b m f;have s:=hi_in b m f;have t:=iK (b:=b) m;have u:=θ r;have v:=θ s;have n:=θ t;have z:=θ j;clear r s t j h i;generalize loW l=x at *;generalize hiW l=y at *;go_in;go_wp2_with fail;refine be3 3 ?_;rw[bd8];go_wp2;refine aG (λ_=>True) Ek trivial (λa=>?_);refine rV 0 1 2 3 a ?_;refine rV 4 5 6 8 a ?_;refine rU 9 14 a ?_;refine rt 15 a ?_;refine rg 7 λg d=>?_;go_simp;refine d.out _ _ trivial ?_;intro a;try simp only[pt]
 refine rg 10 λg d=>?_;go_simp;refine Cq (Bd x k b _ C f) ?_;go_wp2_with fail;refine d.out _ _ trivial ?_;intro a;try simp only[pt]
 refine rV 11 12 13 16 a ?_;refine rg 17 λg d=>?_;go_simp;refine d.out _ _ trivial ?_;intro a;try simp only[pt]
 refine rt 18 a ?_;refine rz ?_;go_wp2_with fail;rw[bd8];go_wp2;refine aG (λ_=>True) Ek trivial (λa=>?_);refine rV 0 1 2 3 a ?_;refine rV 4 5 6 8 a ?_;refine rU 9 14 a ?_;refine rt 15 a ?_;refine rg 7 λg d=>?_;go_simp;refine d.out _ _ trivial ?_;intro a;try simp only[pt]
 refine rg 10 λg d=>?_;go_simp;refine Cq (aE9 (Y:=((qG y 0 (x.testBit 63):Nat):Int)) (c:=y.testBit 63) y 0 _ D E rfl rfl rfl rfl) ?_;go_wp2_with fail;refine d.out _ _ trivial ?_;intro a;try simp only[pt]
 refine rV 11 12 13 16 a ?_;refine rg 17 λg d=>?_;go_simp;refine d.out _ _ trivial ?_;intro a;try simp only[pt]
 refine rt 18 a ?_;refine rz ?_;go_wp2_with fail;rw[bd8];go_wp2;go_ret;refine⟨rfl,⟨by rw[n.out];omega,?_⟩,?_⟩
 ·rw[u.out,v.out,n.out];exact((z.o.set1 _).set2 _).set0 _
 ·exact((((Chg.refl (S:=λq=>q=p)).setCell (p,1) (Ei rfl) _).setCell (p,2) (Ei rfl) _).setCell p (Ei rfl) _).drew.drew
theorem Kc{w:World}{p:Nat}{l:List Bool}(h:IsBlock w p l)(N:l.length<128)(k:Nat)(i:k<=l.length)(c:64<=k)(b:Bool):Calls prog 251 #[.pointer p,k, .bool b] w λe G=>e= .returned (.int .i64 0)/\BlkStep w G p (inL l k b):=by
 have g:Blk w p l.length (loW l) (hiW l):=h.2;obtain⟨H,I,J,f⟩:=g.cells;have K:=f 0;have L:=f 2;have M:((l.length:Int)==128)=false:=by simp;omega
 have B:decide ((k:Int)<0)=false:=Es;have C:decide ((l.length:Int)<(k:Int))=false:=by simp;omega
 have O:(k:Int)/64=1:=E;have P:(k:Int)%64=((k-64:Nat):Int):=E;have F:=dR l;have r:=lo_in2 b i c;have s:=hi_in2 b i c E;have t:=iK (b:=b) i;have v:=θ r;have z:=θ s;have n:=θ t;have A:=θ g;have D:k-64<64:=E;clear r s t g h f;generalize loW l=x at *;generalize hiW l=y at *;generalize j:k-64=m at *;clear j;go_in;go_wp2_with fail;refine be3 2 ?_;rw[bd8];go_wp2;refine aG (λ_=>True) Ek trivial (λa=>?_);refine rV 0 1 2 3 a ?_;refine rV 4 5 6 8 a ?_;refine rU 9 14 a ?_;refine rt 15 a ?_;refine rg 7 λu d=>?_;go_simp;refine d.out _ _ trivial ?_;intro a;try simp only[pt]
 refine rg 10 λu d=>?_;go_simp;refine Cq (Bd y m b _ F D) ?_;go_wp2_with fail;refine d.out _ _ trivial ?_;intro a;try simp only[pt]
 refine rV 11 12 13 16 a ?_;refine rg 17 λu d=>?_;go_simp;refine d.out _ _ trivial ?_;intro a;try simp only[pt]
 refine rt 18 a ?_;refine rz ?_;go_wp2_with fail;rw[bd8];go_wp2;go_ret;refine⟨rfl,⟨by rw[n.out];omega,?_⟩,?_⟩
 ·rw[v.out,z.out,n.out];exact(A.o.set2 _).set0 _
 ·exact(((Chg.refl (S:=λq=>q=p)).setCell (p,2) (Ei rfl) _).setCell p (Ei rfl) _).drew
theorem vV{w:World}{p:Nat}{l:List Bool}(h:IsBlock w p l)(d:l.length<128)(k:Nat)(c:k<=l.length)(b:Bool):Calls prog 251 #[.pointer p,k, .bool b] w λe f=>e= .returned (.int .i64 0)/\BlkStep w f p (inL l k b):=by
 by_cases a:k<64
 ·exact Kd h d k c a b
 ·exact Kc h d k c E b
theorem Kb{w:World}{p:Nat}{l:List Bool}(h:IsBlock w p l)(k:Nat)(r:k<l.length)(b:k<64):Calls prog 244 #[.pointer p,k] w λe N=>e= .returned (.tuple #[.bool (aX l k), .int .i64 0])/\BlkStep w N p (bj0 l k):=by
 have n:Blk w p l.length (loW l) (hiW l):=h.2;obtain⟨O,P,Q,i⟩:=n.cells;have R:=i 0;have T:=i 1;have U:=i 2;have z:fD l k=0:=by unfold fD;rw[bd0 E]
 have H:=θ z;have G:=θ h;have W:(k:Int)/64=0:=E;have Z:IntKind.i64.wrap 0=0:=Ed;obtain⟨X,L,M⟩:=ac7 b;have I:Hid ((k:Int).tmod 64=(k:Int)):=by show _=_;rw[aK4 E];omega
 have J:=dS l;have K:=dR l;have V:=h.1;have m:=lo_out r b;have t:=hi_out r b h.1;have u:=fN r;have v:=dA (l:=l) b;obtain⟨A,f⟩:=Ey ((hiW l).testBit 0);rw[f]at m;have j:=θ f;have B:=θ m;have C:=θ t;have s:=θ u;have D:=θ v;have F:=θ n;clear m t u v n h i z L M f;generalize loW l=x at *;generalize hiW l=y at *;go_in;go_wp2_with fail;refine Cq (Bz G.o k) ?_;rw[H.o];go_wp2_with fail;refine be3 2 ?_;rw[bd8];go_wp2;refine aG (λ_=>True) Ek trivial (λa=>?_);refine rV 0 1 2 3 a ?_;refine rV 4 5 6 8 a ?_;refine rU 13 14 a ?_;refine rg 7 λg d=>?_;go_simp;refine d.out _ _ trivial ?_;intro a;try simp only[pt]
 refine rg 9 λg d=>?_;go_simp;refine Cq (Fj (Y:=((mA y 0 false:Nat):Int)) (c:=A) y 0 _ K E rfl rfl rfl j.o) ?_;go_wp2_with fail;refine d.out _ _ trivial ?_;intro a;try simp only[pt]
 refine rV 10 11 12 15 a ?_;refine rg 16 λg d=>?_;go_simp;refine d.out _ _ trivial ?_;intro a;try simp only[pt]
 refine rt 17 a ?_;refine rz ?_;go_wp2_with fail;rw[bd8];go_wp2;refine aG (λ_=>True) Ek trivial (λa=>?_);refine rV 0 1 2 3 a ?_;refine rV 4 5 6 7 a ?_;refine rV 8 10 11 12 a ?_;refine rU 17 18 a ?_;refine rg 9 λg d=>?_;go_simp;refine d.out _ _ trivial ?_;intro a;try simp only[pt]
 refine rg 13 λg d=>?_;go_simp;refine Cq (Fj (Y:=((mA x k A:Nat):Int)) (c:=aX l k) x k _ J b rfl I.out rfl D.out) ?_;go_wp2_with fail;refine d.out _ _ trivial ?_;intro a;try simp only[pt]
 refine rV 14 15 16 19 a ?_;refine rg 20 λg d=>?_;go_simp;refine d.out _ _ trivial ?_;intro a;try simp only[pt]
 refine rt 21 a ?_;refine rz ?_;go_wp2;go_ret2;refine⟨rfl,⟨by rw[s.out];omega,?_⟩,?_⟩
 ·rw[B.out,C.out,s.out,show ((l.length-1:Nat):Int)=(l.length:Int)-1 by omega];exact((F.o.set2 _).set1 _).set0 _
 ·exact((((Chg.refl (S:=λq=>q=p)).setCell (p,2) (Ei rfl) _).setCell (p,1) (Ei rfl) _).setCell p (Ei rfl) _).drew.drew
theorem Ka{w:World}{p:Nat}{l:List Bool}(h:IsBlock w p l)(k:Nat)(j:k<l.length)(b:64<=k):Calls prog 244 #[.pointer p,k] w λe M=>e= .returned (.tuple #[.bool (aX l k), .int .i64 0])/\BlkStep w M p (bj0 l k):=by
 have i:Blk w p l.length (loW l) (hiW l):=h.2;obtain⟨N,O,P,g⟩:=i.cells;have Q:=g 0;have R:=g 2;have T:=h.1;have v:fD l k=0:=by unfold fD;rw[bd0 E]
 have H:=θ v;have G:=θ h;have U:(k:Int)/64=1:=E;have W:IntKind.i64.wrap 1=1:=Ed;obtain⟨V,K,L⟩:=ac6 b E;have J:=dR l;have s:=aC3 j b;have t:=aB5 j b h.1;have u:=fN j;have z:k-64<64:=E;have f:=cZ (l:=l) z;rw[show 64+(k-64)=k by omega]at f;have I:Hid ((k:Int).tmod 64=((k-64:Nat):Int)):=by show _=_;rw[aK4 E];omega
 have B:=θ s;have C:=θ t;have r:=θ u;have D:=θ f;have F:=θ i;clear s t u f i h g v K L;generalize loW l=x at *;generalize hiW l=y at *;generalize n:k-64=m at *;clear n;go_in;go_wp2_with fail;refine Cq (Bz G.o k) ?_;rw[H.o];go_wp2_with fail;refine be3 1 ?_;rw[bd8];go_wp2;refine aG (λ_=>True) Ek trivial (λa=>?_);refine rV 0 1 2 3 a ?_;refine rV 4 5 6 7 a ?_;refine rV 8 10 11 12 a ?_;refine rU 17 18 a ?_;refine rg 9 λA d=>?_;go_simp;refine d.out _ _ trivial ?_;intro a;try simp only[pt]
 refine rg 13 λA d=>?_;go_simp;refine Cq (Fj (Y:=((mA y m false:Nat):Int)) (c:=aX l k) y m _ J z rfl I.out rfl D.out) ?_;go_wp2_with fail;refine d.out _ _ trivial ?_;intro a;try simp only[pt]
 refine rV 14 15 16 19 a ?_;refine rg 20 λA d=>?_;go_simp;refine d.out _ _ trivial ?_;intro a;try simp only[pt]
 refine rt 21 a ?_;refine rz ?_;go_wp2;go_ret2;refine⟨rfl,⟨by rw[r.out];omega,?_⟩,?_⟩
 ·rw[B.out,C.out,r.out,show ((l.length-1:Nat):Int)=(l.length:Int)-1 by omega];exact(F.o.set2 _).set0 _
 ·exact(((Chg.refl (S:=λq=>q=p)).setCell (p,2) (Ei rfl) _).setCell p (Ei rfl) _).drew
theorem Xz{w:World}{p:Nat}{l:List Bool}(h:IsBlock w p l)(k:Nat)(b:k<l.length):Calls prog 244 #[.pointer p,k] w λe c=>e= .returned (.tuple #[.bool (aX l k), .int .i64 0])/\BlkStep w c p (bj0 l k):=by
 by_cases a:k<64
 ·exact Kb h k b a
 ·exact Ka h k b (E)
theorem Iy(z:Value)(n:Nat):madeCells #[z] n=(aI (λ_=>z) n).toArray:=by
 apply Array.ext
 ·simp[madeCells,aI]
 ·intro i b c;have a:∀m,m%1=0:=λm=>E;simp[madeCells,aI,a]
theorem ad9{P:Program}{t e:TypeId}{z:Value}{a:Nat}(b:(P.info? e).map (λi=>(i.zero,i.size,i.bytes))=some (some z,1,a))(l:P.underlying t=some (.slice e))(m:z.cells=#[z])(n:Nat)(h:(a:Int)*(n:Int)<=281474976710656)(k:n<=maxLen)(w:World):(Instr.makeSlice t (.int .i64 (n:Int)) (.int .i64 (n:Int))).run P w= .ok (.slice w n n) (w.alloc (.cells (aI (λ_=>z) n).toArray e)):=by
 obtain⟨i,j,d,f,c⟩:=bd2 b;have g:=run_make (P:=P) w t e i z l j d .i64 .i64 (n:Int) (n:Int) E E (by rw[c];exact h) (by unfold maxLen at k;omega);rw[g,m,f,aK5,aW5,Iy]
theorem Da(n:Nat)(h:n<=1000000000)(w:World):(Instr.makeSlice 132 (.int .i64 (n:Int)) (.int .i64 (n:Int))).run prog w= .ok (.slice w n n) (w.alloc (.cells (aI (λ_=> .bool false) n).toArray 4)):=
 ad9 Tryz.infoBoolR Tryz.underlying132 rfl n E (by unfold maxLen;omega) w
theorem aD9{w:World}{q n base:Nat}{f:Nat->Value}{e:TypeId}(h:w.heap[q]? =some (.cells (aI f n).toArray e (0,0)))(a:base<=q)(b:n<=maxLen):w.ownsRow base e 1 (.slice q n n) n (aI f n):=
 ⟨by rw[cW];omega, .inr ⟨q,n,(aI f n).toArray,rfl,a,h,aV3 _,b,by simp[cW],by rw[aW5];exact aT9 (by rw[cW];exact aV3 _)⟩⟩
theorem vU{w:World}{p:Nat}{l:List Bool}(h:IsBlock w p l):Calls prog 262 #[.pointer p] w (GivesB w w l):=by
 obtain⟨F,_⟩:=h.cells;have H:=h.1;have v:=Da l.length E;have m:(w.alloc (.cells (aI (λ_=> .bool false) l.length).toArray 4)).heap[w.heap.size]? =some (.cells (aI (λi=>if i<0 then .bool (aX l i)else .bool false) l.length).toArray 4 (0,0)):=by
  rw[cY (f:=λi=>if i<0 then .bool (aX l i)else .bool false) (g:=λ_=> .bool false) (λi b=>Es)];exact bc6 w _
 have d:=aR w (.cells (aI (λ_=> .bool false) l.length).toArray 4);have A:=θ h;have t:=θ m;obtain⟨q,z⟩:=Ey w.heap.size;have n:=θ z;have x:=h.lt;clear m h z;go_in;go_wp2_with fail;rw[n.o];go_loopw [14] (λi wr=>∃k:Nat,k<=l.length/\i= .int .i64 k/\wr.heap[q]? =some (.cells (aI (λi=>if i<k then .bool (aX l i)else .bool false) l.length).toArray 4 (0,0))/\Below w w wr) (λi _=>l.length-(intOf i).toNat);exact⟨0,aY1 _,rfl,by have :=t.o;rw[n.o]at this;exact this,d⟩;case round=>
  clear d v;obtain⟨k,G,rfl,a,r⟩:=hrel;have D:=r.size;have u:=A.o.below r x;have s:=θ u;have c:=θ a;by_cases j:k<l.length
  ·have B:=kJ a j;simp only[aV5,bc8]at B;have C:wr.frozen? (q,k)=false:=bc4 wr q k _ _ a;clear u a;go_wp2_with (go_at_call 208;refine Cq (Ya s.o k j) ?_);go_roundw;case rel=>
    refine⟨k+1,E,by go_num,?_,dX r D (by have :=n.o;omega) _⟩;rw[pP c.o];congr 3;refine cY (λi b=>?_);by_cases e:i=k
    ·subst e;simp
    ·rw[bc9 e];by_cases y:i<k
     ·rw[bd0 y,bd0 E]
     ·rw[bc9 y,bc9 E]
   case measure=>simp[intOf];omega
  ·obtain rfl:k=l.length:=E;clear u a;go_wp2;go_ret;refine⟨_,rfl,?_,r⟩;have :=aD9 c.o (base:=w.heap.size) (by have :=n.o;omega) (by unfold maxLen;omega);rw[show l.map Value.bool=aI (λi=>if i<l.length then .bool (aX l i)else .bool false) l.length from ?_]
   ·exact this
   ·apply aM9;intro i;by_cases b:i<l.length
    ·rw[dP b,bd0 b,aO3,aO0 b];simp[aX,aO0 b]
    ·rw[aO1 (by simp;omega),aO1 (by rw[cW];omega)]
def Xr(w:World)(p:Nat)(l:List Bool)(e:Ending)(w':World):Prop:=
 ∃q,e= .returned (.pointer (some ⟨q,0,none⟩))/\w.heap.size<=q/\IsBlock w' q (l.drop (l.length/2))/\IsBlock w' p (l.take (l.length/2))/\Chg (λb=>b=p) w w'
theorem ak4{w:World}{p:Nat}{l:List Bool}(h:IsBlock w p l):Calls prog 250 #[.pointer p] w (Xr w p l):=by
 have R:=θ h;have hl:=h.1;clear h;go_in;go_wp2_with fail;refine(vU R.o).mono ?_;rintro e O ⟨v,rfl,d,r⟩;obtain⟨a,c,rfl,K,D⟩:=aD d;have y:=dM d;have u:l.length<=c:=by
  rcases d.2 with ⟨hv,h0⟩ | ⟨g,a1,a2,hv,_,_,h1,_⟩
  ·have :=pK d;rw[h0]at this;simp at this;omega
  ·injection hv with _ _ e3;subst e3;exact h1
 have n:=R.o.below' r;obtain⟨c0,_⟩:=n.cells;have M:=λ(w:World)=>jR (P:=prog) (w:=w) (t:=132) (a:=a) (len:=l.length) (cap:=c) (k:=l.length/2) aZ7 Ek E;have N:=λ(w:World)=>oL (P:=prog) (w:=w) (t:=132) (a:=a) (len:=l.length) (cap:=c) (k:=l.length/2) aZ7 Ek E;have ed:((l.length/2:Nat):Int)=(l.length:Int)/2:=E;rw[ed]at M N;have HD:Hid (ReadsV O (gF a (l.length/2) c) ((l.drop (l.length/2)).map Value.bool)):=by
  have :=y.drop (k:=l.length/2) (cap:=c) (by simpa using u);rw[<-aQ5]at this;exact this
 have Y:Hid (ReadsV O a ((l.take (l.length/2)).map Value.bool)):=by
  have :=y.take (l.length/2);rw[<-aQ8]at this;exact this
 have T:=θ n;have HC:Hid (Chg (λb=>b=p) w O):=Chg.of_below r;have a4:=n.lt;have a5:=r.size;have I:(l.drop (l.length/2)).length=l.length-l.length/2:=Es;have J:(l.take (l.length/2)).length=l.length/2:=by rw[aQ1];omega
 have A:=θ I;have B:=θ J;have F:∀Q,a=some Q->Q.block≠p:=by
  intro Q h e;obtain⟨g,rfl,hg,_⟩:=D Q h;have hx:g=p:=e;have :=R.o.lt;omega
 have a0:=θ F;clear K D y u n r d ed I J F;have a3:l.length/2<=l.length:=Nat.div_le_self _ _;generalize hm:l.length/2=m at *;have HM:=θ hm;clear hm;go_wp2_with fail;have f:=sG O (gF a m c) (c-m) (l.drop m) HD.o (by rw[A.o];omega);rw[A.o]at f;refine f.mono ?_;rintro e w2 ⟨rfl,hq,s⟩;have x:=T.o.below' s;obtain⟨d0,_⟩:=x.cells;have C:=Y.o.below' s;have HQ:=θ hq;have U:=θ x;have X:=θ C;have V:Hid (Chg (λb=>b=p) w w2):=HC.o.trans (Chg.of_below (S:=λb=>b=p) s) (λb Z=>Ei Z);obtain⟨q,L⟩:=Ey O.heap.size;have j:=θ L;clear f hq x C s N L;go_wp2_with fail;have i:=Kf U.o a c (l.take m) X.o (by rw[B.o];omega);rw[B.o]at i;refine i.mono ?_;rintro e w3 ⟨rfl,H,G⟩;have W:=θ H;have z:=θ G;clear i H G M;go_wp2;go_ret;rw[j.o];refine⟨q,rfl,by have :=j.o;omega,?_,?_,V.o.trans z.o (λb Z=>Ei Z)⟩
 ·rw[HM.o];exact(by rw[j.o]at HQ;exact HQ.o:IsBlock w2 q (l.drop m)).chg z.o (λe=>by have :=j.o;omega)
 ·rw[HM.o];exact W.o
theorem Tryz.infoBlk:∃j,prog.info? 242=some j/\j.size≠0:=by
 have h:(prog.info? 242).map (λi=>decide (i.size≠0))=some true:=Ek;obtain⟨j,b,a⟩:=aY4.1 h;exact⟨j,b,by simpa using a⟩
set_option maxRecDepth 10000 in
theorem Ke{w:World}{p q:Nat}{l m:List Bool}(h:IsBlock w p l)(f:IsBlock w q m)(g:p≠q)(t:128<l.length+m.length):Calls prog 265 #[.pointer p, .pointer q] w λe k=>e= .returned (.int .i64 3)/\∃n,k=w.drewN n:=by
 obtain⟨o,_⟩:=h.cells;obtain⟨r,_⟩:=f.cells;have u:=h.1;have v:=f.1;have d:((q,0):Addr)≠(p,0):=λe=>g (bb9 Addr.block e).symm;obtain⟨j,i,c⟩:=Tryz.infoBlk;have s:=run_eql_ptr_other (P:=prog) w (tp:=219) (a:=(q,0)) (b:=(p,0)) Tryz.underlying219 i c d f.2 h.2;clear h f i c d;go_in;go_wp2;go_quiet (fail);go_wp2;go_ret;exact⟨rfl,_,rfl⟩
def Jp(w:World)(p q:Nat)(l m:List Bool)(e:Ending)(w':World):Prop:=
 e= .returned (.int .i64 0)/\IsBlock w' p (l++m)/\IsBlock w' q []/\Chg (λb=>b=p\/b=q) w w'
set_option maxRecDepth 10000 in
theorem aA2{w:World}{p q:Nat}{l m:List Bool}(h:IsBlock w p l)(J:IsBlock w q m)(I:p≠q)(hl:l.length+m.length<=128):Calls prog 265 #[.pointer p, .pointer q] w (Jp w p q l m):=by
 obtain⟨c0,_⟩:=h.cells;obtain⟨d0,_⟩:=J.cells;have k1:=h.1;have k2:=J.1;have b6:((q,0):Addr)≠(p,0):=λe=>I (bb9 Addr.block e).symm;obtain⟨j,hj,T⟩:=Tryz.infoBlk;have he:=run_eql_ptr_other (P:=prog) w (tp:=219) (a:=(q,0)) (b:=(p,0)) Tryz.underlying219 hj T b6 J.2 h.2;have N:Hid (∀n,IsBlock (w.drewN n) p l):=λn=>h;have X:Hid (∀n,IsBlock (w.drewN n) q m):=λn=>J;have O:=θ I;have b7:=θ h.lt;have b8:=θ J.lt;have hd:decide ((128:Int)<(l.length:Int)+(m.length:Int))=false:=by simp;omega
 clear h J hj T I;go_in;go_wp2;go_quiet (fail);have Y:Hid (Chg (λb=>b=p\/b=q) w (w.drewN nq)):=Chg.refl.drewN nq;have b5:Hid ((w.drewN nq).heap.size=w.heap.size):=rfl;have N:=θ (N.o nq);have X:=θ (X.o nq);generalize w.drewN nq=w1 at *;clear c0 d0 he hd;go_wp2_with fail;refine(vU N.o).mono ?_;rintro e w2 ⟨v,rfl,c,r⟩;have a7:=θ (N.o.below' r);have Q:=θ (X.o.below' r);have b9:=r.size;have Z:Hid (Chg (λb=>b=p\/b=q) w w2):=Y.o.trans (Chg.of_below (S:=λb=>b=p\/b=q) r) (λb G=>Ei G);have L:=θ c;clear c r;go_wp2_with fail;refine(vU Q.o).mono ?_;rintro e w3 ⟨v3,rfl,f,g⟩;have c:=rG L.o g (λk U=>(cH L.o U).2);have c:=gG c (show w1.heap.size<=w1.heap.size from aV3 _);obtain⟨a3,c3,rfl,t,_⟩:=aD f;have D:=dM f;have c1:=g.size;have M:=θ c;have b3:=θ D;have a6:=θ t;have a8:=θ (a7.o.below' g);have b0:=θ (Q.o.below' g);have i:Hid (Chg (λb=>b=p\/b=q) w w3):=Z.o.trans (Chg.of_below (S:=λb=>b=p\/b=q) g) (λb G=>Ei G);have A:Hid (p<w1/\q<w1):=⟨N.o.lt,X.o.lt⟩;clear f c g D t;go_wp2_with (at_builtin;refine dT rfl _ _ 132 rfl w1 4 Tryz.infoBoolR Tryz.underlying132 rfl _ l.length _ rfl M.o a3 m.length c3 (m.map Value.bool) rfl Es a6.o b3.o.hnews (oneB _) (by unfold maxLen;omega) E E ?_);intro a4 c4 w4 u s _;have d:Below w1 w3 w4:=(aJ6 _ _).grown s E (λk U=>(cH M.o U).1);have a9:=θ (a8.o.below d A.o.1);have b1:=θ (b0.o.below d A.o.2);have a0:Hid (Chg (λb=>b=p\/b=q) w w4):=by
  have :=Below.trans (B:=w1.heap.size) (d) (aJ6 _ _);refine⟨d.os.trans i.o.os,d.tape.trans i.o.tape,d.output.trans i.o.output,aV4 i.o.size d.size,λk U hn=>?_⟩;rw[d.block k (by have :=b5.o;omega)];exact i.o.block k U hn
 have x:=dM u;rw[<-aQ2]at x;have b4:=θ x;have y:=Kf a9.o a4 c4 (l++m) b4.o (by rw[aP3];exact hl);rw[aP3]at y;have C:=θ y;clear u s d x y;go_wp2_with fail;refine C.o.mono ?_;rintro e w5 ⟨rfl,V,H⟩;have a2:=θ V;have b2:Hid (IsBlock w5 q m):=b1.o.chg H (λe=>O.o e.symm);have a1:Hid (Chg (λb=>b=p\/b=q) w w5):=a0.o.trans H (λb G=>Ei (Ei G));clear V H C;have z:=Kf b2.o none 0 [] ReadsV.nil Es;have F:=θ z;clear z;go_wp2_with fail;refine F.o.mono ?_;rintro e w6 ⟨rfl,W,R⟩;have a5:=θ W;have K:=θ R;clear W R;go_wp2;go_ret;exact⟨rfl,a2.o.chg K.o O.o,a5.o,a1.o.trans K.o (λb G=>Ei (Ej G))⟩
end
structure Ar where
 T:List Bool
 F:List Nat
 M:Nat
structure Ar.Ok (a:Ar):Prop where
 max:a.M<=268435456
 le:a.T.length<=a.M
 cnt:a.T.count false=a.F.length
 nd:a.F.Nodup
 iff:∀j,a.T[j]? =some false↔j∈a.F
def lW(T:List Bool)(k:Int):Bool:=decide (0<=k)&&(T[k.toNat]?.getD false)
theorem pT{T:List Bool}{k:Int}:lW T k=true↔0<=k/\T[k.toNat]? =some true:=by
 unfold lW;cases h:T[k.toNat]? with
 | none=>simp
 | some b=>cases b<;>simp
def Ar.live (a:Ar):Nat:=a.T.length-a.F.length
theorem Ar.Ok.fle {a:Ar}(h:a.Ok):a.F.length<=a.T.length:=by rw[<-h.cnt];exact List.count_le_length
def Ar.new (m:Nat):Ar:=⟨[],[],m⟩
theorem Ar.new_ok {m:Nat}(h:m<=268435456):(Ar.new m).Ok:=⟨h,by simp[Ar.new],by simp[Ar.new],by simp[Ar.new],by simp[Ar.new]⟩
def Ar.pop (a:Ar)(k:Nat):Ar:=⟨a.T.set k true,a.F.dropLast,a.M⟩
def Ar.more (a:Ar):Ar:=⟨a.T++[true],a.F,a.M⟩
theorem Ar.more_ok {a:Ar}(h:a.Ok)(d:a.T.length<a.M):a.more.Ok:=by
 refine⟨h.max,by simp[Ar.more];omega,by simp[Ar.more,h.cnt],h.nd,λj=>?_⟩;show (a.T++[true])[j]? =some false↔j∈a.F;rw[<-h.iff j,aN5];split
 ·exact Iff.rfl
 ·rename_i c;rw[aO1 (l:=a.T) E];rcases aV8 (j-a.T.length) 1 with b | b
  ·have :j-a.T.length=0:=E;rw[this];simp
  ·rw[List.getElem?_eq_none (by simpa using b)]
theorem Ar.pop_ok {a:Ar}(h:a.Ok){k:Nat}(c:a.F.getLast?=some k):(a.pop k).Ok:=by
 have l:a.F≠[]:=by intro e;rw[e]at c;cases c
 have g:a.F=a.F.dropLast++[k]:=by
  rw[List.getLast?_eq_some_getLast l]at c;injection c with c
  rw[<-c,List.dropLast_concat_getLast]
 have f:k∈a.F:=by rw[g];simp
 have m:=(h.iff k).2 f;have d:k<a.T.length:=(aO2.1 m).1;have i:a.T[k]=false:=(aO2.1 m).2;have b:=h.nd;rw[g,aS1]at b;refine⟨h.max,by simp[Ar.pop];exact h.le,?_,b.1,λj=>?_⟩
 ·show (a.T.set k true).count false=a.F.dropLast.length;rw[List.count_set d,i,h.cnt,List.length_dropLast];simp
 ·show (a.T.set k true)[j]? =some false↔j∈a.F.dropLast;rw[aO5];have n:=h.iff j;rw[g,aR0]at n;by_cases e:k=j
  ·subst e;rw[bd0 rfl,bd0 d];have :k∉a.F.dropLast:=λo=>b.2.2 k o k Es rfl;simp[this]
  ·rw[bc9 e,n];have :j∉[k]:=by simp;exactλh=>e h.symm
   simp[this]
theorem Ar.Ok.last_lt {a:Ar}(h:a.Ok){k:Nat}(b:a.F.getLast?=some k):k<a.T.length:=by
 have c:k∈a.F:=List.mem_of_getLast? b;exact(aO2.1 ((h.iff k).2 c)).1
def clr(T:List Bool):List Int->Option (List Bool)
 | []=>some T
 | k::l=>if lW T k=true then clr (T.set k.toNat false) l else none
theorem ak7(T:List Bool)(l:List Int)(k:Int):clr T (l++[k])=(clr T l).bind λa=>if lW a k=true then some (a.set k.toNat false)else none:=by
 induction l generalizing T with
 | nil=>simp[clr]
 | cons x l b=>
  simp only[aL4,clr];split
  ·exact b _
  ·rfl
theorem Ci{T a:List Bool}{l:List Int}(h:clr T l=some a):a.length=T.length:=by
 induction l generalizing T with
 | nil=>simp[clr]at h;rw[h]
 | cons x l b=>
  simp only[clr]at h;split at h
  ·rw[b h];simp
  ·cases h
theorem ak6{T a:List Bool}{l:List Int}(h:clr T l=some a):l.foldl (λT k=>T.set k.toNat true) a=T:=by
 apply aM9;intro j;have g:∀(l:List Int) (T a:List Bool),clr T l=some a->∀j:Nat,(l.foldl (λT k=>T.set k.toNat true) a)[j]? =T[j]? :=by
  intro l;induction l with
  | nil=>intro T a h j;simp[clr]at h;rw[h];rfl
  | cons x l q=>
   intro T a h j;simp only[clr]at h;split at h
   ·rename_i o;obtain⟨p,c⟩:=pT.1 o;obtain⟨m,r⟩:=aO2.1 c;have b:∀(l:List Int) (U:List Bool) (n:Nat),l.foldl (λT k=>T.set k.toNat true) (U.set n true)=(l.foldl (λT k=>T.set k.toNat true) U).set n true:=by
     intro l;induction l with
     | nil=>intro U n;rfl
     | cons y l d=>
      intro U n;simp only[List.foldl_cons];by_cases e:n=y.toNat
      ·subst e;rw[d]
      ·rw[List.set_comm _ _ e,d]
    simp only[List.foldl_cons];rw[b,aO5,q _ _ h j];have i:(l.foldl (λT k=>T.set k.toNat true) a).length=T.length:=by
     have :∀(l:List Int) (U:List Bool),(l.foldl (λT k=>T.set k.toNat true) U).length=U.length:=by
      intro l;induction l with
      | nil=>intro U;rfl
      | cons y l f=>intro U;simp only[List.foldl_cons];rw[f];simp
     rw[this,Ci h];simp
    split
    ·rename_i e;subst e;rw[bd0 E,c]
    ·rename_i e;rw[aO5,bc9 e]
   ·cases h
 exact g l T a h j
theorem Fe{T d:List Bool}{l:List Int}(h:clr T l=some d):(l.map Int.toNat).Nodup/\(∀k∈l,0<=k/\T[k.toNat]? =some true)/\d.count false=T.count false+l.length/\∀j,d[j]? =some false↔(T[j]? =some false\/j∈l.map Int.toNat):=by
 induction l generalizing T with
 | nil=>simp[clr]at h;subst h;simp
 | cons x l w=>
  simp only[clr]at h;split at h
  ·rename_i u;obtain⟨m,c⟩:=pT.1 u;obtain⟨b,t⟩:=aO2.1 c;obtain⟨o,n,p,q⟩:=w h;have i:x.toNat∉l.map Int.toNat:=by
    intro s;obtain⟨y,v,r⟩:=aR4.1 s;have :=(n y v).2;rw[r,aO5,bd0 rfl,bd0 b]at this;cases this
   refine⟨aS2.2 ⟨i,o⟩,λk f=>?_,?_,λj=>?_⟩
   ·rcases aR1.1 f with rfl | f
    ·exact⟨m,c⟩
    ·obtain⟨g,a⟩:=n k f;refine⟨g,?_⟩;rw[aO5]at a;split at a
     ·cases a
     ·exact a
   ·rw[p,List.count_set b,t];simp;omega
   ·rw[q j,aO5,aQ4,aR1];by_cases e:x.toNat=j
    ·subst e;rw[bd0 rfl,bd0 b];simp
    ·rw[bc9 e];have :¬j=x.toNat:=λh=>e h.symm;simp[this]
  ·cases h
def Ar.push (a:Ar)(T':List Bool)(l:List Int):Ar:=⟨T',a.F++l.map Int.toNat,a.M⟩
theorem Ar.push_ok {a:Ar}(h:a.Ok){b:List Bool}{l:List Int}(c:clr a.T l=some b):(a.push b l).Ok:=by
 obtain⟨d,f,g,i⟩:=Fe c;refine⟨h.max,by show b.length<=a.M;rw[Ci c];exact h.le,by show b.count false=(a.F++l.map Int.toNat).length;rw[g,h.cnt];simp,?_,λj=>?_⟩
 ·refine aS1.2 ⟨h.nd,d,λx k y m e=>?_⟩;subst e;obtain⟨z,n,rfl⟩:=aR4.1 m;have :=(f z n).2;rw[(h.iff _).2 k]at this;cases this
 ·show b[j]? =some false↔j∈a.F++l.map Int.toNat;rw[i j,h.iff j,aR0]
def Ar.free (a:Ar)(l:List Int):Int×Ar:=match clr a.T l with
 | some T'=>(0,a.push T' l)
 | none=>(7,a)
theorem Ar.free_ok {a:Ar}(h:a.Ok)(l:List Int):(a.free l).2.Ok:=by
 unfold Ar.free;split
 ·rename_i c b;exact Ar.push_ok h b
 ·exact h
section
open Go.RowKit
def oJ(k:Nat):Value:= .int .i64 k
structure IsArena (w:World) (p:Nat) (S:Nat->Prop) (a:Ar):Prop where
 ok:a.Ok
 ex:∃tv fv,w.heap[p]? =some (.cells #[tv,fv,a.M] 186 (0,0))/\w.ownsRow 0 4 1 tv a.T.length (a.T.map Value.bool)/\
  w.ownsRow 0 3 1 fv a.F.length (a.F.map oJ)/\tv.ownBlock≠some p/\fv.ownBlock≠some p/\(∀g,tv.ownBlock=some g->fv.ownBlock≠some g)/\
  (∀k,S k↔k=p\/tv.ownBlock=some k\/fv.ownBlock=some k)
theorem IsArena.lt {w:World}{p:Nat}{S:Nat->Prop}{a:Ar}(h:IsArena w p S a):∀k,S k->k<w.heap.size:=by
 obtain⟨i,g,e,f,c,_,_,_,b⟩:=h.ex;intro k d;rcases(b k).1 d with rfl | h | h
 ·exact(aJ2.1 e).1
 ·exact(cH f h).2
 ·exact(cH c h).2
theorem IsArena.self {w:World}{p:Nat}{S:Nat->Prop}{a:Ar}(h:IsArena w p S a):S p:=by
 obtain⟨g,c,e,f,d,_,_,_,b⟩:=h.ex;exact(b p).2 (Ei rfl)
theorem IsArena.chg {w w':World}{p:Nat}{S S':Nat->Prop}{a:Ar}(h:IsArena w p S a)(c:Chg S' w w')(d:∀k,S k->¬S' k):IsArena w' p S a:=by
 obtain⟨f,q,g,j,l,i,m,n,o,b⟩:=h;exact⟨f,q,g,c.heap j (d p ((b p).2 (Ei rfl))),c.own l (λk e=>d k ((b k).2 (Ej (Ei e)))),c.own i (λk e=>d k ((b k).2 (Ej (Ej e)))),m,n,o,b⟩
theorem IsArena.see {w:World}{p:Nat}{S:Nat->Prop}{a:Ar}(h:IsArena w p S a):∃i r d l,w.cell? p=some (.slice i a.T.length r)/\w.cell? (p,1)=some (.slice d a.F.length l)/\w.cell? (p,2)=a.M/\(∀j,w.frozen? ⟨p,j,none⟩=false)/\w.heap[p]? =some (.cells #[.slice i a.T.length r, .slice d a.F.length l,a.M] 186 (0,0))/\w.ownsRow 0 4 1 (.slice i a.T.length r) a.T.length (a.T.map Value.bool)/\w.ownsRow 0 3 1 (.slice d a.F.length l) a.F.length (a.F.map oJ)/\(∀g,i=some ⟨g,0,none⟩->g≠p/\g<w.heap.size/\d≠some ⟨g,0,none⟩)/\(∀g,d=some ⟨g,0,none⟩->g≠p/\g<w.heap.size)/\(∀b,i=some b->∃g,b=⟨g,0,none⟩)/\(∀b,d=some b->∃g,b=⟨g,0,none⟩)/\(∀k,S k↔k=p\/i=some ⟨k,0,none⟩\/d=some ⟨k,0,none⟩)/\p<w:=by
 obtain⟨C,K,J,q,y,v,G,H,I,A⟩:=h;obtain⟨i,r,rfl,D,o⟩:=aD y;obtain⟨d,l,rfl,B,f⟩:=aD v;have u:∀(x:Option Addr) (n c:Nat) (k:Nat),(∀b,x=some b->∃g,b=⟨g,0,none⟩/\0<=g/\g<w.heap.size/\(Value.slice x n c).ownBlock=some g)->((Value.slice x n c).ownBlock=some k↔x=some ⟨k,0,none⟩):=by
  intro x n c k h;cases x with
  | none=>simp[Value.ownBlock]
  | some b=>
   obtain⟨g,rfl,_⟩:=h b rfl;simp[Value.ownBlock]
 refine⟨i,r,d,l,by rw[bb8 w p 0 _ _ _ q];rfl,by rw[bb8 w p 1 _ _ _ q];rfl,by rw[bb8 w p 2 _ _ _ q];rfl,λj=>bc4 w p j _ _ q,q,y,v,?_,?_,?_,?_,?_,(aJ2.1 q).1⟩
 ·intro g t;obtain⟨z,e,_,m,s⟩:=o _ t;cases e;exact⟨λe=>G (e▸s),m,λe=>I g s ((u d _ l g f).2 e)⟩
 ·intro g t;obtain⟨z,e,_,m,s⟩:=f _ t;cases e;exact⟨λe=>H (e▸s),m⟩
 ·intro b h;obtain⟨g,e,_⟩:=o b h;exact⟨g,e⟩
 ·intro b h;obtain⟨g,e,_⟩:=f b h;exact⟨g,e⟩
 ·intro k;rw[A k,u i _ r k o,u d _ l k f]
theorem tF(m:Nat)(w:World)(h:m<=268435456):Calls prog 90 #[m] w λe a=>e= .returned (.pointer w)/\IsArena a w (λk=>k=w.heap.size) (Ar.new m)/\Chg (λ_=>False) w a:=by
 have d:decide ((m:Int)<0)=false:=Es;have b:decide ((268435456:Int)<(m:Int))=false:=by simp;omega
 go_in;go_wp2;go_ret;refine⟨rfl,⟨Ar.new_ok h, .slice none 0 0, .slice none 0 0,bc6 w _,bb2 _ _ _ _,bb2 _ _ _ _,by simp[Value.ownBlock],by simp[Value.ownBlock],λg c=>by simp[Value.ownBlock]at c,λk=>by simp[Value.ownBlock]⟩,Chg.refl.alloc _⟩
theorem tE{w:World}{p:Nat}{S:Nat->Prop}{a:Ar}(h:IsArena w p S a):Calls prog 153 #[.pointer p] w λe v=>e= .returned a.live/\∃n,v=w.drewN n:=by
 obtain⟨C,D,x,y,z,A,B,b,l,q,g,r,s,t,u,f,m⟩:=h.see;have i:=h.ok.fle;have c:(a.T.length:Int)-(a.F.length:Int)=(a.live:Int):=by unfold Ar.live;omega
 have k:=h.ok.max;have j:=h.ok.le;clear l q g r s t u f b;have d:=θ c;clear c;go_in;go_wp2;go_quiet (fail);go_wp2;go_ret;exact⟨bA d.o,_,rfl⟩
theorem Tryz.infoBool:(prog.info? 4).map (λi=>(i.zero,i.size,i.bytes))=some (some (.bool false),1,1):=Ek
theorem Tryz.infoInt':(prog.info? 3).map (λi=>(i.zero,i.size,i.bytes))=some (some (.int .i64 0),1,8):=Ek
def ArStep(w w':World)(p:Nat)(S:Nat->Prop)(a':Ar):Prop:=∃S',IsArena w' p S' a'/\Chg S w w'/\∀k,S' k->S k\/w.heap.size<=k
theorem bD{w:World}{p:Nat}{a:Array Value}{t:TypeId}(h:w.heap[p]? =some (.cells a t (0,0)))(j:Nat)(v:Value):(w.setCell (p,j) v).heap[p]? =some (.cells (a.setIfInBounds j v) t (0,0)):=
 bc7 w p j a t v h
theorem gN{w:World}{b p j:Nat}{v:Value}{o:Obj}(h:w.heap[b]? =some o)(a:b≠p):(w.setCell (p,j) v).heap[b]? =some o:=by
 rw[heap_setCell_other w (p,j) b v a];exact h
theorem dL{w:World}{b:Nat}{e:TypeId}{i n:Nat}{a:Option Addr}{c:Nat}{k:List Value}(h:w.ownsRow b e i (.slice a n c) n k){p j:Nat}(v:Value)(f:∀g,a=some ⟨g,0,none⟩->g≠p)(l:∀d,a=some d->∃g,d=⟨g,0,none⟩):(w.setCell (p,j) v).ownsRow b e i (.slice a n c) n k:=ownsRow_setCell_other h (by
 cases a with
 | none=>simp[Value.ownBlock]
 | some d=>
  obtain⟨g,rfl⟩:=l d rfl
  simpa[Value.ownBlock]using f g rfl) v
theorem IsArena.of {w:World}{p:Nat}{a:Ar}{ta fa:Option Addr}{tc fc:Nat}(y:a.Ok)(u:w.heap[p]? =some (.cells #[.slice ta a.T.length tc, .slice fa a.F.length fc,a.M] 186 (0,0)))(o:w.ownsRow 0 4 1 (.slice ta a.T.length tc) a.T.length (a.T.map Value.bool))(m:w.ownsRow 0 3 1 (.slice fa a.F.length fc) a.F.length (a.F.map oJ))(q:∀g,ta=some ⟨g,0,none⟩->g≠p/\fa≠some ⟨g,0,none⟩)(v:∀g,fa=some ⟨g,0,none⟩->g≠p):IsArena w p (λk=>k=p\/ta=some ⟨k,0,none⟩\/fa=some ⟨k,0,none⟩) a:=by
 have f:∀(x:Option Addr) (n c:Nat) (k:Nat),(∀b,x=some b->∃g,b=(⟨g,0,none⟩:Addr))->((Value.slice x n c).ownBlock=some k↔x=some ⟨k,0,none⟩):=by
  intro x n c k h;cases x with
  | none=>simp[Value.ownBlock]
  | some b=>
   obtain⟨g,rfl⟩:=h b rfl;simp[Value.ownBlock]
 have j:∀b,ta=some b->∃g,b=(⟨g,0,none⟩:Addr):=by
  obtain⟨x,c,l,_,d⟩:=aD o;injection l with i r s
  intro b h;obtain⟨g,e,_⟩:=d b (i▸h);exact⟨g,e⟩
 have d:∀b,fa=some b->∃g,b=(⟨g,0,none⟩:Addr):=by
  obtain⟨x,c,l,_,d⟩:=aD m;injection l with i r s
  intro b h;obtain⟨g,e,_⟩:=d b (i▸h);exact⟨g,e⟩
 refine⟨y,_,_,u,o,m,λe=>(q p ((f ta _ tc p j).1 e)).1 rfl,λe=>(v p ((f fa _ fc p d).1 e)) rfl,λg t e=>(q g ((f ta _ tc g j).1 t)).2 ((f fa _ fc g d).1 e),λk=>?_⟩;rw[f ta _ tc k j,f fa _ fc k d]
theorem Bv{w:World}{p:Nat}{S:Nat->Prop}{a:Ar}(h:IsArena w p S a)(hl:a.live≠a.M){k:Nat}(t:a.F.getLast?=some k):Calls prog 98 #[.pointer p] w λe w'=>e= .returned (.tuple #[k, .int .i64 0])/\ArStep w w' p S (a.pop k):=by
 obtain⟨ta,tc,fa,O,h0,h1,h2,q,hp,W,B,n1,n2,n3,n4,hS,a6⟩:=h.see;have C:=h.ok.last_lt t;have a5:=h.ok.max;have a4:=h.ok.le;have R:=h.ok.fle;have V:a.F≠[]:=by intro e;rw[e]at t;cases t
 have z:0<a.F.length:=List.length_pos_iff.2 V;obtain⟨y,a0,Y,_,a2,l,_,c,_⟩:=cS B z;injection Y with s _ u
 subst s;subst u;obtain⟨J,a1,Y,_,a7,X,_,d,i⟩:=cS W E;injection Y with s _ u
 subst s;subst u;obtain⟨r,_,I⟩:=n1 J rfl;obtain⟨H,_⟩:=n2 y rfl;have f:=c (a.F.length-1) E;rw[aO3,<-List.getLast?_eq_getElem?,t]at f;have A:=d k C;rw[aO3,aO0 C]at A;simp only[aY6,oJ]at A f;have a8:=i k;have a3:((a.live:Int)==(a.M:Int))=false:=by simp;omega
 have hq:∀n,IsArena (w.drewN n) p S a:=λn=>h.chg (Chg.refl.drewN n) (S':=λ_=>False) (λk t B=>B);have HQ:=θ hq;clear hq;have G:=Ar.pop_ok h.ok t;generalize P:a.T[k]=b0 at *;have Q:decide ((0:Int)<(a.F.length:Int))=true:=by simp;omega
 have a9:=q 1;have HF:=θ q;have HP:=θ hp;have HT:=θ W;have K:=θ B;have N:=θ hS;clear q hp W B hS d c i n1 n2 n3 n4 hl P;obtain⟨n,U⟩:∃n,a.F.length=n+1:=⟨a.F.length-1,E⟩;have L:=θ U;rw[U]at h1 l Q f z R;rw[show n+1-1=n from E]at f;clear U;go_in;go_wp2;go_quiet ((go_at_call 153;exact Calls.quiet_of (tE (HQ.o _))));go_wp2;go_ret2;have s:(a.pop k).T.length=a.T.length:=by simp[Ar.pop]
 have e2:(a.pop k).F.length=n:=by have :=L.o;simp[Ar.pop];omega
 have D:y≠J:=λe=>I (by rw[e]);refine⟨rfl,_,IsArena.of (ta:=some ⟨J,0,none⟩) (tc:=tc) (fa:=some ⟨y,0,none⟩) (fc:=O) G ?_ ?_ ?_ ?_ ?_,?_,?_⟩
 ·rw[s,e2];have :=gN (bD (w:=w.drewN nq) HP.o 1 (.slice y n O)) (p:=J) (j:=k) (v:= .bool true) (λe=>r e.symm);exact this
 ·rw[s];have :=yT (dL (w:=w.drewN nq) HT.o (p:=p) (j:=1) (.slice y n O) (λg b=>by cases b;exact r) (λZ b=>by cases b;exact⟨_,rfl⟩)) k (.bool true);rw[<-List.map_set]at this;exact this
 ·rw[e2];have h3:=K.o;rw[L.o]at h3;have h4:=aq6 h3 (m:=n) E;have u:(a.F.map oJ).take n=(a.pop k).F.map oJ:=by
   rw[<-aQ8];congr 1;show _=a.F.dropLast;rw[List.dropLast_eq_take,L.o];rfl
  rw[u]at h4;exact dL (dL (w:=w.drewN nq) h4 _ (λg b=>by cases b;exact H) (λZ b=>by cases b;exact⟨_,rfl⟩)) _ (λg b=>by cases b;exact D) (λZ b=>by cases b;exact⟨_,rfl⟩)
 ·intro g b;cases b;exact⟨r,I⟩
 ·intro g b;cases b;exact H
 ·exact((Chg.refl.drewN nq).setCell _ (Ei ((N.o p).2 (Ei rfl))) _).setCell _ (Ei ((N.o J).2 (Ej (Ei rfl)))) _
 ·exactλx hx=>Ei ((N.o x).2 hx)
theorem zD{w:World}{p:Nat}{S:Nat->Prop}{a:Ar}(h:IsArena w p S a)(hl:a.live≠a.M)(J:a.F=[]):Calls prog 98 #[.pointer p] w λe w'=>e= .returned (.tuple #[a.T.length, .int .i64 0])/\ArStep w w' p S a.more:=by
 obtain⟨u,Z,D,R,h0,h1,h2,H,hp,ht,O,n1,n2,Y,n4,hS,L⟩:=h.see;have a7:=h.ok.max;have a6:=h.ok.le;have X:a.T.length<a.M:=by
  simp only[Ar.live,J,aP8]at hl;omega
 have a5:((a.live:Int)==(a.M:Int))=false:=by simp;omega
 have hq:∀n,IsArena (w.drewN n) p S a:=λn=>h.chg (Chg.refl.drewN n) (S':=λ_=>False) (λk J O=>O);have HQ:=θ hq;clear hq;have t:=Ar.more_ok h.ok X;have a8:=H 0;have s:a.F.length=0:=by rw[J];rfl
 have HP:=θ hp;have P:=θ O;have A:=θ hS;have a0:=θ s;have HK:=θ J;have ob:∀x n c,(Value.slice u n c).ownBlock=some x->u=some ⟨x,0,none⟩:=by
  intro x n c i;cases u with
  | none=>simp[Value.ownBlock]at i
  | some v=>obtain⟨g,rfl⟩:=Y v rfl;simp[Value.ownBlock]at i;rw[i]
 rw[s]at h1;have j:=θ n1;have q:=θ n2;have a1:=θ Y;have z:=θ n4;have f:=θ ob;clear H hp O hS n1 n2 Y n4 hl s J ob;go_in;go_wp2;go_quiet ((go_at_call 153;exact Calls.quiet_of (tE (HQ.o _))));go_wp2_with (at_builtin;refine qV rfl _ _ 132 rfl 0 4 Tryz.infoBool aZ7 rfl _ _ _ rfl ht rfl rfl ?c1 ?c2 ?c3 ?_);case c1=>unfold maxLen;omega
 case c2=>omega
 case c3=>omega
 intro g B y m d K a4;have N:some p≠(Value.slice u a.T.length Z).ownBlock:=λe=>((j.o p (f.o p _ _ e.symm)).1 rfl);have l:y.heap[p]? =some (.cells #[.slice u a.T.length Z, .slice D a.F.length R,a.M] 186 (0,0)):=(d.block p L N).trans HP.o;have a2:y.cell? p=some (.slice u a.T.length Z):=by rw[bb8 y p 0 _ _ _ l];rfl
 have a3:y.frozen? p=false:=bc4 y p 0 _ _ l;have Q:=θ l;have HO:=θ m;have HG:=θ d;have r:=θ K;clear l m d K N ht h0 h1;go_wp2;go_ret2;have I:g≠p:=by
  rcases r.o with e | e
  ·exactλC=>(j.o g (f.o g _ _ e)).1 C
  ·intro C;subst C;exact absurd L (by have :(w.drewN nq).heap.size=w.heap.size:=rfl;omega)
 have W:D≠some ⟨g,0,none⟩:=by
  rcases r.o with e | e
  ·exact(j.o g (f.o g _ _ e)).2.2
  ·intro C;have :=(q.o g C).2;have h3:(w.drewN nq).heap.size=w.heap.size:=rfl;omega
 have e1:a.more.T.length=a.T.length+1:=by simp[Ar.more]
 have V:y.ownsRow 0 3 1 (.slice D a.F.length R) a.F.length (a.F.map oJ):=by
  refine P.o.kept (w:=w.drewN nq) HG.o ?_;cases D with
  | none=>left;rfl
  | some v=>
   obtain⟨U,rfl⟩:=z.o v rfl;right;intro e;have e3:u=some ⟨U,0,none⟩:=f.o U _ _ (by rw[<-e];rfl);exact(j.o U e3).2.2 rfl
 refine⟨Es,_,IsArena.of (ta:=some ⟨g,0,none⟩) (tc:=B) (fa:=D) (fc:=R) t ?_ ?_ ?_ ?_ ?_,?_,?_⟩
 ·rw[e1];exact bD Q.o 0 (.slice g (a.T.length+1) B)
 ·rw[e1];have h3:a.more.T.map Value.bool=a.T.map Value.bool++[.bool true]:=by simp[Ar.more]
  rw[h3];exact dL HO.o _ (λG b=>by cases b;exact I) (λv b=>by cases b;exact⟨_,rfl⟩)
 ·exact dL V _ (λG b=>(q.o G b).1) (λv b=>z.o v b)
 ·intro G b;cases b;exact⟨I,W⟩
 ·intro G b;exact(q.o G b).1
 ·exact((Chg.refl.drewN nq).grown HG.o (λx i=>Ei ((A.o x).2 (Ej (Ei (f.o x _ _ i)))))).setCell _ (Ei ((A.o p).2 (Ei rfl))) _
 ·intro x i;rcases i with rfl | i | i
  ·exact Ei ((A.o _).2 (Ei rfl))
  ·cases i;rcases r.o with e | e
   ·exact Ei ((A.o _).2 (Ej (Ei (f.o _ _ _ e))))
   ·exact Ej e
  ·exact Ei ((A.o _).2 (Ej (Ej i)))
theorem Js{w:World}{p n q:Nat}{m:Option Addr}{T:List Bool}(k:Int)(B:w.cell? p=some (.slice m n q))(i:w.ownsRow 0 4 1 (.slice m n q) n (T.map Value.bool))(h:T.length=n)(v:n<=268435456):Calls prog 234 #[.pointer p,k] w λe y=>e= .returned (.bool (lW T k))/\w=y:=by
 by_cases d:0<=k
 ·have j:decide (0<=k)=true:=by simpa using d
  by_cases f:k<n
  ·have s:decide (k<(n:Int))=true:=by simpa using f
   obtain⟨g,r,x,_,_,_,_,a,_⟩:=cS i E;injection x with t A u
   subst t;subst u;have l:=a k.toNat E;rw[aO3,aO0 E]at l;simp only[aY6]at l;have c:Hid (T[k.toNat]=lW T k):=by
    show _=(decide (0<=k)&&_);rw[j,aO0 E];simp
   generalize T[k.toNat]=b at *;have z:=θ h;clear a i h;go_in;go_wp2;go_ret;exact⟨dO c.o,rfl⟩
  ·have s:decide (k<(n:Int))=false:=by simpa using f
   have c:Hid (false=lW T k):=by
    show _=(decide (0<=k)&&_);rw[aO1 E];simp
   clear i h;go_in;go_wp2;go_ret;exact⟨dO c.o,rfl⟩
 ·have j:decide (0<=k)=false:=by simpa using d
  have c:Hid (false=lW T k):=by
   show _=(decide (0<=k)&&_);rw[j];rfl
  clear i h;go_in;go_wp2;go_ret;exact⟨dO c.o,rfl⟩
theorem It{T a:List Bool}{l:List Int}{i:Nat}(b:i<l.length)(h:clr T (l.take i)=some a):clr T (l.take (i+1))=if lW a (l[i]?.getD 0)=true then some (a.set (l[i]?.getD 0).toNat false)else none:=by
 rw[aT5,aO0 b,aY8,ak7,h];rfl
theorem Af{T:List Bool}{l:List Int}{i:Nat}(h:clr T (l.take i)=none):clr T l=none:=by
 have c:∀(a b:List Int) (T:List Bool),clr T a=none->clr T (a++b)=none:=by
  intro a;induction a with
  | nil=>intro b T h;cases h
  | cons x a e=>
   intro b T h;simp only[clr,aL4]at *;split
   ·rename_i d;rw[bd0 d]at h;exact e b _ h
   ·rfl
 rw[<-aT6 i l];exact c _ _ _ h
theorem Cr(T:List Bool)(l:List Int)(j:Nat)(a:j<l.length):(l.take (j+1)).foldl (λT k=>T.set k.toNat true) T=((l.take j).foldl (λT k=>T.set k.toNat true) T).set (l[j]?.getD 0).toNat true:=by
 rw[aT5,aO0 a,aY8,List.foldl_append];rfl
theorem Yy(l:List Int)(U:List Bool):(l.foldl (λT k=>T.set k.toNat true) U).length=U.length:=by
 induction l generalizing U with
 | nil=>rfl
 | cons y l a=>simp only[List.foldl_cons];rw[a];simp
theorem Mp{S:Nat->Prop}{w e:World}{k:IntKind}{a:Option Addr}{b:List Int}(h:Chg S w e)(g:Reads w k a b)(f:0<b.length->∀c,a=some c->¬S c.block):Reads e k a b:=by
 rcases aV0 b.length with d | d
 ·intro i j;omega
 ·exact h.reads g (f d)
theorem aj6{w:World}{p:Nat}{S:Nat->Prop}{a:Ar}(h:IsArena w p S a)(l:List Int)(la:Option Addr)(lc:Nat)(hl:Reads w .i64 la l)(a6:la=none->l.length=0/\lc=0)(a8:0<l.length->∀v,la=some v->¬S v.block)(f9:l.length<=1000000000)(g9:l.length<=lc):Calls prog 213 #[.pointer p, .slice la l.length lc] w λe w'=>e= .returned (.int .i64 (a.free l).1)/\ArStep w w' p S (a.free l).2:=by
 obtain⟨ta,tc,Q,fc,h0,h1,h2,f1,hp,ht,hf,n1,n2,n3,n4,hS,h5⟩:=h.see;have h4:=h.ok.max;have h3:=h.ok.le;have g7:=h.ok.fle;have c8:=θ h.ok;have HP:=θ hp;have e4:=θ hf;have HS:=θ hS;have t:=θ n1;have b0:=θ n2;have c5:=θ n3;have a3:=θ n4;have c6:=θ a6;have V:=θ a8;clear hp hf hS n1 n2 n3 n4 h0 h1 h2 f1 a6 a8;generalize d4:a.T.length=O at *;have b3:=θ d4;clear d4;generalize d3:a.F.length=nF at *;have b2:=θ d3;clear d3;go_in;go_wp2;go_loopw [13] (λi wr=>∃k:Nat,k<=l.length/\i= .int .i64 k/\∃K,clr a.T (l.take k)=some K/\wr.ownsRow 0 4 1 (.slice ta O tc) O (K.map Value.bool)/\
   wr.heap[p]? =some (.cells #[.slice ta O tc, .slice Q nF fc,a.M] 186 (0,0))/\wr.ownsRow 0 3 1 (.slice Q nF fc) nF (a.F.map oJ)/\Chg S w wr)
  (λi _=>l.length-(intOf i).toNat)
 exact⟨0,E,rfl,a.T,rfl,ht,HP.o,e4.o,Chg.refl⟩;case round=>
  obtain⟨k,hk,rfl,K,C,d,N,D,B⟩:=hrel;obtain⟨wo,rfl⟩:∃wo:World,wo=wr:=⟨_,rfl⟩;have R:K.length=O:=by have :=pK d;simpa using this
  have b5:wo.cell? p=some (.slice ta O tc):=by rw[bb8 wo p 0 _ _ _ N];rfl
  have a1:=θ C;have A:=θ N;have P:=θ D;have f:=θ B;clear C N D B ht;by_cases d2:k<l.length
  ·have G:=Mp f.o hl V.o;obtain⟨b,f7,rfl,g3,m⟩:=G.some E;have g4:=m k d2;have a0:=It d2 a1.o;have d1:=θ a0;generalize I:l[k]?.getD 0=x at *;have HX:=θ I;have g1:=θ m;clear a0 I m G;have f8:k<=lc:=E;cases hIs:lW K x
   ·have a2:=θ hIs;clear hIs;go_wp2_with (go_at_call 234;refine(Js _ b5 d R E).mono ?_;rintro e w' ⟨he,rfl⟩;rw[a2.o]at he;subst he);have a9:=(Fe a1.o).2.1;have HV:=θ a9;clear a9;go_loopw [26] (λi wr=>∃j:Nat,j<=k/\i= .int .i64 j/\wr.ownsRow 0 4 1 (.slice ta O tc) O (((l.take j).foldl (λT k=>T.set k.toNat true) K).map Value.bool)/\
      wr.heap[p]? =some (.cells #[.slice ta O tc, .slice Q nF fc,a.M] 186 (0,0))/\wr.ownsRow 0 3 1 (.slice Q nF fc) nF (a.F.map oJ)/\Chg S w wr)
     (λi _=>k-(intOf i).toNat)
    exact⟨0,E,rfl,d,A.o,P.o,f.o⟩;case round=>
     obtain⟨j,hj,rfl,d,N,D,B⟩:=hrel;have b5:wr.cell? p=some (.slice ta O tc):=by rw[bb8 wr p 0 _ _ _ N];rfl
     have A:=θ N;have P:=θ D;have f:=θ B;clear N D B;by_cases g8:j<k
     ·have G:=Mp f.o hl V.o;obtain⟨b',g0,f0,_,m⟩:=G.some E;cases f0;have g5:=m j E;have Z:=Cr K l j E;have hv:=HV.o (l[j]?.getD 0) (by
       rw[aO0 (show j<l.length by omega)]
       rw[List.mem_take_iff_getElem]
       exact⟨j,E,rfl⟩)
      generalize l[j]?.getD 0=y at *;obtain⟨h8,d9⟩:=hv;have f5:y.toNat<O:=by have :=(aO2.1 d9).1;have :=b3.o;omega
      have hU:((l.take j).foldl (λT k=>T.set k.toNat true) K).length=O:=by rw[Yy];exact R
      generalize (l.take j).foldl (λT k=>T.set k.toNat true) K=U at *;obtain⟨tb,e0,hv,_,f2,b7,_,r,H⟩:=cS d E;injection hv with e1 _ e3
      subst e1;subst e3;obtain⟨b9,_,b8⟩:=t.o tb rfl;have W:=r y.toNat f5;rw[aO3,aO0 E]at W;simp only[aY6]at W;have f6:=H y.toNat;generalize U[y.toNat]=bv at *;have HO:=θ d;have e6:=θ Z;have h9:y<(O:Int):=E;clear m G r H d Z d9 hU R;go_wp2;go_roundw;case rel=>
       refine⟨j+1,E,Es,?_,?_,?_,?_⟩
       ·rw[e6.o,List.map_set];exact yT HO.o y.toNat (.bool true)
       ·exact gN A.o (λe=>b9 e.symm)
       ·exact dL P.o _ (λg s e=>b8 (by rw[s,e])) (λv s=>a3.o v s)
       ·exact f.o.setCell _ (Ei ((HS.o tb).2 (Ej (Ei rfl)))) _
      case measure=>simp[intOf];omega
     ·obtain rfl:j=k:=E;have hb:=ak6 a1.o;rw[hb]at d;have HO:=θ d;have J:Hid (a.free l=(7,a)):=by
       show Ar.free a l=_;unfold Ar.free;rw[Af (l:=l) (i:=j+1) (by rw[d1.o,a2.o];rfl)]
      clear d hb R;go_wp2;go_ret;rw[J.o];refine⟨rfl,_,IsArena.of (ta:=ta) (tc:=tc) (fa:=Q) (fc:=fc) c8.o ?_ ?_ ?_ ?_ ?_,f.o,λx I=>Ei ((HS.o x).2 I)⟩
      ·rw[b3.o,b2.o];exact A.o
      ·rw[b3.o];exact HO.o
      ·rw[b2.o];exact P.o
      ·exactλg s=>⟨(t.o g s).1,(t.o g s).2.2⟩
      ·exactλg s=>(b0.o g s).1
   ·obtain⟨h6,d8⟩:=pT.1 hIs;obtain⟨f3,f4⟩:=aO2.1 d8;obtain⟨tb,e0,hv,_,f2,b7,_,r,H⟩:=cS d E;injection hv with e1 _ e3
    subst e1;subst e3;obtain⟨b9,_,b8⟩:=t.o tb rfl;have W:=r x.toNat E;rw[aO3,aO0 f3]at W;simp only[aY6]at W;have f6:=H x.toNat;generalize K[x.toNat]=bv at *;have HO:=θ d;have a2:=θ hIs;have e7:=θ R;have h7:x<(O:Int):=E;clear r H d8 f4 d R;go_wp2_with (go_at_call 234;refine Cq (Js _ b5 HO.o e7.o E) ?_);go_roundw;case rel=>
     refine⟨k+1,E,Es,K.set x.toNat false,by rw[d1.o,a2.o];rfl,?_,?_,?_,?_⟩
     ·rw[List.map_set];exact yT HO.o x.toNat (.bool false)
     ·exact gN A.o (λe=>b9 e.symm)
     ·exact dL P.o _ (λg s e=>b8 (by rw[s,e])) (λv s=>a3.o v s)
     ·exact f.o.setCell _ (Ei ((HS.o tb).2 (Ej (Ei rfl)))) _
    case measure=>simp[intOf];omega
  ·obtain rfl:k=l.length:=E;have C:=a1.o;rw[aT8]at C;have J:Hid (a.free l=(0,a.push K l)):=by
    show Ar.free a l=_;unfold Ar.free;rw[C]
   have b6:=Ar.push_ok c8.o C;have a7:=(Fe C).2.1;have d0:=θ a7;have e9:wo.cell? (p,1)=some (.slice Q nF fc):=by rw[bb8 wo p 1 _ _ _ A.o];rfl
   have G:=Mp f.o hl V.o;have D:=P.o;have HO:=θ d;have X:∀q,la=some q->∀j u,(l.map (Value.int .i64))[j]? =some u->wo.cell? (q.add j)=some u:=by
    intro q hq j u hu;rw[aO3]at hu;by_cases hj:j<l.length
    ·obtain⟨b,f7,e,_,hc⟩:=G.some E;rw[hq]at e;cases e;rw[aI7,hc j hj,aO0 hj];rw[aO0 hj]at hu;simpa using hu
    ·rw[aO1 E]at hu;cases hu
   have b1:=θ X;clear C a7 G d X;go_wp2_with (at_builtin;refine dT rfl _ _ 36 rfl 0 3 Tryz.infoInt' ba0 rfl _ _ _ rfl D _ _ _ (l.map (Value.int .i64)) rfl Es ?c0 b1.o ?c1 ?c2 ?c3 ?c4 ?_);case c0=>intro e;exact c6.o e
   case c1=>intro u hu;obtain⟨z,_,rfl⟩:=aR4.1 hu;rfl
   case c2=>unfold maxLen;omega
   case c3=>omega
   case c4=>omega
   intro a' c' w1 Y L d5;have d7:some p≠(Value.slice Q nF fc).ownBlock:=by
    intro e;cases Q with
    | none=>simp[Value.ownBlock]at e
    | some v=>
     obtain⟨g,rfl⟩:=a3.o v rfl;simp[Value.ownBlock]at e;exact(b0.o g rfl).1 e.symm
   have d6:p<wo:=(aJ2.1 A.o).1;have a4:w1.heap[p]? =some (.cells #[.slice ta O tc, .slice Q nF fc,a.M] 186 (0,0)):=(L.block p d6 d7).trans A.o;have e9:w1.cell? (p,1)=some (.slice Q nF fc):=by rw[bb8 w1 p 1 _ _ _ a4];rfl
   have g6:w1.frozen? (p,1)=false:=bc4 w1 p 1 _ _ a4;have e5:=θ a4;have c7:=θ Y;have HG:=θ L;have c9:=θ d5;clear a4 Y L d5 d7 D;go_wp2;go_ret;have a5:∀x n c,(Value.slice Q n c).ownBlock=some x->Q=some ⟨x,0,none⟩:=by
    intro x n c I;cases Q with
    | none=>simp[Value.ownBlock]at I
    | some v=>obtain⟨g,rfl⟩:=a3.o v rfl;simp[Value.ownBlock]at I;rw[I]
   have b4:∀g,a'=some ⟨g,0,none⟩->g≠p/\ta≠some ⟨g,0,none⟩:=by
    intro g s;rcases c9.o g s with e | e
    ·have :=a5 g _ _ e;exact⟨(b0.o g this).1,λe2=>(t.o g e2).2.2 this⟩
    ·refine⟨λe2=>E,λe2=>?_⟩;have :=(t.o g e2).2.1;have :=f.o.size;omega
   have e8:∀v,a'=some v->∃g,v=(⟨g,0,none⟩:Addr):=by
    obtain⟨x,c,hv,_,hb⟩:=aD c7.o;injection hv with e1 e2 e3
    intro v hh;obtain⟨g,e,_⟩:=hb v (e1▸hh);exact⟨g,e⟩
   rw[J.o];have e1:(a.push K l).T.length=O:=by have :=pK HO.o;simpa[Ar.push]using this
   have e2:(a.push K l).F.length=nF+l.length:=by have :=b2.o;simp[Ar.push];omega
   have e3:(a.push K l).F.map oJ=a.F.map oJ++l.map (Value.int .i64):=by
    show (a.F++l.map Int.toNat).map oJ=_;rw[aQ2,aQ6];congr 1;apply aQ3;intro y hy;have :=(d0.o y hy).1;show Value.int .i64 ((y.toNat:Nat):Int)=_;rw[aK6 this]
   refine⟨rfl,_,IsArena.of (ta:=ta) (tc:=tc) (fa:=a') (fc:=c') b6 ?_ ?_ ?_ ?_ ?_,?_,?_⟩
   ·rw[e1,e2];exact bD e5.o 1 (.slice a' (nF+l.length) c')
   ·rw[e1];refine dL (HO.o.kept HG.o ?_) _ (λg s=>(t.o g s).1) (λv s=>c5.o v s);cases ta with
    | none=>left;rfl
    | some v=>
     obtain⟨g2,rfl⟩:=c5.o v rfl;right;intro e;exact(t.o g2 rfl).2.2 (a5 g2 _ _ (by rw[<-e];rfl))
   ·rw[e2,e3];exact dL c7.o _ (λg s=>(b4 g s).1) e8
   ·intro g s;exact⟨(t.o g s).1,λe=>(b4 g e).2 s⟩
   ·intro g s;exact(b4 g s).1
   ·exact(f.o.grown HG.o (λx I=>Ei ((HS.o x).2 (Ej (Ej (a5 x _ _ I)))))).setCell _ (Ei ((HS.o p).2 (Ei rfl))) _
   ·intro x I;rcases I with rfl | I | I
    ·exact Ei ((HS.o _).2 (Ei rfl))
    ·exact Ei ((HS.o _).2 (Ej (Ei I)))
    ·rcases c9.o x I with e | e
     ·exact Ei ((HS.o _).2 (Ej (Ej (a5 x _ _ e))))
     ·have :=f.o.size;exact Ej E
theorem tD{w:World}{p:Nat}{S:Nat->Prop}{a:Ar}(h:IsArena w p S a)(l:List Int)(f:Option Addr)(g:Nat)(k:Reads w .i64 f l)(c:f=none->l.length=0/\g=0)(d:∀j,f=some j->¬S j.block)(b:l.length<=1000000000)(i:l.length<=g):Calls prog 213 #[.pointer p, .slice f l.length g] w λe m=>e= .returned (.int .i64 (a.free l).1)/\ArStep w m p S (a.free l).2:=
 aj6 h l f g k c (λ_=>d) b i
structure Nd where
 left:Int
 right:Int
 height:Int
 n:Int
 ones:Int
 ln:Int
 lones:Int
 b:Option Nat
def fO(b:Option Nat):Value:= .pointer (b.map λq=>(q,0))
def Nd.cells (x:Nd):List Value:=[.int .i64 x.left, .int .i64 x.right, .int .i64 x.height, .int .i64 x.n, .int .i64 x.ones, .int .i64 x.ln, .int .i64 x.lones,fO x.b]
def dI:List Nd->List Value
 | []=>[]
 | x::xs=>x.cells++dI xs
theorem Cf:∀xs:List Nd,(dI xs).length=xs.length*8
 | []=>rfl
 | x::xs=>by simp only[dI,aP3,aP4,Cf xs];simp[Nd.cells];omega
theorem Ce:∀(xs:List Nd) (k i:Nat) (x:Nd),xs[k]? =some x->i<8->(dI xs)[k*8+i]? =x.cells[i]?
 | [],k,i,x,h,_=>by simp at h
 | y::xs,0,i,x,h,hi=>by
  simp at h;subst h;simp only[dI,aY2,aY0];rw[List.getElem?_append_left (by simpa[Nd.cells]using hi)]
 | y::xs,k+1,i,x,h,hi=>by
  simp only[dI];rw[aN7 (by simp[Nd.cells];omega),show (k+1)*8+i-y.cells.length=k*8+i by simp[Nd.cells];omega];exact Ce xs k i x (by simpa using h) hi
theorem Cg:∀(xs:List Nd) (k i:Nat) (x a:Nd) (v:Value),xs[k]? =some x->i<8->x.cells.set i v=a.cells->(dI xs).set (k*8+i) v=dI (xs.set k a)
 | [],k,i,x,a,v,h,_,_=>by simp at h
 | y::xs,0,i,x,a,v,h,hi,he=>by
  simp at h;subst h;simp only[dI,aY2,aY0,aT1];rw[List.set_append_left _ _ (by simpa[Nd.cells]using hi),he]
 | y::xs,k+1,i,x,a,v,h,hi,he=>by
  simp only[dI,List.set_cons_succ];rw[List.set_append_right _ _ (by simp[Nd.cells];omega),show (k+1)*8+i-y.cells.length=k*8+i by simp[Nd.cells];omega];rw[Cg xs k i x a v (by simpa using h) hi he]
theorem Tq(xs a:List Nd):dI (xs++a)=dI xs++dI a:=by
 induction xs with
 | nil=>rfl
 | cons x xs b=>simp[dI,b]
def TypeAt(w:World)(k:Nat)(T:TypeId):Prop:=∃cs,w.heap[k]? =some (.cells cs T (0,0))
theorem TypeAt.ne {w:World}{k j:Nat}{T U:TypeId}(h:TypeAt w k T)(g:TypeAt w j U)(a:T≠U):k≠j:=by
 rintro rfl;obtain⟨b,h⟩:=h;obtain⟨c,g⟩:=g;rw[h]at g;injection g with g
 injection g with _ g
 exact a g
theorem TypeAt.lt {w:World}{k:Nat}{T:TypeId}(h:TypeAt w k T):k<w:=by
 obtain⟨a,h⟩:=h;exact(aJ2.1 h).1
theorem gH{w:World}{a:Nat}{e:TypeId}{k n c g:Nat}{xs:List Value}(h:w.ownsRow a e k (.slice g n c) n xs):TypeAt w g e:=by
 rcases h.2 with ⟨h,_⟩ | ⟨m,d,f,j,_,i,_⟩
 ·cases h
 ·injection j with b _ l
  injection b with b
  injection b with b _ _
  subst b;exact⟨_,i⟩
theorem IsArena.types {w:World}{p:Nat}{S:Nat->Prop}{a:Ar}(h:IsArena w p S a){k:Nat}(d:S k):TypeAt w k 186\/TypeAt w k 4\/TypeAt w k 3:=by
 obtain⟨j,l,g,i,_,_,_,_,e,f,c,_,_,_,_,b,_⟩:=h.see;rcases(b k).1 d with rfl | rfl | rfl
 ·exact Ei ⟨_,e⟩
 ·exact Ej (Ei (gH f))
 ·exact Ej (Ej (gH c))
theorem IsBlock.type {w:World}{p:Nat}{l:List Bool}(h:IsBlock w p l):TypeAt w p 242:=⟨_,h.2⟩
structure Head (w:World) (p:Nat) (C:Nat->Prop) (A:Ar) (xs:List Nd) (root vis:Int):Prop where
 ex:∃ap SA ra rc,w.heap[p]? =some (.cells #[.pointer (some ⟨ap,0,none⟩), .slice ra xs.length rc,root,vis] 218 (0,0))/\
  IsArena w ap SA A/\w.ownsRow 0 221 8 (.slice ra xs.length rc) xs.length (dI xs)/\(∀k,C k↔k=p\/SA k\/ra=some ⟨k,0,none⟩)
structure HStep (w w':World) (C C':Nat->Prop):Prop where
 chg:Chg C w w'
 new:∀k,C' k->C k\/w.heap.size<=k
section
variable {w w' w1 w2:World}{p:Nat}{C C' C'':Nat->Prop}{A:Ar}{xs:List Nd}{root vis:Int}
theorem HStep.trans (h:HStep w w1 C C')(g:HStep w1 w2 C' C''):HStep w w2 C C'':=
 ⟨h.chg.trans g.chg h.new,λk b=>(g.new k b).elim (h.new k) (λa=>Ej (aV4 h.chg.size a))⟩
theorem iU{b:Nat}{e:TypeId}{k n c:Nat}{a:Option Addr}{l:List Value}(h:w.ownsRow b e k (.slice a n c) n l):∀d,a=some d->∃g,d=(⟨g,0,none⟩:Addr):=by
 obtain⟨x,m,j,_,i⟩:=aD h;injection j with f _ _
 subst f;intro d h;obtain⟨g,e,_⟩:=i d h;exact⟨g,e⟩
theorem eZ{a:Option Addr}{n c k:Nat}(h:∀b,a=some b->∃g,b=(⟨g,0,none⟩:Addr)):(Value.slice a n c).ownBlock=some k↔a=some ⟨k,0,none⟩:=by
 cases a with
 | none=>simp[Value.ownBlock]
 | some b=>obtain⟨g,rfl⟩:=h b rfl;simp[Value.ownBlock]
theorem Head.types (h:Head w p C A xs root vis){k:Nat}(a:C k):TypeAt w k 218\/TypeAt w k 221\/TypeAt w k 186\/TypeAt w k 4\/TypeAt w k 3:=by
 obtain⟨g,f,i,rc,e,c,d,b⟩:=h.ex;rcases(b k).1 a with rfl | a | rfl
 ·exact Ei ⟨_,e⟩
 ·exact Ej (Ej (c.types a))
 ·exact Ej (Ei (gH d))
theorem Head.lt (h:Head w p C A xs root vis):∀k,C k->k<w.heap.size:=by
 intro k a;rcases h.types a with h | h | h | h | h<;>exact h.lt
theorem Head.self (h:Head w p C A xs root vis):C p:=by
 obtain⟨c,b,g,rc,f,d,e,a⟩:=h.ex;exact(a p).2 (Ei rfl)
theorem Head.notBlk (h:Head w p C A xs root vis){q:Nat}(b:TypeAt w q 242):¬C q:=by
 intro a;rcases h.types a with g | g | g | g | g<;>exact g.ne b Ed rfl
theorem Head.drewN (h:Head w p C A xs root vis)(n:Nat):Head (w.drewN n) p C A xs root vis:=by
 obtain⟨b,a,g,rc,f,d,e,c⟩:=h.ex;exact⟨b,a,g,rc,f,d.chg (Chg.refl.drewN n) (S':=λ_=>False) (λ_ _ h=>h),e,c⟩
theorem Head.chg {S:Nat->Prop}(h:Head w p C A xs root vis)(b:Chg S w w')(c:∀k,C k->¬S k):Head w' p C A xs root vis:=by
 obtain⟨g,f,l,rc,j,i,e,a⟩:=h.ex;exact⟨g,f,l,rc,b.heap j (c p ((a p).2 (Ei rfl))),i.chg b (λk d=>c k ((a k).2 (Ej (Ei d)))),
  b.own e (λk d=>c k ((a k).2 (Ej (Ej ((eZ (iU e)).1 d))))),a⟩
theorem Head.below (h:Head w p C A xs root vis)(a:Below w w w'):Head w' p C A xs root vis:=
 h.chg (S:=λ_=>False) (Chg.of_below a) (λ_ _ h=>h)
theorem Head.cells (h:Head w p C A xs root vis):(∃b,w.cell? p=some (.pointer (some ⟨b,0,none⟩)))/\w.cell? (p,2)=root/\w.cell? (p,3)=vis/\(∀j,w.frozen? ⟨p,j,none⟩=false):=by
 obtain⟨b,c,g,rc,a,e,f,d⟩:=h.ex;exact⟨⟨b,by rw[bb8 w p 0 _ _ _ a];rfl⟩,by rw[bb8 w p 2 _ _ _ a];rfl,by rw[bb8 w p 3 _ _ _ a];rfl,λj=>bc4 w p j _ _ a⟩
theorem Head.row (h:Head w p C A xs root vis)(u:0<xs.length):∃g rc a,w.cell? (p,1)=some (.slice (some ⟨g,0,none⟩) xs.length rc)/\g≠p/\C g/\xs.length<=rc/\rc<=maxLen/\w.heap[g]? =some (.cells a 221 (0,0))/\a.size=rc*8/\a.toList.take (xs.length*8)=dI xs:=by
 obtain⟨r,q,v,rc,c,t,n,m⟩:=h.ex;rcases n.2 with ⟨_,s⟩ | ⟨g,d,a,o,_,b,i,j,k,l⟩
 ·omega
 ·injection o with e _ f
  subst e;subst f;exact⟨g,rc,a,by rw[bb8 w p 1 _ _ _ c];rfl,TypeAt.ne ⟨_,b⟩ ⟨_,c⟩ Ed,(m g).2 (Ej (Ej rfl)),i,j,b,k,l⟩
theorem Head.node (h:Head w p C A xs root vis){g n rc:Nat}(s:w.cell? (p,1)=some (.slice g n rc)){k:Nat}{x:Nd}(f:xs[k]? =some x):(∀i v,x.cells[i]? =some v->w.cell? ⟨g,k*8+i,none⟩=some v)/\(∀j,w.frozen? ⟨g,j,none⟩=false)/\k<xs.length/\n=xs.length/\g≠p/\C g:=by
 have u:k<xs.length:=(aO2.1 f).1;obtain⟨z,y,a,c,o,q,B,D,d,F,r⟩:=h.row E;rw[s]at c;injection c with c
 injection c with b l m
 injection b with b
 injection b with b _ _
 subst b;subst l;subst m;refine⟨λi v e=>?_,λj=>bc4 w g j _ _ d,u,rfl,o,q⟩;have t:i<8:=by have :=(aO2.1 e).1;simpa[Nd.cells]using this
 rw[bb8 w g _ _ _ _ d,<-aJ3];have :(a.toList.take (xs.length*8))[k*8+i]? =a.toList[k*8+i]? :=by rw[aO6,bd0 E]
 rw[<-this,r,Ce xs k i x f t,e]
theorem Head.set3 (h:Head w p C A xs root vis)(v:Int):Head (w.setCell (p,3) v) p C A xs root v:=by
 obtain⟨l,j,n,rc,i,d,a,m⟩:=h.ex;have f:Chg (λk=>k=p) w (w.setCell (p,3) v):=Chg.refl.setCell (S:=λk=>k=p) (p,3) (Ei rfl) _;have c:TypeAt w p 218:=⟨_,i⟩;refine⟨l,j,n,rc,bc7 w p 3 _ _ v i,d.chg f (λk b e=>?_),f.own a (λk b e=>?_),m⟩
 ·subst e;rcases d.types b with g | g | g<;>exact g.ne c Ed rfl
 ·subst e;rw[(eZ (iU a)).1 b]at a;exact(gH a).ne c Ed rfl
theorem Head.set2 (h:Head w p C A xs root vis)(v:Int):Head (w.setCell (p,2) v) p C A xs v vis:=by
 obtain⟨l,j,n,rc,i,d,a,m⟩:=h.ex;have f:Chg (λk=>k=p) w (w.setCell (p,2) v):=Chg.refl.setCell (S:=λk=>k=p) (p,2) (Ei rfl) _;have c:TypeAt w p 218:=⟨_,i⟩;refine⟨l,j,n,rc,bc7 w p 2 _ _ v i,d.chg f (λk b e=>?_),f.own a (λk b e=>?_),m⟩
 ·subst e;rcases d.types b with g | g | g<;>exact g.ne c Ed rfl
 ·subst e;rw[(eZ (iU a)).1 b]at a;exact(gH a).ne c Ed rfl
theorem Head.chg3 (h:Head w p C A xs root vis)(v:Value)(j:Nat):Chg C w (w.setCell (p,j) v):=Chg.refl.setCell _ (Ei h.self) _
theorem Head.put (h:Head w p C A xs root vis){g n rc:Nat}(d:w.cell? (p,1)=some (.slice g n rc)){k i:Nat}{x x':Nd}{v:Value}(z:xs[k]? =some x)(Q:i<8)(P:x.cells.set i v=x'.cells):Head (w.setCell (g,k*8+i) v) p C A (xs.set k x') root vis/\Chg (λb=>b=g) w (w.setCell (g,k*8+i) v)/\(w.setCell (g,k*8+i) v).cell? (p,1)=some (.slice g n rc):=by
 obtain⟨_,_,W,rfl,r,N⟩:=h.node d z;obtain⟨F,D,B,a,y,t,u,M⟩:=h.ex;have H:B=some ⟨g,0,none⟩/\a=rc:=by
  rw[bb8 w p 1 _ _ _ y]at d;have d:some (Value.slice B xs.length a)=some (.slice g xs.length rc):=d;injection d with d
  injection d with c _ m
  exact⟨c,m⟩
 obtain⟨rfl,rfl⟩:=H;have o:Chg (λk=>k=g) w (w.setCell (g,k*8+i) v):=Chg.refl.setCell (S:=λk=>k=g) (g,k*8+i) (Ei rfl) _;have f:=o.heap y (λe=>r e.symm);refine⟨⟨F,D,some (g,0),a,?_,t.chg o (λj R e=>?_),?_,M⟩,o,?_⟩
 ·rw[aQ0];exact f
 ·subst e;have O:=gH u;rcases t.types R with g | g | g<;>exact g.ne O Ed rfl
 ·rcases u.2 with ⟨s,_⟩ | ⟨V,G,l,U,s,q,I,J,K,L⟩
  ·cases s
  ·injection U with c _ m
   injection c with c
   injection c with c _ _
   subst c;subst m;refine⟨by rw[Cf], .inr ⟨g,a,_,by rw[aQ0],aY1 _,bc7 w g (k*8+i) l _ v q,by rw[aQ0];exact I,J,by simpa using K,?_⟩⟩;rw[aQ0,aJ4,List.take_set,L,Cg xs k i x x' v z Q P]
 ·rw[bb8 _ p 1 _ _ _ f];rfl
def RowB(w:World)(p b:Nat):Prop:=∃n c,w.cell? (p,1)=some (.slice b n c)
theorem Head.rowC (h:Head w p C A xs root vis){b:Nat}(a:RowB w p b):C b:=by
 obtain⟨n,c,a⟩:=a;obtain⟨j,i,g,rc,f,k,l,e⟩:=h.ex;rw[bb8 w p 1 _ _ _ f]at a;have a:some (Value.slice g xs.length rc)=some (.slice b n c):=a;injection a with a
 injection a with d _ _
 exact(e b).2 (Ej (Ej d))
theorem Head.rowNe (h:Head w p C A xs root vis):¬RowB w p p:=by
 rintro⟨n,c,a⟩;obtain⟨i,g,f,rc,b,k,e,j⟩:=h.ex;rw[bb8 w p 1 _ _ _ b]at a;have a:some (Value.slice f xs.length rc)=some (.slice p n c):=a;injection a with a
 injection a with d _ _
 subst d;exact(gH e).ne ⟨_,b⟩ Ed rfl
theorem Head.rowKeep (h:Head w p C A xs root vis)(a:Chg (RowB w p) w w')(j:Nat):w'.cell? (p,j)=w.cell? (p,j):=
 World.cell?_of_block (a.block p (h.lt p h.self) h.rowNe)
theorem Head.chgRow (h:Head w p C A xs root vis)(c:Chg (RowB w p) w w'):Chg C w w':=c.mono (λb a=>h.rowC a)
theorem Head.arena (h:Head w p C A xs root vis):∃d c,w.cell? p=some (.pointer (some ⟨d,0,none⟩))/\IsArena w d c A/\(∀k,c k->C k)/\∀w' i,ArStep w w' d c i->∃C',Head w' p C' i xs root vis/\HStep w w' C C':=by
 obtain⟨d,c,r,rc,q,m,f,j⟩:=h.ex;have l:TypeAt w p 218:=⟨_,q⟩;have b:∀k,c k->C k:=λk a=>(j k).2 (Ej (Ei a));refine⟨d,c,by rw[bb8 w p 0 _ _ _ q];rfl,m,b,?_⟩;rintro w' i ⟨e,n,o,s⟩;refine⟨λk=>k=p\/e k\/r=some ⟨k,0,none⟩,⟨d,e,r,rc,o.heap q (λa=>?_),n,o.own f (λk a t=>?_),λk=>Iff.rfl⟩,o.mono b,?_⟩
 ·rcases m.types a with g | g | g<;>exact g.ne l Ed rfl
 ·rw[(eZ (iU f)).1 a]at f;have l:=gH f;rcases m.types t with g | g | g<;>exact g.ne l Ed rfl
 ·intro k a;rcases a with rfl | a | a
  ·exact Ei ((j _).2 (Ei rfl))
  ·exact(s k a).imp (b k) id
  ·exact Ei ((j k).2 (Ej (Ej a)))
end
inductive TT where
 | leaf (k q:Nat) (l:List Bool)
 | pair (k:Nat) (a b:TT)
def TT.num:TT->Nat
 | .leaf k _ _=>k
 | .pair k _ _=>k
def TT.st:TT->ST
 | .leaf _ _ l=> .leaf l
 | .pair _ a b=> .pair a.st b.st
def TT.nums:TT->List Nat
 | .leaf k _ _=>[k]
 | .pair k a b=>k::(a.nums++b.nums)
def TT.bl:TT->List Nat
 | .leaf _ q _=>[q]
 | .pair _ a b=>a.bl++b.bl
def TT.nd:TT->Nd
 | .leaf _ q l=>⟨-1,-1,0,l.length,l.count true,0,0,some q⟩
 | .pair _ a b=>⟨a.num,b.num,(ST.pair a.st b.st).high,a.st.bits.length+b.st.bits.length,a.st.bits.count true+b.st.bits.count true,a.st.bits.length,a.st.bits.count true,none⟩
def Sub(w:World)(xs:List Nd):TT->Prop
 | .leaf k q l=>xs[k]? =some (TT.leaf k q l).nd/\IsBlock w q l
 | .pair k a b=>xs[k]? =some (TT.pair k a b).nd/\Sub w xs a/\Sub w xs b
theorem TT.num_mem (T:TT):T.num∈T.nums:=by cases T<;>simp[TT.num,TT.nums]
theorem TT.nd_n (T:TT):T.nd.n=T.st.bits.length:=by cases T<;>simp[TT.nd,TT.st,ST.bits]
theorem TT.nd_ones (T:TT):T.nd.ones=T.st.bits.count true:=by cases T<;>simp[TT.nd,TT.st,ST.bits]
theorem TT.nd_high (T:TT):T.nd.height=T.st.high:=by cases T<;>simp[TT.nd,TT.st,ST.high]
section
variable {w w':World}{xs xs':List Nd}{T:TT}
theorem Sub.root (h:Sub w xs T):xs[T.num]? =some T.nd:=by
 cases T with
 | leaf k q l=>exact h.1
 | pair k a b=>exact h.1
theorem Sub.keep (h:Sub w xs T)(c:∀k∈T.nums,xs'[k]? =xs[k]?)(f:∀q∈T.bl,w'.heap[q]? =w.heap[q]?):Sub w' xs' T:=by
 induction T with
 | leaf k q l=>exact⟨(c k (by simp[TT.nums])).trans h.1,h.2.1,(f q (by simp[TT.bl])).trans h.2.2⟩
 | pair k a b g i=>
  refine⟨(c k (by simp[TT.nums])).trans h.1,g h.2.1 (λj d=>c j (by simp[TT.nums,d])) (λq e=>f q (by simp[TT.bl,e])),i h.2.2 (λj d=>c j (by simp[TT.nums,d])) (λq e=>f q (by simp[TT.bl,e]))⟩
theorem Sub.type (h:Sub w xs T){q:Nat}(c:q∈T.bl):TypeAt w q 242:=by
 induction T with
 | leaf k f l=>simp[TT.bl]at c;subst c;exact h.2.type
 | pair k a b d e=>
  simp only[TT.bl,aR0]at c;exact c.elim (d h.2.1) (e h.2.2)
theorem Sub.chg {S:Nat->Prop}(h:Sub w xs T)(b:Chg S w w')(c:∀q∈T.bl,¬S q)(d:∀k∈T.nums,xs'[k]? =xs[k]?):Sub w' xs' T:=
 h.keep d (λq a=>b.block q (h.type a).lt (c q a))
theorem Sub.chgC {p:Nat}{C:Nat->Prop}{A:Ar}{root vis:Int}{e:List Nd}(h:Sub w xs T)(a:Head w p C A e root vis)(b:Chg C w w')(d:∀k∈T.nums,xs'[k]? =xs[k]?):Sub w' xs' T:=
 h.chg b (λq c=>a.notBlk (h.type c)) d
theorem Sub.same {S:Nat->Prop}(h:Sub w xs T)(a:Chg S w w')(b:∀q∈T.bl,¬S q):Sub w' xs T:=h.chg a b (λ_ _=>rfl)
end
structure TT.Sm (T:TT):Prop where
 len:T.st.bits.length<=8589934592
 high:T.st.high<=1000000000
theorem Ik{w:World}{p:Nat}{C:Nat->Prop}{A:Ar}{xs:List Nd}{vis:Int}(h:Head w p C A xs (-1) vis):Calls prog 144 #[.pointer p] w λe w'=>e= .returned (.int .i64 0)/\∃n,w'=w.drewN n:=by
 obtain⟨_,a,_⟩:=h.cells;clear h;go_in;go_wp2;go_ret;exact⟨rfl,0,rfl⟩
theorem oG{w:World}{p:Nat}{C:Nat->Prop}{A:Ar}{xs:List Nd}{vis:Int}{T:TT}(h:Head w p C A xs T.num vis)(b:Sub w xs T):Calls prog 144 #[.pointer p] w λe w'=>e= .returned T.st.bits.length/\∃n,w'=w.drewN n:=by
 obtain⟨_,i,_⟩:=h.cells;have a:=b.root;obtain⟨g,rc,f,d,_⟩:=h.row (by have :=(aO2.1 a).1;omega);obtain⟨c,_,m,_⟩:=h.node d a;have j:=c 3 T.st.bits.length (by rw[<-T.nd_n];rfl);have l:((T.num:Int)== -1)=false:=by rw[bb6];omega
 generalize T.num=k at *;generalize T.st.bits.length=n at *;clear h c a b;go_in;go_wp2;go_quiet (fail);go_wp2;go_ret;exact⟨rfl,_,rfl⟩
theorem Xi{w:World}{p:Nat}{C:Nat->Prop}{A:Ar}{xs:List Nd}{vis:Int}(h:Head w p C A xs (-1) vis):Calls prog 218 #[.pointer p] w λe w'=>e= .returned (.int .i64 0)/\∃n,w'=w.drewN n:=by
 obtain⟨_,a,_⟩:=h.cells;clear h;go_in;go_wp2;go_ret;exact⟨rfl,0,rfl⟩
theorem Eb{w:World}{p:Nat}{C:Nat->Prop}{A:Ar}{xs:List Nd}{vis:Int}{T:TT}(h:Head w p C A xs T.num vis)(b:Sub w xs T):Calls prog 218 #[.pointer p] w λe w'=>e= .returned (T.st.bits.count true:Int)/\∃n,w'=w.drewN n:=by
 obtain⟨_,i,_⟩:=h.cells;have a:=b.root;obtain⟨g,rc,f,d,_⟩:=h.row (by have :=(aO2.1 a).1;omega);obtain⟨c,_,m,_⟩:=h.node d a;have j:=c 4 (T.st.bits.count true:Int) (by rw[<-T.nd_ones];rfl);have l:((T.num:Int)== -1)=false:=by rw[bb6];omega
 generalize T.num=k at *;generalize T.st.bits.count true=n at *;clear h c a b;go_in;go_wp2;go_quiet (fail);go_wp2;go_ret;exact⟨rfl,_,rfl⟩
theorem jD(n a:Int)(x:Bool)(w:World)(h:a<=n)(b:0<=a)(c:n<=1000000000000):Calls prog 217 #[n,a, .bool x] w λe w'=>e= .returned (oX n a x:Int)/\w=w':=by
 cases x
 ·go_in;go_wp2;go_ret;exact Er
 ·go_in;go_wp2;go_ret;exact Er
def bS:Option TT->List Bool
 | none=>[]
 | some T=>T.st.bits
def jP:Option TT->Int
 | none=> -1
 | some T=>T.num
def OSub(w:World)(xs:List Nd):Option TT->Prop
 | none=>True
 | some T=>Sub w xs T
section
variable {w w':World}{p:Nat}{C:Nat->Prop}{A:Ar}{xs:List Nd}{vis:Int}{o:Option TT}
theorem vI(h:Head w p C A xs (jP o) vis)(a:OSub w xs o):Calls prog 144 #[.pointer p] w λe w'=>e= .returned (.int .i64 (bS o).length)/\∃n,w'=w.drewN n:=by
 cases o with
 | none=>exact Ik h
 | some T=>exact oG h a
theorem ai1(h:Head w p C A xs (jP o) vis)(a:OSub w xs o):Calls prog 218 #[.pointer p] w λe w'=>e= .returned ((bS o).count true:Int)/\∃n,w'=w.drewN n:=by
 cases o with
 | none=>exact Xi h
 | some T=>exact Eb h a
theorem OSub.chgC {e:List Nd}{a:Int}(c:OSub w xs o)(b:Head w p C A e a vis)(d:Chg C w w'):OSub w' xs o:=by
 cases o with
 | none=>trivial
 | some T=>exact Sub.chgC c b d (λ_ _=>rfl)
end
theorem Nv{w:World}{p:Nat}{C:Nat->Prop}{A:Ar}{xs:List Nd}{vis:Int}{o:Option TT}(h:Head w p C A xs (jP o) vis)(l:OSub w xs o)(k:Int):Calls prog 207 #[.pointer p,k] w λe w'=>e= .returned (fD (bS o) k:Int)/\Head w' p C A xs (jP o) 0/\Chg C w w':=by
 obtain⟨_,_,_,j⟩:=h.cells;have u:=j 3;have s:=h.cells.2.2.1;have c:=h.set3 0;have a:=h.chg3 (.int .i64 0) 3;have b:=l.chgC h a;by_cases v:k<0
 ·have f:=θ (show (2:Int)=fD (bS o) k by unfold fD;rw[bc9 E]);have g:=θ c;have i:=θ a;clear h l j c a b;go_in;go_wp2;go_ret;exact⟨bA f.out,g.o,i.o⟩
 ·have q:=vI c b;have r:=θ q;have g:=θ c;have i:=θ a;have t:decide (k<0)=false:=by simp;omega
  by_cases x:k<(bS o).length
  ·have f:=θ (show (0:Int)=fD (bS o) k by unfold fD;rw[bd0 E]);have d:decide (((bS o).length:Int)<=k)=false:=by simp;omega
   clear h l j c a b q;generalize (bS o).length=n at *;go_in;go_wp2_with fail;refine r.o.mono ?_;rintro e w' ⟨rfl,m,rfl⟩;go_wp2;go_ret;exact⟨bA f.out,g.o.drewN _,i.o.drewN _⟩
  ·have f:=θ (show (2:Int)=fD (bS o) k by unfold fD;rw[bc9 E]);have d:decide (((bS o).length:Int)<=k)=true:=by simp;omega
   clear h l j c a b q;generalize (bS o).length=n at *;go_in;go_wp2_with fail;refine r.o.mono ?_;rintro e w' ⟨rfl,m,rfl⟩;go_wp2;go_ret;exact⟨bA f.out,g.o.drewN _,i.o.drewN _⟩
theorem Head.eight {w:World}{p:Nat}{C:Nat->Prop}{A:Ar}{e:List Nd}{c d:Int}(h:Head w p C A e c d){g n rc:Nat}(f:w.cell? (p,1)=some (.slice g n rc)){k:Nat}{x:Nd}(i:e[k]? =some x):w.cell? (g,k*8)=x.left/\w.cell? (g,k*8+1)=x.right/\w.cell? (g,k*8+2)=x.height/\w.cell? (g,k*8+3)=x.n/\w.cell? (g,k*8+4)=x.ones/\w.cell? (g,k*8+5)=x.ln/\w.cell? (g,k*8+6)=x.lones/\w.cell? (g,k*8+7)=some (fO x.b):=by
 obtain⟨a,_⟩:=h.node f i;exact⟨a 0 _ rfl,a 1 _ rfl,a 2 _ rfl,a 3 _ rfl,a 4 _ rfl,a 5 _ rfl,a 6 _ rfl,a 7 _ rfl⟩
theorem Sub.view {w:World}{c:List Nd}{T:TT}{k:Nat}(h:Sub w c T)(d:T.num=k):(∃q l,T.st= .leaf l/\IsBlock w q l/\c[k]? =some ⟨-1,-1,0,l.length,l.count true,0,0,some q⟩)\/ (∃a b:TT,T.st= .pair a.st b.st/\Sub w c a/\Sub w c b/\c[k]? =some ⟨a.num,b.num,(ST.pair a.st b.st).high,a.st.bits.length+b.st.bits.length,a.st.bits.count true+b.st.bits.count true,a.st.bits.length,a.st.bits.count true,none⟩):=by
 cases T with
 | leaf e q l=>cases d;exact Ei ⟨q,l,rfl,h.2,h.1⟩
 | pair e a b=>cases d;exact Ej ⟨a,b,rfl,h.2.1,h.2.2,h.1⟩
structure Look (w w':World) (p:Nat) (C:Nat->Prop) (A:Ar) (xs:List Nd) (root:Int) (m:Nat):Prop where
 head:∃v:Nat,v<=m/\Head w' p C A xs root v
 chg:Chg C w w'
theorem ag5{w:World}{p:Nat}{C:Nat->Prop}{A:Ar}{u:List Nd}{b8:Int}{c:TT}(h:Head w p C A u c.num b8)(z:Sub w u c)(hm:c.Sm)(G:Nat)(b5:G<c.st.bits.length):Calls prog 158 #[.pointer p,G] w λe w'=>e= .returned (.tuple #[.bool (aX c.st.bits G), .int .i64 0])/\Look w w' p C A u c.num (c.st.high+1):=by
 have hh:=Nv (o:=some c) h z G;have e0:fD (bS (some c)) G=0:=by
  have :((G:Int)<((bS (some c)).length:Int)):=by show (G:Int)<(c.st.bits.length:Int);omega
  unfold fD;rw[bd0 E]
 rw[e0]at hh;have HH:=θ hh;have HS:Hid (∀w',Chg C w w'->Sub w' u c):=λw' Z=>z.chgC h Z (λ_ _=>rfl);have c0:=hm.high;clear hh h z e0;go_in;go_wp2_with fail;refine HH.o.mono ?_;rintro e w1 ⟨rfl,y,L⟩;have c2:=y.cells.2.1;have Y:=HS.o w1 L;have e1:jP (some c)=(c.num:Int):=rfl;rw[e1]at c2 y;have V:=θ y;have U:=θ L;have X:=θ Y;clear y L Y e1;go_wp2_with fail;go_loopg [7,1] (c.st.high+1) (λn a b wr=>∃(T:TT) (kn k v:Nat),T.num=kn/\a= .int .i64 kn/\b= .int .i64 k/\k<T.st.bits.length/\Sub wr u T/\Head wr p C A u c.num v/\Chg C w wr/\
  aX T.st.bits k=aX c.st.bits G/\v+T.st.high<=c.st.high/\T.st.high<n/\T.st.bits.length<=8589934592)
 exact⟨c,_,G,0,rfl,rfl,rfl,b5,X.o,V.o,U.o,rfl,E,E,hm.len⟩;case round=>
  obtain⟨T,kn,k,v,s,rfl,rfl,R,z,f,hC,H,hv,hT,I⟩:=hrel;have b7:=z.view s;have j:∃x,u[kn]? =some x:=⟨_,by rw[<-s];exact z.root⟩;obtain⟨g,rc,b9,c1,b4,_⟩:=f.row (by obtain⟨x,j⟩:=j;have :=(aO2.1 j).1;omega);obtain⟨_,_,cv,fz⟩:=f.cells;have f3:=fz 3;have hp:=f.lt p f.self;have K:Hid (∀v:Int,Head (wr.setCell (p,3) v) p C A u c.num v):=λv=>f.set3 v;have J:=θ hC;have HB:=θ H;have i:=θ f.self;have b0:Hid (∀q l,IsBlock wr q l->¬C q):=λq l h=>f.notBlk h.type;clear hC H j fz HH HS V U X c2 b4;rcases b7 with ⟨q,l,d,r,j⟩ | ⟨O,P,d,M,N,j⟩
  ·obtain⟨_,_,b6,_⟩:=f.node c1 j;obtain⟨Q,a1,a2,a3,a4,a5,a6,a7⟩:=f.eight c1 j;have hg:=ba8 wr _ Q;simp only[fO,aY6]at Q a1 a2 a3 a4 a5 a6 a7;rw[d]at R hv hT;have HW:Hid (∀v o,IsBlock ((wr.setCell (p,3) v).alloc o) q l):=λv o=>r.chg ((Chg.refl.setCell (p,3) (Ei i.o) v).alloc o) (b0.o q l r);have b1:=θ d;simp only[ST.high,ST.bits]at R hv hT;clear f z s j d r;go_wp2_with fail;refine Cq (Ya (HW.o _ _) k R) ?_;go_wp2;go_ret2;refine⟨Mx ?_ rfl,⟨v+1,E,?_⟩,?_⟩
   ·have :=HB.o;rw[b1.o]at this;exact this
   ·exact_mod_cast (K.o (v+1)).below (aR _ _)
   ·exact(J.o.setCell _ (Ei i.o) _).alloc _
  ·obtain⟨_,_,b6,_⟩:=f.node c1 j;obtain⟨Q,a1,a2,a3,a4,a5,a6,a7⟩:=f.eight c1 j;have hg:=ba8 wr _ Q;simp only[fO,aY5]at Q a1 a2 a3 a4 a5 a6 a7;rw[d]at R hv hT;simp only[ST.bits,ST.high,aP3]at R hv hT;have b2:Hid (∀W,Chg C wr W->Sub W u O):=λW Z=>M.chgC f Z (λ_ _=>rfl);have b3:Hid (∀W,Chg C wr W->Sub W u P):=λW Z=>N.chgC f Z (λ_ _=>rfl);have H:=HB.o;rw[d]at H;simp only[ST.bits]at H;have S:=θ H;obtain⟨na,D⟩:=Ey O.num;obtain⟨nb,F⟩:=Ey P.num;obtain⟨la,t⟩:=Ey O.st.bits.length;rw[t]at R;simp only[D,F,t]at Q a1 a2 a3 a4 a5 a6;have a8:=θ D;have a9:=θ F;have m:=θ t;have c3:la+P.st.bits.length<=8589934592:=by rw[d]at I;simp only[ST.bits,aP3]at I;omega
   by_cases B:k<la
   ·have d1:decide (k<la)=true:=bc2 B;clear f z s j d M N H D F t HB;go_wp2_with fail;go_roundg (max O.st.high P.st.high+1);case measure=>omega
    case rel=>
     refine⟨O,na,k,v+1,a8.o,rfl,rfl,by rw[m.o];exact B,b2.o _ ((Chg.refl.setCell (p,3) (Ei i.o) _).alloc _),?_,J.o.trans ((Chg.refl.setCell (p,3) (Ei i.o) _).alloc _) (λ_ h=>Ei h),?_,E,E,by have :=m.o;omega⟩
     ·exact_mod_cast (K.o (v+1)).below (aR _ _)
     ·rw[<-S.o,zG (by rw[m.o];exact B)]
   ·have d1:decide (k<la)=false:=bc0 B;clear f z s j d M N H D F t HB;go_wp2;go_quiet (fail);go_wp2_with fail;go_roundg (max O.st.high P.st.high+1);case measure=>omega
    case rel=>
     refine⟨P,nb,k-la,v+1,a9.o,rfl,?_,E,b3.o _ (((Chg.refl.setCell (p,3) (Ei i.o) _).alloc _).drewN _),?_,J.o.trans (((Chg.refl.setCell (p,3) (Ei i.o) _).alloc _).drewN _) (λ_ h=>Ei h),?_,E,E,E⟩
     ·congr 1;omega
     ·exact_mod_cast ((K.o (v+1)).below (aR _ _)).drewN _
     ·rw[<-S.o,zH (by rw[m.o];omega),m.o]
theorem gY{w:World}{p:Nat}{C:Nat->Prop}{A:Ar}{z:List Nd}{c s:Int}(h:Head w p C A z c s){k q:Nat}{x:Nd}{l:List Bool}(r:z[k]? =some x)(J:x.b=some q)(P:IsBlock w q l):Calls prog 245 #[.pointer p,k] w λe y=>e= .returned (.tuple #[])/\Head y p C A (z.set k ⟨x.left,x.right,x.height,l.length,l.count true,x.ln,x.lones,some q⟩) c s/\Chg (RowB w p) w y:=by
 obtain⟨g,rc,S,t,T,_⟩:=h.row (by have :=(aO2.1 r).1;omega);obtain⟨_,G,n,_⟩:=h.node t r;obtain⟨V,W,X,Y,Z,a5,a6,f⟩:=h.eight t r;have f3:=G (k*8+3);have f4:=G (k*8+4);rw[J]at f;simp only[fO,aY6]at f;obtain⟨H,M,I⟩:=h.put (x':=⟨x.left,x.right,x.height,l.length,x.ones,x.ln,x.lones,some q⟩) (v:= .int .i64 l.length) t r (show 3<8 by omega) (by cases x;cases J;rfl);have F:(z.set k ⟨x.left,x.right,x.height,l.length,x.ones,x.ln,x.lones,some q⟩)[k]? =some ⟨x.left,x.right,x.height,l.length,x.ones,x.ln,x.lones,some q⟩:=by rw[aO5,bd0 rfl,bd0 n]
 have j:=(H.eight I F).2.2.2.2.2.2.2;obtain⟨u,N,O⟩:=H.put (k:=k) (i:=4) (x:=⟨x.left,x.right,x.height,l.length,x.ones,x.ln,x.lones,some q⟩) (x':=⟨x.left,x.right,x.height,l.length,l.count true,x.ln,x.lones,some q⟩) (v:= .int .i64 (l.count true)) I F E rfl;have m:=(u.eight O (k:=k) (x:=⟨x.left,x.right,x.height,l.length,l.count true,x.ln,x.lones,some q⟩) (by rw[List.getElem?_set,if_pos rfl,if_pos (by simpa using n)])).2.2.2.2.2.2.2;have B:=θ j;have D:=θ m;rw[aT2]at u;have Q:=θ u;have R:Hid (Chg (RowB w p) w _):=(M.trans N (λ_ h=>Ei h)).mono (λb e=>by subst e;exact⟨_,_,t⟩);have L:Hid (IsBlock w.drew q l):=P;clear h G H M I u N O P J r j m F;go_in;go_wp2_with fail;refine aG (λy=>y.cell? (g,k*8+7)=some (.pointer q)) Ek (f) (λa=>?_);refine rV 0 1 2 3 a ?_;refine rV 4 5 7 8 a ?_;refine rU 9 10 a ?_;refine rg 6 λK d=>?_;go_simp
 ((with_reducible refine(Ca (w:=w.drew) L.o).mono ?_))
 rintro e U ⟨rfl,rfl⟩;refine d.out _ _ (f) ?_;intro a;try simp only[pt]
 refine rg 11 λK d=>?_;go_simp
 ((with_reducible refine(aA3 (w:=w.drew) L.o).mono ?_))
 rintro e U ⟨rfl,rfl⟩;refine d.out _ _ (f) ?_;intro a;try simp only[pt]
 refine rU 12 13 a ?_;refine rg 14 λK d=>?_;go_simp;refine d.out _ _ (B.o) ?_;intro a;try simp only[pt]
 refine rU 15 16 a ?_;refine rg 17 λK d=>?_;go_simp;refine d.out _ _ (D.o) ?_;intro a;try simp only[pt]
 refine rz ?_;go_wp2_with fail;refine bodyPost_ret (results_none rfl _ _ _) rfl ?_;exact⟨rfl,Q.out.drewN 1,R.out.drew⟩
theorem eD(w:World)(A B:Obj):Below w w ((w.alloc A).alloc B).drew:=
 let h:=((aJ6 w w).alloc (aV3 _) A).alloc Es B
 ⟨h.os,h.tape,h.output,h.size,h.block⟩
theorem Head.drew {w:World}{p:Nat}{C:Nat->Prop}{A:Ar}{c:List Nd}{a b:Int}(h:Head w p C A c a b):Head w.drew p C A c a b:=h.drewN 1
theorem oQ(w:World)(A:Obj):Below w w (w.alloc A).drew:=
 let h:=(aJ6 w w).alloc (aV3 _) A
 ⟨h.os,h.tape,h.output,h.size,h.block⟩
theorem Pc(w:World):Below w w w.drew:=⟨rfl,rfl,rfl,aV3 _,λ_ _=>rfl⟩
theorem Head.puts {w:World}{p:Nat}{C:Nat->Prop}{A:Ar}{q:List Nd}{d l:Int}(h:Head w p C A q d l){g n rc:Nat}(B:w.cell? (p,1)=some (.slice g n rc)){k:Nat}{x:Nd}{i j:Int}(D:q[k]? =some x)(r:x.b=none/\x.left=i/\x.right=j)(a m o e f:Int):Head (((((w.setCell (g,k*8+2) a).setCell (g,k*8+3) m).setCell (g,k*8+4) o).setCell (g,k*8+5) e).setCell (g,k*8+6) f) p C A (q.set k ⟨i,j,a,m,o,e,f,none⟩) d l/\Chg (λb=>b=g) w (((((w.setCell (g,k*8+2) a).setCell (g,k*8+3) m).setCell (g,k*8+4) o).setCell (g,k*8+5) e).setCell (g,k*8+6) f):=by
 obtain⟨_,_,P,_⟩:=h.node B D;have c:∀y:Nd,(q.set k y)[k]? =some y:=λy=>by rw[aO5,bd0 rfl,bd0 P]
 obtain⟨r,rfl,rfl⟩:=r;obtain⟨O,F,K⟩:=h.put B D (i:=2) (v:= .int .i64 a) (x':=⟨x.left,x.right,a,x.n,x.ones,x.ln,x.lones,none⟩) E (by cases x;cases r;rfl);obtain⟨s,G,L⟩:=O.put K (c _) (i:=3) (v:= .int .i64 m) (x':=⟨x.left,x.right,a,m,x.ones,x.ln,x.lones,none⟩) E rfl;rw[aT2]at s;obtain⟨t,H,M⟩:=s.put L (c _) (i:=4) (v:= .int .i64 o) (x':=⟨x.left,x.right,a,m,o,x.ln,x.lones,none⟩) E rfl;rw[aT2]at t;obtain⟨u,I,N⟩:=t.put M (c _) (i:=5) (v:= .int .i64 e) (x':=⟨x.left,x.right,a,m,o,e,x.lones,none⟩) E rfl;rw[aT2]at u;obtain⟨z,J,_⟩:=u.put N (c _) (i:=6) (v:= .int .i64 f) (x':=⟨x.left,x.right,a,m,o,e,f,none⟩) E rfl;rw[aT2]at z;exact⟨z,(((F.trans G (λ_ h=>Ei h)).trans H (λ_ h=>Ei h)).trans I (λ_ h=>Ei h)).trans J (λ_ h=>Ei h)⟩
theorem ag4{w:World}{p:Nat}{C:Nat->Prop}{A:Ar}{S:List Nd}{D Q:Int}(h:Head w p C A S D Q){k i j:Nat}{x a b:Nd}(P:S[k]? =some x)(r:x.b=none)(hl:x.left=i)(hr:x.right=j)(ha:S[i]? =some a)(I:S[j]? =some b)(s1:0<=a.height/\a.height<=1000000000)(s2:0<=b.height/\b.height<=1000000000)(s3:0<=a.n/\a.n<=8589934592)(s4:0<=b.n/\b.n<=8589934592)(s5:0<=a.ones/\a.ones<=8589934592)(s6:0<=b.ones/\b.ones<=8589934592):Calls prog 245 #[.pointer p,k] w λe l=>e= .returned (.tuple #[])/\Head l p C A (S.set k ⟨i,j,max a.height b.height+1,a.n+b.n,a.ones+b.ones,a.n,a.ones,none⟩) D Q/\Chg (RowB w p) w l:=by
 obtain⟨g,rc,a8,y,c5,_⟩:=h.row (by have :=(aO2.1 P).1;omega);obtain⟨_,G,c8,_⟩:=h.node y P;obtain⟨_,_,c6,_⟩:=h.node y ha;obtain⟨_,_,c7,_⟩:=h.node y I;obtain⟨T,Y,a2,a3,a4,a5,a6,Z⟩:=h.eight y P;obtain⟨b0,b1,b2,b3,b4,b5,b6,b7⟩:=h.eight y ha;obtain⟨d0,d1,d2,d3,d4,d5,d6,d7⟩:=h.eight y I;have m:=ba8 w _ T;have hp:=h.lt p h.self;rw[hl]at T;rw[hr]at Y;rw[r]at Z;simp only[fO,aY5]at Z;have f0:=G (k*8+0);have f2:=G (k*8+2);have f3:=G (k*8+3);have f4:=G (k*8+4);have f5:=G (k*8+5);have f6:=G (k*8+6);have H:=θ h;have U:Hid (RowB w p g):=⟨_,_,y⟩;have HX:=θ P;have X:Hid (x.b=none/\x.left=i/\x.right=j):=⟨r,hl,hr⟩;obtain⟨pa,N⟩:∃pa,fO a.b= .pointer pa:=⟨_,rfl⟩;obtain⟨pb,O⟩:∃pb,fO b.b= .pointer pb:=⟨_,rfl⟩;rw[N]at b7;rw[O]at d7;clear N O;clear h G r P ha I hl hr;go_in;go_wp2_with fail;go_upto_region 4 with fail
 go_cut [5,6] (λva vb R=>∃s t:Nat,va= .pointer s/\vb= .pointer t/\w<=s/\w<=t/\Below w w R/\
  R.heap[s]? =some (.cells #[a.left,a.right,a.height,a.n,a.ones,a.ln,a.lones, .pointer pa] 221 (0,0))/\
  R.heap[t]? =some (.cells #[b.left,b.right,b.height,b.n,b.ones,b.ln,b.lones, .pointer pb] 221 (0,0)))
 case first=>
  refine aG (λl=>Below w w l) Ek (Pc _) (λd=>?_);refine bG (i:=0) (v:=?vt0) rfl Ek rfl d ?yt0 ?rt0;case yt0=>(intro l c;go_simp;all_goals with_reducible rfl)
  try simp only[pt]
  refine bG (i:=1) (v:=?vt1) rfl Ek rfl d ?yt1 ?rt1;case yt1=>(intro l c;go_simp;all_goals with_reducible rfl)
  try simp only[pt]
  refine bG (i:=2) (v:=?vt2) rfl Ek rfl d ?yt2 ?rt2;case yt2=>(intro l c;go_simp;all_goals with_reducible rfl)
  try simp only[pt]
  refine bG (i:=3) (v:=?vt3) rfl Ek rfl d ?yt3 ?rt3;case yt3=>(intro l c;have q1:=(c.cell (p:=(p,1)) hp).trans y;go_simp;all_goals with_reducible rfl)
  try simp only[pt]
  refine bG (i:=4) (v:=?vt4) rfl Ek rfl d ?yt4 ?rt4;case yt4=>(intro l c;go_simp;all_goals with_reducible rfl)
  try simp only[pt]
  refine bG (i:=5) (v:=?vt5) rfl Ek rfl d ?yt5 ?rt5;case yt5=>(intro l c;go_simp;all_goals with_reducible rfl)
  try simp only[pt]
  refine bG (i:=6) (v:=?vt6) rfl Ek rfl d ?yt6 ?rt6;case yt6=>(intro l c;go_simp;all_goals with_reducible rfl)
  try simp only[pt]
  refine bG (i:=7) (v:=?vt7) rfl Ek rfl d ?yt7 ?rt7;case yt7=>(intro l c;have q2:=(c.cell (p:=(g,k*8)) m).trans T;go_simp;all_goals with_reducible rfl)
  try simp only[pt]
  refine bG (i:=8) (v:=?vt8) rfl Ek rfl d ?yt8 ?rt8;case yt8=>(intro l c;go_simp;all_goals with_reducible rfl)
  try simp only[pt]
  refine bG (i:=9) (v:=?vt9) rfl Ek rfl d ?yt9 ?rt9;case yt9=>(intro l c;have r0:=(c.cell (p:=(g,i*8)) m).trans b0;have r1:=(c.cell (p:=(g,i*8+1)) m).trans b1;have r2:=(c.cell (p:=(g,i*8+2)) m).trans b2;have r3:=(c.cell (p:=(g,i*8+3)) m).trans b3;have r4:=(c.cell (p:=(g,i*8+4)) m).trans b4;have r5:=(c.cell (p:=(g,i*8+5)) m).trans b5;have r6:=(c.cell (p:=(g,i*8+6)) m).trans b6;have r7:=(c.cell (p:=(g,i*8+7)) m).trans b7;go_simp;all_goals with_reducible rfl)
  try simp only[pt]
  refine bG (i:=10) (v:=?vt10) rfl Ek rfl d ?yt10 ?rt10;case yt10=>(intro l c;go_simp;all_goals with_reducible rfl)
  try simp only[pt]
  refine bG (i:=11) (v:=?vt11) rfl Ek rfl d ?yt11 ?rt11;case yt11=>(intro l c;go_simp;all_goals with_reducible rfl)
  try simp only[pt]
  refine bG (i:=12) (v:=?vt12) rfl Ek rfl d ?yt12 ?rt12;case yt12=>(intro l c;go_simp;all_goals with_reducible rfl)
  try simp only[pt]
  refine bG (i:=13) (v:=?vt13) rfl Ek rfl d ?yt13 ?rt13;case yt13=>(intro l c;have q1:=(c.cell (p:=(p,1)) hp).trans y;go_simp;all_goals with_reducible rfl)
  try simp only[pt]
  refine bG (i:=14) (v:=?vt14) rfl Ek rfl d ?yt14 ?rt14;case yt14=>(intro l c;go_simp;all_goals with_reducible rfl)
  try simp only[pt]
  refine bG (i:=15) (v:=?vt15) rfl Ek rfl d ?yt15 ?rt15;case yt15=>(intro l c;go_simp;all_goals with_reducible rfl)
  try simp only[pt]
  refine bG (i:=16) (v:=?vt16) rfl Ek rfl d ?yt16 ?rt16;case yt16=>(intro l c;go_simp;all_goals with_reducible rfl)
  try simp only[pt]
  refine bG (i:=17) (v:=?vt17) rfl Ek rfl d ?yt17 ?rt17;case yt17=>(intro l c;have q3:=(c.cell (p:=(g,k*8+1)) m).trans Y;go_simp;all_goals with_reducible rfl)
  try simp only[pt]
  refine bG (i:=18) (v:=?vt18) rfl Ek rfl d ?yt18 ?rt18;case yt18=>(intro l c;go_simp;all_goals with_reducible rfl)
  try simp only[pt]
  refine bG (i:=19) (v:=?vt19) rfl Ek rfl d ?yt19 ?rt19;case yt19=>(intro l c;have r0:=(c.cell (p:=(g,j*8)) m).trans d0;have r1:=(c.cell (p:=(g,j*8+1)) m).trans d1;have r2:=(c.cell (p:=(g,j*8+2)) m).trans d2;have r3:=(c.cell (p:=(g,j*8+3)) m).trans d3;have r4:=(c.cell (p:=(g,j*8+4)) m).trans d4;have r5:=(c.cell (p:=(g,j*8+5)) m).trans d5;have r6:=(c.cell (p:=(g,j*8+6)) m).trans d6;have r7:=(c.cell (p:=(g,j*8+7)) m).trans d7;go_simp;all_goals with_reducible rfl)
  try simp only[pt]
  refine be2 (rs:=[20,21]) Ek Es (iP rfl rfl (λu q=>?_) (iP rfl rfl (λu q=>?_) aI9))
  ·go_simp;refine q.out _ _ (oQ _ _) ?_;intro d;try simp only[pt]
   refine rg 21 λu q=>?_;go_simp;refine q.out _ _ (eD _ _ _) ?_;intro d;try simp only[pt]
   refine rg 22 λu q=>?_;go_simp;refine q.out _ _ (eD _ _ _) ?_;intro d;try simp only[pt]
   refine rg 23 λu q=>?_;go_simp;refine q.out _ _ (eD _ _ _) ?_;intro d;try simp only[pt]
   refine rz ?_;go_wp2_with fail;go_meet;case rel=>exact⟨_,_,rfl,rfl,aV3 _,Nat.le_succ _,d,heap_alloc2_old _ _ _,heap_alloc2_new _ _ _⟩
  ·go_simp;refine q.out _ _ (oQ _ _) ?_;intro d;try simp only[pt]
   refine rg 20 λu q=>?_;go_simp;refine q.out _ _ (eD _ _ _) ?_;intro d;try simp only[pt]
   refine rg 22 λu q=>?_;go_simp;refine q.out _ _ (eD _ _ _) ?_;intro d;try simp only[pt]
   refine rg 23 λu q=>?_;go_simp;refine q.out _ _ (eD _ _ _) ?_;intro d;try simp only[pt]
   refine rz ?_;go_wp2_with fail;go_meet;case rel=>exact⟨_,_,rfl,rfl,Nat.le_succ _,aV3 _,d,heap_alloc2_new _ _ _,heap_alloc2_old _ _ _⟩
 case rest=>
  obtain⟨s,t,rfl,rfl,l1,l2,r,z,B⟩:=hcut;have Hc:=H.o.below r;obtain⟨P1,P2⟩:=Hc.puts ((r.cell (p:=(p,1)) hp).trans y) HX.o X.o (max a.height b.height+1) (a.n+b.n) (a.ones+b.ones) a.n a.ones;have K:=θ P1;have L:Hid (Chg (RowB w p) wc _):=P2.mono (λb e=>by subst e;exact U.o);have HC:=θ r;have a9:wc.cell? (s,2)=a.height:=by rw[bb8 wc s 2 _ _ _ z];rfl
  have b8:wc.cell? (s,3)=a.n:=by rw[bb8 wc s 3 _ _ _ z];rfl
  have b9:wc.cell? (s,4)=a.ones:=by rw[bb8 wc s 4 _ _ _ z];rfl
  have c0:wc.cell? (t,2)=b.height:=by rw[bb8 wc t 2 _ _ _ B];rfl
  have c2:wc.cell? (t,3)=b.n:=by rw[bb8 wc t 3 _ _ _ B];rfl
  have c3:wc.cell? (t,4)=b.ones:=by rw[bb8 wc t 4 _ _ _ B];rfl
  have e2:=(r.cell (p:=(g,k*8+2)) m).trans a2;have e3:=(r.cell (p:=(g,k*8+3)) m).trans a3;have e4:=(r.cell (p:=(g,k*8+4)) m).trans a4;have e5:=(r.cell (p:=(g,k*8+5)) m).trans a5;have e6:=(r.cell (p:=(g,k*8+6)) m).trans a6;have k2:=(r.frozen (p:=(g,k*8+2)) m).trans f2;have k3:=(r.frozen (p:=(g,k*8+3)) m).trans f3;have k4:=(r.frozen (p:=(g,k*8+4)) m).trans f4;have k5:=(r.frozen (p:=(g,k*8+5)) m).trans f5;have k6:=(r.frozen (p:=(g,k*8+6)) m).trans f6;have c4:g<w:=m;have n1:¬s=g:=E;have n2:¬t=g:=E;have n3:¬g=s:=E;have n4:¬g=t:=E;clear P1 P2 r z B Hc T Y a2 a3 a4 a5 a6 Z b0 b1 b2 b3 b4 b5 b6 b7 d0 d1 d2 d3 d4 d5 d6 d7 f0 f2 f3 f4 f5 f6 y;have V:Hid (IntKind.i64.wrap (a.n+b.n)=a.n+b.n):=aK8 _ E;have W:Hid (IntKind.i64.wrap (a.ones+b.ones)=a.ones+b.ones):=aK8 _ E;obtain⟨hm,J⟩:∃hm,hm=max a.height b.height:=⟨_,rfl⟩;rw[<-J]at K L;have F:=θ J;clear J;go_upto_region 4 with fail
  go_cut [5] (λva R=>va= .pointer s/\R=wc.setCell (g,k*8+2) (hm+1:Int));case first=>
   by_cases c9:a.height<b.height
   ·have M:=F.o;rw[Int.max_eq_right E]at M;subst M;go_wp2_with fail;go_meet;case rel=>exact Er
   ·have M:=F.o;rw[Int.max_eq_left E]at M;subst M;go_wp2_with fail;go_meet;case rel=>exact Er
  case rest=>
   obtain⟨rfl,rfl⟩:=hcut;go_wp2_with fail;refine aG (λl=>l.cell? (s,3)=a.n/\l.cell? (s,4)=a.ones/\l.cell? (t,3)=b.n/\l.cell? (t,4)=b.ones) Ek ?hif (λd=>?_);case hif=>(refine⟨?_,?_,?_,?_⟩<;>go_simp)
   refine rV 0 1 2 3 d ?_;refine rV 4 5 6 7 d ?_;refine rV 8 9 10 11 d ?_;refine rU 12 13 d ?_;refine rg 14 λu q=>?_;go_simp;refine q.out _ _ ?kpf14 (λf=>?_);case kpf14=>(refine⟨?_,?_,?_,?_⟩<;>go_simp)
   clear q u d;have d:=f;clear f;try simp only[pt]
   refine rU 15 16 d ?_;refine rg 17 λu q=>?_;go_simp;refine q.out _ _ ?kpf17 (λf=>?_);case kpf17=>(refine⟨?_,?_,?_,?_⟩<;>go_simp)
   clear q u d;have d:=f;clear f;try simp only[pt]
   refine rz ?_;go_wp2_with fail;refine aG (λl=>l.cell? (s,3)=a.n/\l.cell? (s,4)=a.ones/\l.cell? (t,3)=b.n/\l.cell? (t,4)=b.ones) Ek ?his (λd=>?_);case his=>(refine⟨?_,?_,?_,?_⟩<;>go_simp)
   refine rV 0 1 2 3 d ?_;refine rV 4 5 6 7 d ?_;refine rg 8 λu q=>?_;go_simp;refine q.out _ _ ?kps8 (λf=>?_);case kps8=>(refine⟨?_,?_,?_,?_⟩<;>go_simp)
   clear q u d;have d:=f;clear f;try simp only[pt]
   refine rU 9 10 d ?_;refine rg 11 λu q=>?_;go_simp;refine q.out _ _ ?kps11 (λf=>?_);case kps11=>(refine⟨?_,?_,?_,?_⟩<;>go_simp)
   clear q u d;have d:=f;clear f;try simp only[pt]
   refine rz ?_;go_wp2;go_end0;rw[<-F.o];rw[V.o,W.o];exact⟨rfl,K.o.drew.drew,((Chg.of_below HC.o).trans L.o (λ_ h=>Ei h)).drew.drew⟩
end
end Go.Proofs.YtchinbgemenenaaGreatDoor
