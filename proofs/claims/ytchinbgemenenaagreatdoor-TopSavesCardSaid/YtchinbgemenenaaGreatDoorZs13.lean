/- Lemmas and contracts under the claims of this seat. No condition. -/
import Derived.Test.YtchinbgemenenaaGreatDoorZs10
import Derived.Test.YtchinbgemenenaaGreatDoorZs12
namespace Go.Proofs.YtchinbgemenenaaGreatDoor
open Go.Proofs.Tryz
set_option linter.unusedVariables false
set_option linter.unusedSimpArgs false
set_option maxRecDepth 100000
set_option maxHeartbeats 12800000
section
open Go.RowKit
theorem PVw.row_inj {m:Pm}{L:List Int}{N:Nat}(h:PVw m L N){x y:Nat}(c:x∈m.O)(d:y∈m.O)(e:aC m.L x=aC m.L y):x=y:=by
 obtain⟨i,a,rfl⟩:=aP1 c;obtain⟨j,b,rfl⟩:=aP1 d;rcases aV9 i j with q | q | q
 ·have :=aS7.1 h.so i j a b q;omega
 ·subst q;rfl
 ·have :=aS7.1 h.so j i b a q;omega
theorem aG3{w:World}{p q I:Nat}{Z:Nat->Prop}{lv W:Value}{m:Pm}(h:PmIn w p q Z lv W m)(v:m.Ok)(hb:w.cell? I=some (.pointer p))(a2:¬pmS p Z lv W I)(hl:m.L.length<=1000000000)(Q:∀a∈m.O,∀b∈m.O,aC m.L a=aC m.L b->a=b):Calls prog 95 #[W, .func (.func 172) #[] #[.pointer I]] w λe H=>e= .returned (.tuple #[])/\∃Y:List Nat,Y.Perm m.O/\(Pm.mk m.A m.L Y m.R m.N).Sorted/\PmIn H p q Z lv W ⟨m.A,m.L,Y,m.R,m.N⟩/\Chg (λb=>W.ownBlock=some b) w H:=by
 by_cases h0:m.O.length=0
 ·have e0:m.O=[]:=aM7 h0;obtain⟨a,c,rfl,_,_⟩:=aD h.ord;have a9:Calls prog 95 #[.slice a m.O.length c, .func (.func 172) #[] #[.pointer I]] w λe H=>e= .returned (.tuple #[])/\H=w:=by
   rw[h0];exact AnyF.slices_SortFunc_none Tryz.laysSF0 a c _ w
  refine a9.mono ?_;rintro e H ⟨rfl,rfl⟩;exact⟨rfl,m.O,List.Perm.refl _,by unfold Pm.Sorted;rw[e0];exact List.Pairwise.nil,h,Chg.refl⟩
 ·rcases h.ord.2 with ⟨_,h1⟩ | ⟨g,a0,a1,rfl,_,hg,b1,b2,b3,a8⟩
  ·omega
  have F:0<m.L.length:=by
   have :=v.lt (aP0 (l:=m.O) (n:=0) E);omega
  obtain⟨gl,b0,rfl,a6⟩:=h.rd F hb
  letI:Inhabited (Fin m.L.length):=⟨⟨0,F⟩⟩
  let d:Array (Fin m.L.length):=(m.O.attach.map λx=>⟨x.1,v.lt x.2⟩).toArray
  have G:d.toList.map Fin.val=m.O:=by
   show (m.O.attach.map _).map _=m.O;rw[aQ6];exact aL3 m.O
  have K:d.size=m.O.length:=by rw[<-Array.length_toList,<-aP7 (f:=Fin.val),G]
  have M:d.toList.map (λx:Fin m.L.length=>bP x.1)=m.O.map bP:=by
   have e:=bb9 (List.map bP) G;rw[aQ6]at e;exact e
  have V:=(cH h.ord (k:=g) rfl).2;have hH:Go.Sort.Holds (λx:Fin m.L.length=>bP x.1) w g 0 d:=by
   intro j S;refine⟨?_,bc4 w g _ _ _ hg⟩;rw[aY0,bb8 w g j _ _ _ hg,<-aJ3];have e:(a1.toList.take (m.O.length*1))[j]? =(m.O.map bP)[j]? :=by rw[a8]
   rw[aO6,bd0 E]at e;rw[e,<-M,aO3];simp[S]
  obtain⟨n1,n2,n3⟩:=h.d3 g rfl;have J:CmpLays1 prog 172 #[.pointer I] (λx:Fin m.L.length=>bP x.1) (λx y=>Lib.compareInt (aC m.L x.1) (aC m.L y.1)) g 0 d.size w:=by
   intro mm X dk _ x y;have hc:=fC (λx:Fin m.L.length=>bP x.1) w g mm dk X;refine(aa0 (a6.chg hc (λe=>a2 (by rw[e];exact Ej (Ej (Ej rfl)))) (λe=>n1 e.symm) (λe=>n3 (by rw[<-e];rfl))) x.1 y.1 x.2 y.2 hl).mono ?_;rintro e H ⟨rfl,n,rfl⟩;exact⟨rfl,n,#[],by rw[Go.Sort.grow_empty]⟩
  have u:∀x y:Fin m.L.length,ltOf (λx y:Fin m.L.length=>Lib.compareInt (aC m.L x.1) (aC m.L y.1)) x y=true↔aC m.L x.1<aC m.L y.1:=λx y=>by
   unfold ltOf;rw[bc3,Cj]
  have s:∀x y:Fin m.L.length,ltOf (λx y:Fin m.L.length=>Lib.compareInt (aC m.L x.1) (aC m.L y.1)) x y=false↔¬aC m.L x.1<aC m.L y.1:=λx y=>by
   rw[<-u,aJ9]
  have hO:Go.Sort.SWO (ltOf (λx y:Fin m.L.length=>Lib.compareInt (aC m.L x.1) (aC m.L y.1))):=
   ⟨λx=>(s x x).2 E,λx y z a b=>(u x z).2 (by have :=(u x y).1 a;have :=(u y z).1 b;omega),λx y z a b=>(s x z).2 (by have :=(s x y).1 a;have :=(s y z).1 b;omega)⟩
  have eg:∀B w,(callFunc 172 B).run prog w= .ok (.enter 172 B) w:=enters_of func172 Ek rfl;have C:=Tryz.slices_SortFunc (λx:Fin m.L.length=>bP x.1) (λ_=>rfl) (λx y=>Lib.compareInt (aC m.L x.1) (aC m.L y.1)) hO 172 #[.pointer I] g 0 a0 d w eg J hH V (by rw[K];have :=v.olen;omega);rw[K]at C;refine C.mono ?_;rintro e H ⟨rfl,r,n,X,U,a7,rfl⟩;have D:r.size=m.O.length:=by have :=U.1;omega
  have o:(r.toList.map Fin.val).Perm m.O:=by
   have :=U.2.2;rw[aJ0 E,aJ0 E]at this;rw[<-G];exact this.map _
  have t:Chg (λb=>b=g) w (sortWorld (λx:Fin m.L.length=>bP x.1) w g 0 n r X):=fC _ _ _ _ _ _;have a4:(r.toList.map Fin.val).Nodup:=o.nodup_iff.2 v.nd;refine⟨rfl,r.toList.map Fin.val,o,aS7.2 (λi j hi S P=>?_),⟨t.heap h.hp (λe=>n1 e.symm),h.ar.chg t (λk hk e=>n2 (e▸hk)),t.own h.tab (λk hk e=>n3 (e▸hk)),?_,h.d1,h.d2,h.d3⟩,t.mono (λb e=>by rw[e];rfl)⟩
  ·have T:j<r.size:=by simpa using S
   have :=a7 i j (aY1 _) P E;rw[s,bc5 r i E,bc5 r j T]at this;have a5:aC m.L (r.toList.map Fin.val)[i]≠aC m.L (r.toList.map Fin.val)[j]:=λe=>by
    have :=Q _ (o.mem_iff.1 (aP0 hi)) _ (o.mem_iff.1 (aP0 S)) e;exact(aS7.1 a4 i j hi S P) this
   have e1:(r.toList.map Fin.val)[i]=(r[i]'(E)).1:=Es;have e2:(r.toList.map Fin.val)[j]=(r[j]'T).1:=Es;show aC m.L _<aC m.L _;rw[e1,e2]at a5⊢;omega
  ·have a3:(r.toList.map Fin.val).length=m.O.length:=by simp[D]
   have :=jV (λx:Fin m.L.length=>bP x.1) h.ord n r X D;show World.ownsRow _ _ _ _ _ (r.toList.map Fin.val).length ((r.toList.map Fin.val).map bP);rw[a3,aQ6];exact this
theorem Va{S:Nat->Prop}{w:World}{p c:Nat}{L:List Int}{N:Nat}(h:PmV S w p c L N)(hc:c<=1000000)(hL:L.length<=1000000)(a b:Nat)(ha:a<L.length)(v:b<L.length):Calls prog 114 #[.pointer p,a,b] w λe w'=>e= .returned (.int .i64 0)/\PmStep S w w' p c (mvL L a b) N:=by
 obtain⟨q,SA,lv,ov,m,t,hV,a3,J⟩:=h;have u:=t.lt;obtain⟨W,i⟩:∃W,W=((w.alloc (.cells #[.pointer p] 92)).alloc (.cells #[(a:Int)] 3)).alloc (.cells #[(b:Int)] 3):=⟨_,rfl⟩;have hB:Below w w W:=by rw[i];exact((aB w _).alloc Es _).alloc (by simp;omega) _
 have H:W.heap.size=w.heap.size+3:=by rw[i];simp
 have Y:W.cell? w=some (.pointer p):=by
  rw[i];refine((aB ((w.alloc (.cells #[.pointer p] 92)).alloc (.cells #[(a:Int)] 3)) (.cells #[(b:Int)] 3)).cell (p:=(w,0)) (by simp;omega)).trans ?_;exact((aB (w.alloc (.cells #[.pointer p] 92)) (.cells #[(a:Int)] 3)).cell (p:=(w,0)) Es).trans (ba9 _ _ _ _ rfl)
 have c2:W.cell? (w.heap.size+1,0)=some (.int .i64 (a:Int)):=by
  rw[i];refine((aB ((w.alloc (.cells #[.pointer p] 92)).alloc (.cells #[(a:Int)] 3)) (.cells #[(b:Int)] 3)).cell (p:=(w.heap.size+1,0)) Es).trans ?_;have :((w.alloc (.cells #[.pointer p] 92)).alloc (.cells #[(a:Int)] 3)).cell? ((w.alloc (.cells #[.pointer p] 92)).heap.size,0)=some (.int .i64 (a:Int)):=ba9 _ _ _ _ rfl;rwa[show (w.alloc (.cells #[.pointer p] 92)).heap.size=w.heap.size+1 by simp]at this
 have c3:W.cell? (w.heap.size+2,0)=some (.int .i64 (b:Int)):=by
  rw[i];have :(((w.alloc (.cells #[.pointer p] 92)).alloc (.cells #[(a:Int)] 3)).alloc (.cells #[(b:Int)] 3)).cell? (((w.alloc (.cells #[.pointer p] 92)).alloc (.cells #[(a:Int)] 3)).heap.size,0)=some (.int .i64 (b:Int)):=ba9 _ _ _ _ rfl;rwa[show ((w.alloc (.cells #[.pointer p] 92)).alloc (.cells #[(a:Int)] 3)).heap.size=w.heap.size+2 by simp]at this
 have hP:=t.below hB;have C:Chg (pmS p SA lv ov) w W:=by rw[i];exact((Chg.refl.alloc _).alloc _).alloc _
 have hR:=hV.eR;have d1:decide ((a:Int)<0)=false:=bc0 E;have d2:decide (m.R<=a)=false:=bc0 E;have d3:decide ((b:Int)<0)=false:=bc0 E;have d4:decide (m.R<=b)=false:=bc0 E;obtain⟨_,_,_,c4,_,c5⟩:=hP.cells;have HP:=θ hP;have K:=θ C;have r:=θ u;have B:=θ hV;have a4:=θ Y;have M:=θ c2;have P:=θ c3;have HR:=θ hR;have a8:p<w:=u p (Ei rfl);have a5:=θ H;clear c5 hP t C u hV hB hR H;go_in;go_wp2_with fail;rw[<-i];clear i;go_quiet (fail);obtain⟨n1,rfl⟩:=Ez nq;go_wp2_with fail;have d:=HP.o.below (aW (aJ6 _ _) n1);have l:=B.o.ok;have I:=kT d l E (qY a b) 171 #[.pointer (w.heap.size+1,0), .pointer (w.heap.size+2,0)] (enters_of func171 Ek rfl)
  (λgl a6 a2 W' L k i hT a0 hk er ep=>by
   have a7:=r.o gl (Ej (Ej (Ei (by rw[a2];rfl))))
   have v:=B.o.row hk
   have a1:=l.lt hk
   have :=Us hT (k:=k) (by rw[a0];exact a1) (i.cell M.o (λe=>by have e:w.heap.size+1=gl:=e;omega)) (i.cell P.o (λe=>by have e:w.heap.size+2=gl:=e;omega)) E E (by rw[er];omega) (by rw[er];omega)
   rw[er,ep]at this
   exact this)
 have HK:=θ I;clear I d l c2 c3 c4;refine HK.o.mono ?_;rintro e w1 ⟨rfl,d,s⟩;have Z:w1.cell? w=some (.pointer p):=s.cell Y (λe=>by have :=r.o _ (Ej (Ej (Ei e)));exact absurd this (aV5 _));have g:=B.o.move ha v;have hs:=aG3 d g.ok Z (λe=>by have :=r.o _ e;exact absurd this (aV5 _)) (by show (bV _ _ _).length<=_;rw[dB];omega) (λx hx y hy e=>by
  have h1:=g.row hx
  have h2:=g.row hy
  have n:∀z∈m.O,mvI a b (aC (bV (qY a b) m.O m.L) z)=aC m.L z:=λz hz=>by
   rw[(pX (f:=qY a b) hz (B.o.ok.lt hz)).1]
   exact Sl a b _
  have e2:aC m.L x=aC m.L y:=by rw[<-n x hx,<-n y hy];exact bb9 _ e
  exact B.o.row_inj hx hy e2)
 obtain⟨_,_,c6,_,_,_⟩:=d.cells;have HS:=θ hs;have X:=θ g;have Q:=θ s;clear hs g d s Y;go_wp2_with fail;refine HS.o.mono ?_;rintro e w2 ⟨rfl,O',hp,G,F,D⟩;have T:=θ F;have A:=θ D;have U:=θ hp;have V:=θ G;clear hp G F D;go_wp2;go_ret;have hv:=X.o.perm U.o V.o;exact⟨rfl,PmStep.of T.o hv (by show (bV _ _ _).length<=c;rw[dB];exact a3) (λj hj=>Ei (J j hj)) ((((K.o.drewN n1).mono J).trans Q.o (λb v=>Ei (J b (Ej (Ej (Ei v)))))).trans A.out (λb v=>Ei (J b (Ej (Ej (Ej v))))))⟩
theorem Tryz.infoPair:(prog.info? 134).map (λi=>(i.zero,i.size,i.bytes))=some (some (.agg #[.int .i64 0, .int .i64 0]),2,16):=Ek
theorem PmIn.setA {w j:World}{p q:Nat}{e a:Nat->Prop}{n o:Value}{m:Pm}{l:Ar}(h:PmIn w p q e n o m)(r:IsArena j q a l)(i:Chg e w j)(s:∀k,a k->e k\/w.heap.size<=k):PmIn j p q a n o ⟨l,m.L,m.O,m.R,m.N⟩:=by
 have c:=h.lt;have d:∀k,k<w.heap.size->¬e k->¬a k:=λk f d h=>(s k h).elim d (λh=>E);exact⟨i.heap h.hp h.d1,r,i.own h.tab (λk f=>(h.d2 k f).2),i.own h.ord (λk f=>(h.d3 k f).2.1),d p (c p (Ei rfl)) h.d1,
  λg b=>⟨(h.d2 g b).1,d g (c g (Ej (Ej (Ei b)))) (h.d2 g b).2⟩,λg b=>⟨(h.d3 g b).1,d g (c g (Ej (Ej (Ej b)))) (h.d3 g b).2.1,(h.d3 g b).2.2⟩⟩
theorem PmIn.setPair {w:World}{p q a n c:Nat}{l:Nat->Prop}{o:Value}{m:Pm}(h:PmIn w p q l (.slice a n c) o m)(s:m.L.length=n){k:Nat}(i:k<n)(x y:Int):PmIn ((w.setCell (a,k*2) x).setCell (a,k*2+1) y) p q l (.slice a n c) o ⟨m.A,m.L.set k (x,y),m.O,m.R,m.N⟩:=by
 subst s;have r:TabIs w a c m.L:=h.tab;obtain⟨t,u⟩:=h.d2 a rfl;have f:Chg (λb=>b=a) w ((w.setCell (a,k*2) x).setCell (a,k*2+1) y):=(Chg.refl.setCell (S:=λb=>b=a) (a,k*2) (Ei rfl) _).setCell (a,k*2+1) (Ei rfl) _;refine⟨f.heap h.hp (λe=>t e.symm),h.ar.chg f (λj g e=>u (by rw[<-e];exact g)),?_,f.own h.ord (λj g e=>(h.d3 j g).2.2 (by rw[e];rfl)),h.d1,h.d2,h.d3⟩;have d:=(r.setRow i x).setPos (k:=k) (by simpa using i) y;have e:((m.L.set k (x,aJ m.L k)).set k (aC (m.L.set k (x,aJ m.L k)) k,y))=m.L.set k (x,y):=by
  rw[aT2];congr 2;simp[aC,i]
 rw[e]at d;unfold TabIs at d;rw[aQ0]at d;show World.ownsRow _ _ _ _ _ (m.L.set k (x,y)).length _;rw[aQ0];exact d
theorem PmIn.setO {w f:World}{p q g n c:Nat}{o:Nat->Prop}{t u:Value}{m:Pm}{j:List Nat}(h:PmIn w p q o t u m)(v:j.length=n)(x:f.ownsRow 0 3 1 (.slice g n c) n (j.map bP))(r:Chg (λb=>u.ownBlock=some b) w f)(l:u.ownBlock=some g\/w<=g):PmIn (f.setCell (p,2) (.slice g n c)) p q o t (.slice g n c) ⟨m.A,m.L,j,m.R,m.N⟩:=by
 subst v;have d:=h.lt;have y:f.heap[p]? =_:=r.heap h.hp (λe=>(h.d3 p e).1 rfl);have s:Chg (λb=>b=p) f (f.setCell (p,2) (.slice g j.length c)):=Chg.refl.setCell (S:=λb=>b=p) (p,2) (Ei rfl) _;have i:g≠p/\¬o g/\t.ownBlock≠some g:=by
  rcases l with l | l
  ·exact h.d3 g l
  ·exact⟨λe=>by have :=d p (Ei rfl);omega,λe=>by have :=d g (Ej (Ei e));omega,λe=>by have :=d g (Ej (Ej (Ei e)));omega⟩
 refine⟨bc7 f p 2 _ _ _ y,(h.ar.chg r (λk a e=>(h.d3 k e).2.1 a)).chg s (λk a e=>h.d1 (by rw[<-e];exact a)),s.own (r.own h.tab (λk a e=>(h.d3 k e).2.2 a)) (λk a e=>(h.d2 k a).1 e),s.own x (λk a e=>?_),h.d1,h.d2,λk a=>?_⟩
 ·injection a with a;subst a;exact i.1 e
 ·injection a with a;subst a;exact i
theorem PmIn.setL {w i:World}{p q g n c:Nat}{o:Nat->Prop}{t u:Value}{m:Pm}{l:List (Int×Int)}(h:PmIn w p q o t u m)(v:l.length=n)(x:i.ownsRow 0 134 2 (.slice g n c) n (bJ l))(r:Chg (λb=>t.ownBlock=some b) w i)(j:t.ownBlock=some g\/w<=g):PmIn (i.setCell (p,1) (.slice g n c)) p q o (.slice g n c) u ⟨m.A,l,m.O,m.R,m.N⟩:=by
 subst v;have f:=h.lt;have y:i.heap[p]? =_:=r.heap h.hp (λe=>(h.d2 p e).1 rfl);have s:Chg (λb=>b=p) i (i.setCell (p,1) (.slice g l.length c)):=Chg.refl.setCell (S:=λb=>b=p) (p,1) (Ei rfl) _;have d:g≠p/\¬o g/\u.ownBlock≠some g:=by
  rcases j with j | j
  ·exact⟨(h.d2 g j).1,(h.d2 g j).2,λe=>(h.d3 g e).2.2 j⟩
  ·exact⟨λe=>by have :=f p (Ei rfl);omega,λe=>by have :=f g (Ej (Ei e));omega,λe=>by have :=f g (Ej (Ej (Ej e)));omega⟩
 refine⟨bc7 i p 1 _ _ _ y,(h.ar.chg r (λk a e=>(h.d2 k e).2 a)).chg s (λk a e=>h.d1 (by rw[<-e];exact a)),s.own x (λk a e=>?_),s.own (r.own h.ord (λk a e=>(h.d3 k a).2.2 e)) (λk a e=>(h.d3 k a).1 e),h.d1,λk a=>?_,λk a=>⟨(h.d3 k a).1,(h.d3 k a).2.1,λe=>?_⟩⟩
 ·injection a with a;subst a;exact d.1 e
 ·injection a with a;subst a;exact⟨d.1,d.2.1⟩
 ·injection e with e;subst e;exact d.2.2 a
theorem aE0{S:Nat->Prop}{w:World}{p c:Nat}{L:List Int}{N:Nat}(h:PmV S w p c L N)(hc:c<=1000000)(hL:L.length<=1000000)(hN:N<=1000000)(x y:Nat)(hx:x<L.length)(hy:y<N)(h1:gL L x<0)(h2:∀r,gL L r≠y):Calls prog 50 #[.pointer p,x,y] w λe w'=>e= .returned (.int .i64 0)/\PmStep S w w' p (c+1) (L.set x (y:Int)) N:=by
 obtain⟨q,SA,lv,ov,m,e3,hV,m0,hS⟩:=h;have i2:=e3.lt;have m1:p<w:=i2 p (Ei rfl);have hR:=hV.eR;have j8:=hV.eN;have d1:decide ((x:Int)<0)=false:=bc0 E;have d2:decide (m.R<=x)=false:=bc0 E;have d3:decide ((y:Int)<0)=false:=bc0 E;have d4:decide (m.N<=y)=false:=bc0 E;obtain⟨_,_,_,c3,c4,_⟩:=e3.cells;have f8:=yU e3 hV.ok hV.so E x;have k1:m.is x=false:=by rw[<-aJ9,hV.is];omega
 rw[k1]at f8;have g5:m.has y= -1:=by
  rcases hV.has y with ⟨i,k,_,_,_,h4,_⟩ | ⟨h4,_⟩
  ·exact absurd h4 (h2 _)
  ·exact h4
 obtain⟨a1,b5⟩:=Ey (m.cnt x);rw[b5]at f8;have f7:a1<=m.O.length:=by rw[<-b5];exact aL9
 have k5:=hV.ok.olen;have f1:∀W,PmIn W p q SA lv ov m->Calls prog 97 #[.pointer p,(y:Int)] W λe w'=>e= .returned (-1:Int)/\Below W W w':=λW hW=>by
  have :=tU hW hV.ok E y;rwa[g5]at this
 have g6:=hV.ok.len;have l8:=e3.ar.ok.le;have f3:=hV.ok.most;have f2:m.A.live≠m.A.M:=by unfold Ar.live;omega
 have HV:=θ hV;have i7:=θ f8;have g2:=θ f1;have l6:=θ i2;have HL:=θ f2;have g0:=θ b5;have H:=θ g6;have k7:=θ f3;have HR:=θ hR;have HN:=θ j8;have H2:=θ h2;have j3:=θ k5;clear f8 f1 f2 b5 hV i2 g5 k1 g6 f3 hR j8 h2 e3 k5;cases hF:m.A.F.getLast? with
 | some k=>
  have HF:=θ hF;clear hF;go_in;go_wp2_with fail;refine i7.o.mono ?_;rintro e w1 ⟨rfl,a4,d7⟩;have hh:=g2.o w1 a4;have HH:=θ hh;have h6:=θ a4;have c0:=θ d7;clear hh a4 d7 c3 c4;go_wp2_with fail;refine HH.o.mono ?_;rintro e w2 ⟨rfl,a2⟩;have K:=h6.o.below a2;have b8:=Bv K.ar HL.o HF.o;obtain⟨e0,_,_,_,_,_⟩:=K.cells;have h9:=θ b8;have Z:=θ K;have b9:=θ a2;clear b8 K a2;go_wp2_with fail;refine h9.o.mono ?_;rintro e w3 ⟨rfl,f6,c9,a3,a5⟩;have d:=Z.o.setA c9 a3 a5;have a8:k<m.L.length:=by have :=Z.o.ar.ok.last_lt HF.o;have :=H.o;omega
  have d5:decide (m.L.length<=k)=false:=bc0 E;obtain⟨f,t,a9⟩:∃f t,lv= .slice (some ⟨f,0,none⟩) m.L.length t:=by
   rcases Z.o.tab.2 with ⟨_,h0⟩ | ⟨g,k9,l7,hv,_⟩
   ·omega
   ·exact⟨g,k9,hv⟩
  have g7:=Z.o.ar.ok;have i0:m.A.T[k]? =some false:=(g7.iff k).2 (List.mem_of_getLast? HF.o);have a7:k∉m.O:=λhm=>by rw[(HV.o.ok.iff k).2 hm]at i0;cases i0
  have d0:∀j,(m.A.pop k).T[j]? =some true↔j∈m.O\/j=k:=λj=>by
   show (m.A.T.set k true)[j]? =some true↔_;rw[aO5];by_cases e:k=j
   ·subst e;rw[bd0 rfl,bd0 (by have :=H.o;omega)];simp
   ·rw[bc9 e,HV.o.ok.iff j];exact⟨Ei,λh=>h.elim id (λh=>absurd h.symm e)⟩
  have d6:(m.A.pop k).T.length=m.L.length:=by show (m.A.T.set k true).length=_;rw[aQ0];exact H.o
  have C:∀j∈m.O,aC (m.L.set k ((x:Int),(y:Int))) j=aC m.L j/\aJ (m.L.set k ((x:Int),(y:Int))) j=aJ m.L j:=λj n=>by
   have :k≠j:=λe=>a7 (e▸n);simp[aC,aJ,aO5,this]
  have B:=θ (HV.o.add hx hy h1 H2.o (A':=m.A.pop k) (T':=m.L.set k ((x:Int),(y:Int))) rfl d0 (by rw[aQ0];exact d6) a7 C (by simp[aC,a8]) (by simp[aJ,a8]));have e9:(m.L.set k ((x:Int),(y:Int))).length<=c+1:=by rw[aQ0];omega
  have c7:=θ e9;clear d0 d6 C a7 i0 g7 e9;have v:Hid (∀j,pmS p f6 lv ov j->S j\/w.heap.size<=j):=by
   intro j n;have s1:=c0.o.size;have s2:=b9.o.size;rcases n with e | e | e
   ·exact Ei (hS j (Ei e))
   ·exact(a5 j e).imp (λh=>hS j (Ej (Ei h))) (λh=>E)
   ·exact Ei (hS j (Ej (Ej e)))
  have Q:Hid (Chg S w w3):=by
   show Chg S w w3;exact((c0.o.mono (λb s=>hS b (Ej (Ej (Ej s))))).trans (Chg.of_below (S:=λ_=>False) b9.o) (λ_ hf=>hf.elim)).trans a3 (λb s=>Ei (hS b (Ej (Ei s))))
  have g4:∀b,lv.ownBlock=some b->S b\/w.heap.size<=b:=λb s=>Ei (hS b (Ej (Ej (Ei s))));have U:∀b,ov.ownBlock=some b->S b\/w.heap.size<=b:=λb s=>Ei (hS b (Ej (Ej (Ej s))));have z:=θ g4;have I:=θ U;clear g4 U;clear c9 a3 a5;subst a9;obtain⟨n1,b0⟩:=Ey m.L.length;have e7:TabIs w3 f t m.L:=d.tab;obtain⟨t1,t2,e6⟩:=e7.cells a8;obtain⟨e0,e1,e2,_,_,e5⟩:=d.cells;rw[b0]at d e1 a8 d5 v z;have f4:=θ b0;clear e7 b0;obtain⟨W,hW⟩:∃W,W=w3:=⟨_,rfl⟩;obtain⟨T1,C⟩:∃T1,T1=m.L:=⟨_,rfl⟩;obtain⟨A1,c8⟩:∃A1,A1=m.A.pop k:=⟨_,rfl⟩;rw[<-C]at B c7 f4 t1 t2 d;rw[<-c8]at B d;rw[<-hW]at d t1 t2 e0 e1 e2 e5 e6 Q⊢;clear hW C c8;generalize aC T1 k=r0 at t1;generalize aJ T1 k=p0 at t2;have j0:(0:Int)<=(k:Int):=E;have j1:(k:Int)<(n1:Int):=E;have n2:f≠p:=(d.d2 f rfl).1;have n3:p≠f:=λe=>n2 e.symm;have h7:=θ d;clear d;go_wp2_with fail;refine be3 1 ?_;rw[bd8];go_wp2_with fail;have G:=h7.o.setPair f4.o a8 x y;have d8:Chg S w ((W.setCell (f,k*2) (.int .i64 (x:Int))).setCell (f,k*2+1) (.int .i64 (y:Int))):=(Q.o.setCell (f,k*2) (z.o f rfl) _).setCell (f,k*2+1) (z.o f rfl) _;have Y:((W.setCell (f,k*2) (.int .i64 (x:Int))).setCell (f,k*2+1) (.int .i64 (y:Int))).heap.size=W.heap.size:=by simp[World.setCell]
  rw[<-Y];generalize (W.setCell (f,k*2) (.int .i64 (x:Int))).setCell (f,k*2+1) (.int .i64 (y:Int))=w5 at *;have P:=G.below (aB w5 (.cells #[(k:Int)] 3));obtain⟨oa,oc,u,i5,i4⟩:=aD P.ord;have u:ov= .slice oa m.O.length oc:=u;have X:(w5.alloc (.cells #[(k:Int)] 3)).ownsRow 0 3 1 (.slice oa m.O.length oc) m.O.length ((bX m.O).map (Value.int .i64)):=by
   rw[<-fI,<-u];exact P.ord
  have D:=Cy (i:=a1) (x:=(k:Int)) (vb:=w5.heap.size) (vc:=1) X f7 (bc6 w5 _) (λb s e=>by
   rw[<-u]at s
   have :=G.lt b (Ej (Ej (Ej s)))
   omega) (by have :=j3.o;omega) (aY1 _)
  rw[<-u]at D;have c6:=θ D;have a0:=θ P;have c5:Hid (Chg S w (w5.alloc (.cells #[(k:Int)] 3))):=d8.alloc _;clear D X u i5 i4 G P d8 Y e0 e1 e2 e5 e6 t1 t2;refine c6.o.mono ?_;rintro e w6 b3;obtain⟨g,c',rfl,b1,J,a6⟩:=b3;have b2:=J.heap a0.o.hp (λe=>(a0.o.d3 p e).1 rfl);have e2:w6.cell? (p,2)=some ov:=by rw[bb8 w6 p 2 _ _ _ b2];rfl
  have e5:=bc4 w6 p 2 _ _ b2;have f0:(cN m.O a1 k).map bP=(cN (bX m.O) a1 (k:Int)).map (Value.int .i64):=by
   rw[fI];congr 1;simp[cN,bX,aQ8,aQ5]
  rw[<-f0]at b1;have e4:=a0.o.setO (mC f7) b1 J a6;have d9:Chg S w (w6.setCell (p,2) (.slice g (m.O.length+1) c')):=(c5.o.trans J (λb s=>I.o b s)).setCell (p,2) (v.o p (Ei rfl)) _;have h8:=θ e4;have g9:=θ d9;have h5:=θ a6;clear b2 f0 b1 J a6 e4 d9;go_wp2;go_ret;have hv:=B.o;rw[g0.o]at hv;refine⟨rfl,PmStep.of h8.o hv c7.o (λj n=>?_) g9.o⟩;rcases n with n | n | n | n
  ·exact v.o j (Ei n)
  ·exact v.o j (Ej (Ei n))
  ·exact z.o j n
  ·injection n with n
   subst n;rcases h5.o with h | h
   ·exact I.o _ h
   ·exact Ej (by have :=c5.o.size;show w.heap.size<=g;omega)
 | none=>
  have j7:m.A.F=[]:=List.getLast?_eq_none_iff.1 hF;have HF:=θ j7;clear hF j7;obtain⟨k,hk⟩:=Ey m.L.length;have HK:=θ hk;clear hk;go_in;go_wp2_with fail;refine i7.o.mono ?_;rintro e w1 ⟨rfl,a4,d7⟩;have hh:=g2.o w1 a4;have HH:=θ hh;have h6:=θ a4;have c0:=θ d7;clear hh a4 d7 c3 c4;go_wp2_with fail;refine HH.o.mono ?_;rintro e w2 ⟨rfl,a2⟩;have K:=h6.o.below a2;have b8:=zD K.ar HL.o HF.o;rw[H.o,HK.o]at b8;obtain⟨e0,_,_,_,_,_⟩:=K.cells;have h9:=θ b8;have Z:=θ K;have b9:=θ a2;clear b8 K a2;go_wp2_with fail;refine h9.o.mono ?_;rintro e w3 ⟨rfl,f6,c9,a3,a5⟩;have d:=Z.o.setA c9 a3 a5;have a7:k∉m.O:=λhm=>by have :=HV.o.ok.lt hm;have :=HK.o;omega
  have d0:∀j,(m.A.more).T[j]? =some true↔j∈m.O\/j=k:=λj=>by
   show (m.A.T++[true])[j]? =some true↔_;have hk:=HK.o;have hl:=H.o;rw[aN5];by_cases e:j<m.A.T.length
   ·rw[bd0 e,HV.o.ok.iff j];exact⟨Ei,λh=>h.elim id (λh=>E)⟩
   ·rw[bc9 e];constructor
    ·intro h;have :=(aO2.1 h).1;simp at this;exact Ej E
    ·rintro(h | h)
     ·have :=HV.o.ok.lt h;omega
     ·have :j-m.A.T.length=0:=E;rw[this];rfl
  have d6:(m.A.more).T.length=k+1:=by show (m.A.T++[true]).length=_;have hk:=HK.o;have hl:=H.o;simp;omega
  have V:(m.L++[((0:Int),(0:Int))]).length=k+1:=by simp;exact HK.o
  have C:∀j∈m.O,aC ((m.L++[((0:Int),(0:Int))]).set k ((x:Int),(y:Int))) j=aC m.L j/\aJ ((m.L++[((0:Int),(0:Int))]).set k ((x:Int),(y:Int))) j=aJ m.L j:=λj n=>by
   have h3:k≠j:=λe=>a7 (e▸n);have h4:=HV.o.ok.lt n;simp[aC,aJ,aO5,h3,aN5,h4]
  have B:=θ (HV.o.add hx hy h1 H2.o (A':=m.A.more) (T':=(m.L++[((0:Int),(0:Int))]).set k ((x:Int),(y:Int))) rfl d0 (by rw[aQ0,V];exact d6) a7 C (by simp[aC,HK.o]) (by simp[aJ,HK.o]));have e9:((m.L++[((0:Int),(0:Int))]).set k ((x:Int),(y:Int))).length<=c+1:=by rw[aQ0,V];have :=HK.o;omega
  have c7:=θ e9;clear d0 d6 C a7 e9;have Q:Hid (Chg S w w3):=by
   show Chg S w w3;exact((c0.o.mono (λb s=>hS b (Ej (Ej (Ej s))))).trans (Chg.of_below (S:=λ_=>False) b9.o) (λ_ hf=>hf.elim)).trans a3 (λb s=>Ei (hS b (Ej (Ei s))))
  have j5:Hid (∀j,f6 j->S j\/w.heap.size<=j):=by
   intro j e;have s1:=c0.o.size;have s2:=b9.o.size;exact(a5 j e).imp (λh=>hS j (Ej (Ei h))) (λh=>E)
  have U:∀b,ov.ownBlock=some b->S b\/w.heap.size<=b:=λb s=>Ei (hS b (Ej (Ej (Ej s))));have I:=θ U;clear U;obtain⟨la,lc,a9,l4,l3⟩:=aD Z.o.tab;rw[HK.o]at a9;have g8:=d.tab;have k2:m.L.length=k:=HK.o;have b4:w3.ownsRow 0 134 2 lv k (bJ m.L):=by rw[<-k2];exact g8
  rw[a9]at b4;have l9:k<=1000000:=E;obtain⟨e0,e1,e2,_,_,e5⟩:=d.cells;rw[a9]at e1;have k4:∀b,lv.ownBlock=some b->S b\/w.heap.size<=b:=λb s=>Ei (hS b (Ej (Ej (Ei s))));have i9:=θ k4;have j2:=θ a9;have b7:=θ d;have j6:=θ (hS p (Ei rfl));have k6:∀g,lv.ownBlock=some g\/w3.heap.size<=g->g≠p/\p≠g:=λg hg=>by
   have :=b7.o.lt p (Ei rfl);rcases hg with hg | hg
   ·exact⟨(b7.o.d2 g hg).1,λe=>(b7.o.d2 g hg).1 e.symm⟩
   ·exact⟨E,E⟩
  have k8:=θ k6;clear c9 a3 a5 l4 l3 g8 d k2 k4 a9 hS k6;go_wp2_with fail;refine be3 2 ?_;rw[bd8];go_wp2_with (at_builtin;refine gV rfl _ _ 81 rfl 0 134 Tryz.infoPair Tryz.underlying81 rfl _ _ _ rfl b4 rfl rfl rfl ?c1 ?c2 ?c3 ?_);case c1=>unfold maxLen;omega
  case c2=>omega
  case c3=>exact aY1 _
  intro f t w4 i3 i1 k3 l2;have l5:=i1.size;have b6:lv.ownBlock=some f\/w3.heap.size<=f:=by rw[j2.o];exact k3
  have f9:Chg (λb=>lv.ownBlock=some b) w3 w4:=by
   rw[j2.o];exact Chg.refl.grown i1 (λk hk=>Ei hk)
  obtain⟨n2,n3⟩:=k8.out f b6;have i6:=f9.heap b7.o.hp (λe=>(b7.o.d2 p e).1 rfl);have l0:w4.cell? (p,1)=some lv:=by rw[bb8 w4 p 1 _ _ _ i6];rfl
  have l1:=bc4 w4 p 1 _ _ i6;have j9:bJ m.L++[Value.int .i64 0,Value.int .i64 0]=bJ (m.L++[((0:Int),(0:Int))]):=by
   have :∀(l:List (Int×Int)),bJ l++[Value.int .i64 0,Value.int .i64 0]=bJ (l++[((0:Int),(0:Int))]):=by
    intro l;induction l with
    | nil=>rfl
    | cons a l ih=>show _::_::(bJ l++_)=_::_::bJ (l++_);rw[ih]
   exact this _
  rw[j9]at i3;have G:=b7.o.setL V i3 f9 b6;have g3:Chg S w (w4.setCell (p,1) (.slice f (k+1) t)):=(Q.o.trans f9 (λb s=>i9.o b s)).setCell (p,1) (Ei j6.o) _;have k0:S f\/w.heap.size<=f:=by
   rcases b6 with h | h
   ·exact i9.o f h
   ·exact Ej (by have :=Q.o.size;omega)
  have j4:=θ G;have g1:=θ g3;have i8:=θ k0;have f5:=θ V;clear i1 k3 i3 j9 f9 b6 i6 e1 b4 G g3 k0 V e0 e2 e5;clear Q;go_wp2_with fail;obtain⟨W,hW⟩:∃W,W=w4.setCell (p,1) (.slice f (k+1) t):=⟨_,rfl⟩;rw[<-hW]at j4 g1⊢;clear hW l0 l1 l5 l2;have Q:=g1;obtain⟨n1,b0⟩:∃n1,n1=k+1:=⟨_,rfl⟩;obtain⟨T1,C⟩:∃T1,T1=m.L++[((0:Int),(0:Int))]:=⟨_,rfl⟩;obtain⟨A1,c8⟩:∃A1,A1=m.A.more:=⟨_,rfl⟩;have d:=j4.o;have a8:k<n1:=E;rw[<-C]at B c7 f5 d;rw[<-c8]at B d;rw[<-b0]at f5 d;have e8:=f5.o;have e7:TabIs W f t T1:=by have :=d.tab;unfold TabIs;rw[e8];show World.ownsRow _ _ _ _ _ _ _;rw[<-e8];rw[<-e8]at this;exact this
  have f4:Hid (T1.length=n1):=e8;obtain⟨t1,t2,e6⟩:=e7.cells (k:=k) E;obtain⟨e0,e1,e2,_,_,e5⟩:=d.cells;have d5:decide (n1<=k)=false:=bc0 E;have v:Hid (∀j,pmS p f6 (.slice f n1 t) ov j->S j\/w.heap.size<=j):=by
   rintro j (rfl | n | n | n)
   ·exact Ei j6.o
   ·exact j5.o j n
   ·injection n with n;subst n;exact i8.o
   ·exact I.o j n
  have z:Hid (∀b,(Value.slice f n1 t).ownBlock=some b->S b\/w.heap.size<=b):=by
   intro b s;injection s with s;subst s;exact i8.o
  rw[<-b0]at ⊢;clear e7 e8 b0 C c8 f5 n2 n3;generalize aC T1 k=r0 at t1;generalize aJ T1 k=p0 at t2;have j0:(0:Int)<=(k:Int):=E;have j1:(k:Int)<(n1:Int):=E;have n2:f≠p:=(d.d2 f rfl).1;have n3:p≠f:=λe=>n2 e.symm;have h7:=θ d;clear d;rw[bd8];go_wp2_with fail;have G:=h7.o.setPair f4.o a8 x y;have d8:Chg S w ((W.setCell (f,k*2) (.int .i64 (x:Int))).setCell (f,k*2+1) (.int .i64 (y:Int))):=(Q.o.setCell (f,k*2) (z.o f rfl) _).setCell (f,k*2+1) (z.o f rfl) _;have Y:((W.setCell (f,k*2) (.int .i64 (x:Int))).setCell (f,k*2+1) (.int .i64 (y:Int))).heap.size=W.heap.size:=by simp[World.setCell]
  rw[<-Y];generalize (W.setCell (f,k*2) (.int .i64 (x:Int))).setCell (f,k*2+1) (.int .i64 (y:Int))=w5 at *;have P:=G.below (aB w5 (.cells #[(k:Int)] 3));obtain⟨oa,oc,u,i5,i4⟩:=aD P.ord;have u:ov= .slice oa m.O.length oc:=u;have X:(w5.alloc (.cells #[(k:Int)] 3)).ownsRow 0 3 1 (.slice oa m.O.length oc) m.O.length ((bX m.O).map (Value.int .i64)):=by
   rw[<-fI,<-u];exact P.ord
  have D:=Cy (i:=a1) (x:=(k:Int)) (vb:=w5.heap.size) (vc:=1) X f7 (bc6 w5 _) (λb s e=>by
   rw[<-u]at s
   have :=G.lt b (Ej (Ej (Ej s)))
   omega) (by have :=j3.o;omega) (aY1 _)
  rw[<-u]at D;have c6:=θ D;have a0:=θ P;have c5:Hid (Chg S w (w5.alloc (.cells #[(k:Int)] 3))):=d8.alloc _;clear D X u i5 i4 G P d8 Y e0 e1 e2 e5 e6 t1 t2;refine c6.o.mono ?_;rintro e w6 b3;obtain⟨g,c',rfl,b1,J,a6⟩:=b3;have b2:=J.heap a0.o.hp (λe=>(a0.o.d3 p e).1 rfl);have e2:w6.cell? (p,2)=some ov:=by rw[bb8 w6 p 2 _ _ _ b2];rfl
  have e5:=bc4 w6 p 2 _ _ b2;have f0:(cN m.O a1 k).map bP=(cN (bX m.O) a1 (k:Int)).map (Value.int .i64):=by
   rw[fI];congr 1;simp[cN,bX,aQ8,aQ5]
  rw[<-f0]at b1;have e4:=a0.o.setO (mC f7) b1 J a6;have d9:Chg S w (w6.setCell (p,2) (.slice (some ⟨g,0,none⟩) (m.O.length+1) c')):=(c5.o.trans J (λb s=>I.o b s)).setCell (p,2) (v.o p (Ei rfl)) _;have h8:=θ e4;have g9:=θ d9;have h5:=θ a6;clear b2 f0 b1 J a6 e4 d9;go_wp2;go_ret;have hv:=B.o;rw[g0.o]at hv;refine⟨rfl,PmStep.of h8.o hv c7.o (λj n=>?_) g9.o⟩;rcases n with n | n | n | n
  ·exact v.o j (Ei n)
  ·exact v.o j (Ej (Ei n))
  ·exact z.o j n
  ·injection n with n
   subst n;rcases h5.o with h | h
   ·exact I.o _ h
   ·exact Ej (by have :=c5.o.size;show w.heap.size<=g;omega)
def lB(B:Nat)(w:World)(l:List (Int×Int))(e:Ending)(w':World):Prop:=∃a c,e= .returned (.slice a l.length c)/\w'.ownsRow B 134 2 (.slice a l.length c) l.length (bJ l)/\Below B w w'
theorem zK:∀(l:List (Int×Int)) (x:Int×Int),bJ l++[.int .i64 x.1, .int .i64 x.2]=bJ (l++[x])
 | [],x=>rfl
 | y::l,x=>by show _::_::(bJ l++_)=_::_::bJ (l++_);rw[zK l x]
def Pm.prs (m:Pm)(O:List Nat):List (Int×Int):=O.map λk=>(aC m.L k,aJ m.L k)
theorem Pm.prs_snoc (m:Pm){O:List Nat}{i k:Nat}(a:O[i]? =some k):m.prs (O.take (i+1))=m.prs (O.take i)++[(aC m.L k,aJ m.L k)]:=by
 unfold Pm.prs;rw[aT5,a];simp
theorem ar0{w:World}{p q:Nat}{SA:Nat->Prop}{lv ov:Value}{m:Pm}(h:PmIn w p q SA lv ov m)(e:m.Ok)(hl:m.L.length<=1000000000):Calls prog 140 #[.pointer p] w (lB w w (m.prs m.O)):=by
 by_cases V:m.O.length=0
 ·have U:m.O=[]:=aM7 V;obtain⟨_,_,R,_,_,_⟩:=h.cells;obtain⟨a,c,A,_,_⟩:=aD h.ord;have D:Hid (lB w w (m.prs m.O) (.returned (.slice none 0 0)) w):=by
   show lB _ _ _ _ _;rw[U];exact⟨none,0,rfl,bb2 _ _ _ _,aJ6 _ _⟩
  rw[A,V]at R;clear h e U A;go_in;go_wp2;go_loopw [3,13] (λo v wr=>o= .slice none 0 0/\v= .int .i64 0/\wr=w) (λ_ _ _=>0);exact⟨rfl,rfl,rfl⟩;case round=>
   obtain⟨rfl,rfl,rfl⟩:=hrel;go_wp2;go_ret;exact D.o
 ·obtain⟨g,a0,H,u,_,rfl,rfl,_,_,_,_,_⟩:=h.pair e (i:=0) E;have HW:Hid (∀W,Below w w W->W.cell? (p,1)=some (.slice H m.L.length u)/\∀i k:Nat,m.O[i]? =some k->W.cell? (g,i)=some (.int .i64 (k:Int))/\W.cell? (H,k*2)=some (.int .i64 (aC m.L k))/\W.cell? (H,k*2+1)=some (.int .i64 (aJ m.L k))):=by
   intro W hW;have X:=h.below hW;refine⟨X.cells.2.1,λi k s=>?_⟩;have Y:i<m.O.length:=(aO2.1 s).1;obtain⟨g',_,a1,_,k',J,K,r,_,M,N,P⟩:=X.pair e Y;injection J with f _ _
   injection f with f
   injection f with f _ _
   subst f;injection K with f _ _
   injection f with f
   injection f with f _ _
   subst f;rw[s]at r;injection r with r
   subst r;exact⟨M,N,P⟩
  obtain⟨_,_,R,_,_,_⟩:=h.cells;have a3:=e.olen;have F:=θ e;clear h e;go_in;go_wp2;go_loopw [3,13] (λo v wr=>∃i:Nat,i<=m.O.length/\v= .int .i64 i/\wr.ownsRow w 134 2 o i (bJ (m.prs (m.O.take i)))/\Below w w wr) (λ_ v _=>m.O.length-(intOf v).toNat);exact⟨0,aY1 _,rfl,bb2 _ _ _ _,aJ6 _ _⟩;case round=>
   obtain⟨i,Y,rfl,b,x⟩:=hrel;have hs:=x.size;obtain⟨Q,S,rfl,_,_⟩:=aD b;by_cases I:i<m.O.length
   ·obtain⟨k,s⟩:∃k,m.O[i]? =some k:=⟨_,aO0 I⟩;obtain⟨c1,z⟩:=HW.o wr x;obtain⟨M,N,P⟩:=z i k s;have a2:=F.o.lt (aR5 s);have B:=m.prs_snoc s;have n:=zK (m.prs (m.O.take i)) (aC m.L k,aJ m.L k);rw[<-B]at n;have G:=θ n;have j0:(0:Int)<=(k:Int):=E;have j1:(k:Int)<(m.L.length:Int):=E;clear z s B n;generalize aC m.L k=r0 at *;generalize aJ m.L k=p0 at *;go_wp2_with (at_builtin;refine gV rfl _ _ 81 rfl w 134 Tryz.infoPair Tryz.underlying81 rfl _ _ _ rfl b rfl rfl rfl ?c1 ?c2 ?c3 ?_);case c1=>unfold maxLen;omega
    case c2=>omega
    intro g5 T w5 d l _ _;have y:Below w w w5:=x.grown l hs (λj hj=>(b.lt j hj).1);rw[G.o]at d;have Z:=θ d;have C:=θ y;clear b d l y M N P c1;go_wp2;go_roundw;exact⟨i+1,E,by go_num,Z.o,C.o⟩;simp[intOf];omega
   ·obtain rfl:i=m.O.length:=E;rw[aT8]at b;have t:(m.prs m.O).length=m.O.length:=by unfold Pm.prs;rw[aP7]
    have D:Hid (lB w w (m.prs m.O) (.returned (.slice Q m.O.length S)) wr):=by
     show lB _ _ _ _ _;exact⟨Q,S,by rw[t],by rw[t];exact b,x⟩
    clear b x t;go_wp2;go_ret;exact D.o
def prL:Nat->List Int->List (Int×Int)
 | _,[]=>[]
 | i,x::l=>if 0<=x then ((i:Int),x)::prL (i+1) l else prL (i+1) l
theorem pN:∀(l:List Int) (i:Nat) (r p:Int),(r,p)∈prL i l↔∃j:Nat,r=((i+j:Nat):Int)/\l[j]? =some p/\0<=p
 | [],i,r,p=>by simp[prL]
 | x::l,i,r,p=>by
  have g:=pN l (i+1) r p;unfold prL;have d:(r,p)∈prL (i+1) l↔∃j:Nat,r=((i+(j+1):Nat):Int)/\(x::l)[j+1]? =some p/\0<=p:=by
   rw[g];constructor
   ·rintro⟨j,c,a,b⟩;exact⟨j,E,by simpa using a,b⟩
   ·rintro⟨j,c,a,b⟩;exact⟨j,E,by simpa using a,b⟩
  by_cases h:0<=x
  ·rw[bd0 h,aR1,d];constructor
   ·rintro(e | ⟨j,c,a,b⟩)
    ·injection e with k f;exact⟨0,E,by simp[f],E⟩
    ·exact⟨j+1,c,a,b⟩
   ·rintro⟨j,c,a,b⟩;cases j with
    | zero=>left;simp at a;subst a;congr 1
    | succ j=>exact Ej ⟨j,c,a,b⟩
  ·rw[bc9 h,d];constructor
   ·rintro⟨j,c,a,b⟩;exact⟨j+1,c,a,b⟩
   ·rintro⟨j,c,a,b⟩;cases j with
    | zero=>simp at a;omega
    | succ j=>exact⟨j,c,a,b⟩
theorem oY:∀(l:List Int) (i:Nat),(prL i l).Pairwise λa b=>a.1<b.1
 | [],i=>List.Pairwise.nil
 | x::l,i=>by
  unfold prL;split
  ·rw[aS6];refine⟨λ⟨r,p⟩ h=>?_,oY l (i+1)⟩;obtain⟨j,c,_⟩:=(pN l (i+1) r p).1 h;show (i:Int)<r;omega
  ·exact oY l (i+1)
theorem ab6{l c:List (Int×Int)}(h:l.Pairwise λa b=>a.1<b.1)(f:c.Pairwise λa b=>a.1<b.1)(i:∀x,x∈l↔x∈c):l=c:=by
 have g:∀{l:List (Int×Int)},(l.Pairwise λa b=>a.1<b.1)->l.Nodup:=λh=>h.imp (λd e=>by rw[e]at d;omega);have j:l.Perm c:=(List.perm_ext_iff_of_nodup (g h) (g f)).2 i;exact j.eq_of_pairwise (λa b _ _ k m=>E) h f
theorem PVw.prs {m:Pm}{L:List Int}{N:Nat}(h:PVw m L N):m.prs m.O=prL 0 L:=by
 refine ab6 ?_ (oY _ _) (λ⟨r,p⟩=>?_)
 ·unfold Pm.prs;rw[List.pairwise_map];exact h.so
 ·rw[pN];have l:=h.mem r p;unfold Pm.prs;rw[aR4];constructor
  ·rintro⟨k,f,e⟩;injection e with b c
   obtain⟨a,d⟩:=l.1 ⟨k,f,b,c⟩;obtain⟨i,rfl,g⟩:=Cs (L:=L) (r:=r) E;rw[dQ,aO0 g]at a;exact⟨i,E,by rw[aO0 g];exact bb9 _ a,d⟩
  ·rintro⟨j,a,d,n⟩;obtain⟨k,f,b,c⟩:=l.2 ⟨by rw[a,aY0,dQ,d];rfl,n⟩;exact⟨k,f,by rw[b,c]⟩
theorem ab1{S:Nat->Prop}{w:World}{p c:Nat}{L:List Int}{N:Nat}(h:PmV S w p c L N)(g:c<=1000000):Calls prog 140 #[.pointer p] w (lB w w (prL 0 L)):=by
 obtain⟨q,e,i,j,m,b,a,d,f⟩:=h;have :=ar0 b a.ok E;rwa[a.prs]at this
theorem aq9{S:Nat->Prop}{w:World}{p c:Nat}{L:List Int}{N:Nat}(h:PmV S w p c L N)(x y:Int)(f:(x<0)\/((L.length:Int)<=x)\/(y<0)\/((N:Int)<=y)):Calls prog 50 #[.pointer p,x,y] w λe t=>e= .returned (.int .i64 2)/\Below w w t:=by
 obtain⟨q,u,z,A,m,i,j,_,_⟩:=h;obtain⟨_,_,_,n,o,_⟩:=i.cells;have s:=i.lt p (Ei rfl);rw[j.eR]at n;rw[j.eN]at o;clear i j;by_cases a:x<0
 ·have g:decide (x<0)=true:=bc2 a;clear f a;go_in;go_wp2;go_ret;exact⟨rfl,aJ6 _ _⟩
 by_cases b:(L.length:Int)<=x
 ·have g:decide (x<0)=false:=bc0 a;have k:decide ((L.length:Int)<=x)=true:=bc2 b;clear f a b;go_in;go_wp2;go_ret;exact⟨rfl,aJ6 _ _⟩
 by_cases d:y<0
 ·have g:decide (x<0)=false:=bc0 a;have k:decide ((L.length:Int)<=x)=false:=bc0 b;have r:decide (y<0)=true:=bc2 d;clear f a b d;go_in;go_wp2;go_ret;exact⟨rfl,aJ6 _ _⟩
 have l:(N:Int)<=y:=E;have g:decide (x<0)=false:=bc0 a;have k:decide ((L.length:Int)<=x)=false:=bc0 b;have r:decide (y<0)=false:=bc0 d;have v:decide ((N:Int)<=y)=true:=bc2 l;clear f a b d l;go_in;go_wp2;go_ret;exact⟨rfl,aJ6 _ _⟩
theorem Uy{S:Nat->Prop}{w:World}{p c:Nat}{L:List Int}{N:Nat}(h:PmV S w p c L N)(x:Int)(g:(x<0)\/((L.length:Int)<x)):Calls prog 116 #[.pointer p,x] w λe n=>e= .returned (.int .i64 2)/\Below w w n:=by
 obtain⟨q,o,s,t,m,b,d,_,_⟩:=h;obtain⟨_,_,_,i,j,_⟩:=b.cells;have l:=b.lt p (Ei rfl);rw[d.eR]at i;rw[d.eN]at j;clear b d;by_cases a:x<0
 ·have k:decide (x<0)=true:=bc2 a;clear g a;go_in;go_wp2;go_quiet (fail);go_wp2;go_ret;exact⟨rfl,aW (aB w _) _⟩
 have f:(L.length:Int)<x:=E;have k:decide (x<0)=false:=bc0 a;have r:decide ((L.length:Int)<x)=true:=bc2 f;clear g a f;go_in;go_wp2;go_quiet (fail);go_wp2;go_ret;exact⟨rfl,aW (aB w _) _⟩
theorem Px{S:Nat->Prop}{w:World}{p c:Nat}{L:List Int}{N:Nat}(h:PmV S w p c L N)(x:Int)(g:(x<0)\/((L.length:Int)<=x)):Calls prog 106 #[.pointer p,x] w λe n=>e= .returned (.int .i64 2)/\Below w w n:=by
 obtain⟨q,o,s,t,m,b,d,_,_⟩:=h;obtain⟨_,_,_,i,j,_⟩:=b.cells;have l:=b.lt p (Ei rfl);rw[d.eR]at i;rw[d.eN]at j;clear b d;by_cases a:x<0
 ·have k:decide (x<0)=true:=bc2 a;clear g a;go_in;go_wp2;go_quiet (fail);go_wp2;go_ret;exact⟨rfl,aW (aB w _) _⟩
 have f:(L.length:Int)<=x:=E;have k:decide (x<0)=false:=bc0 a;have r:decide ((L.length:Int)<=x)=true:=bc2 f;clear g a f;go_in;go_wp2;go_quiet (fail);go_wp2;go_ret;exact⟨rfl,aW (aB w _) _⟩
theorem Uv{S:Nat->Prop}{w:World}{p c:Nat}{L:List Int}{N:Nat}(h:PmV S w p c L N)(x:Int)(g:(x<0)\/((N:Int)<x)):Calls prog 117 #[.pointer p,x] w λe n=>e= .returned (.int .i64 2)/\Below w w n:=by
 obtain⟨q,o,s,t,m,b,d,_,_⟩:=h;obtain⟨_,_,_,i,j,_⟩:=b.cells;have l:=b.lt p (Ei rfl);rw[d.eR]at i;rw[d.eN]at j;clear b d;by_cases a:x<0
 ·have k:decide (x<0)=true:=bc2 a;clear g a;go_in;go_wp2;go_quiet (fail);go_wp2;go_ret;exact⟨rfl,aW (aB w _) _⟩
 have f:(N:Int)<x:=E;have k:decide (x<0)=false:=bc0 a;have r:decide ((N:Int)<x)=true:=bc2 f;clear g a f;go_in;go_wp2;go_quiet (fail);go_wp2;go_ret;exact⟨rfl,aW (aB w _) _⟩
theorem Pt{S:Nat->Prop}{w:World}{p c:Nat}{L:List Int}{N:Nat}(h:PmV S w p c L N)(x:Int)(g:(x<0)\/((N:Int)<=x)):Calls prog 107 #[.pointer p,x] w λe n=>e= .returned (.int .i64 2)/\Below w w n:=by
 obtain⟨q,o,s,t,m,b,d,_,_⟩:=h;obtain⟨_,_,_,i,j,_⟩:=b.cells;have l:=b.lt p (Ei rfl);rw[d.eR]at i;rw[d.eN]at j;clear b d;by_cases a:x<0
 ·have k:decide (x<0)=true:=bc2 a;clear g a;go_in;go_wp2;go_quiet (fail);go_wp2;go_ret;exact⟨rfl,aW (aB w _) _⟩
 have f:(N:Int)<=x:=E;have k:decide (x<0)=false:=bc0 a;have r:decide ((N:Int)<=x)=true:=bc2 f;clear g a f;go_in;go_wp2;go_quiet (fail);go_wp2;go_ret;exact⟨rfl,aW (aB w _) _⟩
theorem box3(w:World)(a d f:Value)(b e g:TypeId):∃W,W=((w.alloc (.cells #[a] b)).alloc (.cells #[d] e)).alloc (.cells #[f] g)/\W.cell? w=some a/\W.cell? (w.heap.size+1,0)=some d/\W.cell? (w.heap.size+2,0)=some f/\Below w w W:=by
 refine⟨_,rfl,?_,?_,?_,((aB w _).alloc Es _).alloc (by simp;omega) _⟩
 ·refine((aB ((w.alloc (.cells #[a] b)).alloc (.cells #[d] e)) (.cells #[f] g)).cell (p:=(w,0)) (by simp;omega)).trans ?_;exact((aB (w.alloc (.cells #[a] b)) (.cells #[d] e)).cell (p:=(w,0)) Es).trans (ba9 _ _ _ _ rfl)
 ·refine((aB ((w.alloc (.cells #[a] b)).alloc (.cells #[d] e)) (.cells #[f] g)).cell (p:=(w.heap.size+1,0)) Es).trans ?_;have :((w.alloc (.cells #[a] b)).alloc (.cells #[d] e)).cell? ((w.alloc (.cells #[a] b)).heap.size,0)=some d:=ba9 _ _ _ _ rfl;rwa[show (w.alloc (.cells #[a] b)).heap.size=w.heap.size+1 by simp]at this
 ·have :(((w.alloc (.cells #[a] b)).alloc (.cells #[d] e)).alloc (.cells #[f] g)).cell? (((w.alloc (.cells #[a] b)).alloc (.cells #[d] e)).heap.size,0)=some f:=ba9 _ _ _ _ rfl;rwa[show ((w.alloc (.cells #[a] b)).alloc (.cells #[d] e)).heap.size=w.heap.size+2 by simp]at this
theorem Lv{S:Nat->Prop}{w:World}{p c:Nat}{L:List Int}{N:Nat}(h:PmV S w p c L N)(x y:Int)(i:(x<0)\/((L.length:Int)<=x)\/(y<0)\/((L.length:Int)<=y)):Calls prog 114 #[.pointer p,x,y] w λe A=>e= .returned (.int .i64 2)/\Below w w A:=by
 obtain⟨q,B,I,J,m,n,r,_,_⟩:=h;obtain⟨_,_,_,j,t,_⟩:=n.cells;have s:=n.lt p (Ei rfl);rw[r.eR]at j;rw[r.eN]at t;clear n r;obtain⟨W,b,C,D,F,l⟩:=box3 w (.pointer p) (.int .i64 x) (.int .i64 y) 92 3 3;have G:=(l.cell (p:=(p,3)) s).trans j;have f:=θ l;clear j t l;by_cases a:x<0
 ·have k:decide (x<0)=true:=bc2 a;clear i a;go_in;go_wp2_with fail;rw[<-b];clear b;go_quiet (fail);go_wp2;go_ret;exact⟨rfl,aW (f.o) _⟩
 by_cases d:(L.length:Int)<=x
 ·have k:decide (x<0)=false:=bc0 a;have u:decide ((L.length:Int)<=x)=true:=bc2 d;clear i a d;go_in;go_wp2_with fail;rw[<-b];clear b;go_quiet (fail);go_wp2;go_ret;exact⟨rfl,aW (f.o) _⟩
 by_cases g:y<0
 ·have k:decide (x<0)=false:=bc0 a;have u:decide ((L.length:Int)<=x)=false:=bc0 d;have z:decide (y<0)=true:=bc2 g;clear i a d g;go_in;go_wp2_with fail;rw[<-b];clear b;go_quiet (fail);go_wp2;go_ret;exact⟨rfl,aW (f.o) _⟩
 have v:(L.length:Int)<=y:=E;have k:decide (x<0)=false:=bc0 a;have u:decide ((L.length:Int)<=x)=false:=bc0 d;have z:decide (y<0)=false:=bc0 g;have H:decide ((L.length:Int)<=y)=true:=bc2 v;clear i a d g v;go_in;go_wp2_with fail;rw[<-b];clear b;go_quiet (fail);go_wp2;go_ret;exact⟨rfl,aW (f.o) _⟩
theorem aq8{S:Nat->Prop}{w:World}{p c:Nat}{L:List Int}{N:Nat}(h:PmV S w p c L N)(hc:c<=1000000)(x y:Nat)(hx:x<L.length)(hy:y<N)(z:0<=gL L x\/∃r,gL L r=y):Calls prog 50 #[.pointer p,x,y] w λe P=>e= .returned (.int .i64 1)/\PmStep S w P p c L N:=by
 obtain⟨q,Z,lv,ov,m,n,l,I,J⟩:=h;have V:=l.eR;have D:=l.eN;have d1:decide ((x:Int)<0)=false:=bc0 E;have d2:decide (m.R<=x)=false:=bc0 E;have d3:decide ((y:Int)<0)=false:=bc0 E;have d4:decide (m.N<=y)=false:=bc0 E;obtain⟨_,_,_,T,U,_⟩:=n.cells;have d:=yU n l.ok l.so E x;have Q:=θ l;generalize m.cnt x=at0 at *;by_cases F:m.is x=true
 ·rw[F]at d;have t:=θ d;clear d l V D n F z;go_in;go_wp2_with fail;refine t.o.mono ?_;rintro e X ⟨rfl,a,f⟩;have v:=θ a;have u:=θ f;clear a f T U;go_wp2;go_ret;exact⟨rfl,PmStep.of v.o Q.o I (λj O=>Ei (J j O)) (u.o.mono (λb M=>J b (Ej (Ej (Ej M)))))⟩
 ·have G:m.is x=false:=by rw[<-aJ9];exact F
  rw[G]at d;have s:¬0<=gL L x:=λh=>F ((l.is x).2 h);obtain⟨i,H⟩:∃i:Nat,m.has y=i:=by
   rcases l.has y with ⟨i,k,K,_⟩ | ⟨_,K⟩
   ·exact⟨i,K⟩
   ·rcases z with z | ⟨r,z⟩
    ·exact absurd z s
    ·exact absurd z (K E r)
  have g:∀W,PmIn W p q Z lv ov m->Calls prog 97 #[.pointer p,(y:Int)] W λe P=>e= .returned (.int .i64 (i:Int))/\Below W W P:=λW hW=>by
   have :=tU hW l.ok E y;rwa[H]at this
  have d5:decide (0<=(i:Int))=true:=bc2 E;have t:=θ d;have B:=θ g;clear d l V D n F G z s H g;go_in;go_wp2_with fail;refine t.o.mono ?_;rintro e X ⟨rfl,a,f⟩;have Y:=θ (B.o X a);have v:=θ a;have u:=θ f;clear a f T U;go_wp2_with fail;refine Y.o.mono ?_;rintro e w2 ⟨rfl,C⟩;have A:=θ C;clear C;go_wp2;go_ret;exact⟨rfl,PmStep.of (v.o.below A.o) Q.o I (λj O=>Ei (J j O)) ((u.o.mono (λb M=>J b (Ej (Ej (Ej M))))).trans (Chg.of_below (S:=λ_=>False) A.o) (λ_ hf=>hf.elim))⟩
theorem PmV.stay {S:Nat->Prop}{w b:World}{p c:Nat}{L:List Int}{N:Nat}(h:PmV S w p c L N)(a:Below w w b):PmStep S w b p c L N:=
 ⟨(h.below a).mono (λk d=>Ei d),Chg.of_below a⟩
theorem PmStep.more {S:Nat->Prop}{w b:World}{p c a:Nat}{L:List Int}{N:Nat}(h:PmStep S w b p c L N)(d:c<=a):PmStep S w b p a L N:=⟨h.pv.more d,h.chg⟩
def gD(L:List Int)(N:Nat)(x y:Int):Int:=if 0<=x/\x<L.length/\0<=y/\y<N then (if 0<=gL L x\/0<=aL L y then 1 else 0)else 2
def gZ(L:List Int)(N:Nat)(x y:Int):List Int:=if gD L N x y=0 then L.set x.toNat y else L
theorem Jr(L:List Int)(N:Nat)(x y:Int):(gZ L N x y).length=L.length:=by unfold gZ;split<;>simp
theorem Xs{L:List Int}{y:Int}(e:0<=y):0<=aL L y↔∃r,gL L r=y:=by
 rcases sE L y with ⟨i,b,a,d,f⟩ | ⟨b,a⟩
 ·exact⟨λ_=>⟨i,d⟩,λ_=>E⟩
 ·exact⟨λh=>E,λ⟨r,h⟩=>absurd h (a e r)⟩
theorem ab0{S:Nat->Prop}{w:World}{p c:Nat}{L:List Int}{N:Nat}(h:PmV S w p c L N)(k:c<=1000000)(l:L.length<=1000000)(m:N<=1000000)(x y:Int):Calls prog 50 #[.pointer p,x,y] w λe g=>e= .returned (gD L N x y:Int)/\PmStep S w g p (c+1) (gZ L N x y) N:=by
 by_cases a:0<=x/\x<L.length/\0<=y/\y<N
 ·obtain⟨i,rfl⟩:=aK0 a.1;obtain⟨j,rfl⟩:=aK0 a.2.2.1;by_cases d:0<=gL L i\/0<=aL L j
  ·have e:gD L N i j=1:=by unfold gD;rw[bd0 a,bd0 d]
   have b:gZ L N i j=L:=by unfold gZ;rw[e,bc9 E]
   rw[e,b];refine(aq8 h k i j E E (d.imp id (λh=>(Xs E).1 h))).mono ?_;rintro e g ⟨rfl,f⟩;exact⟨rfl,f.more E⟩
  ·have e:gD L N i j=0:=by unfold gD;rw[bd0 a,bc9 d]
   have b:gZ L N i j=L.set i (j:Int):=by unfold gZ;rw[e,bd0 rfl,aK5]
   rw[e,b];exact aE0 h k l m i j E E E (λr a=>d (Ej ((Xs E).2 ⟨r,a⟩)))
 ·have e:gD L N x y=2:=by unfold gD;rw[bc9 a]
  have b:gZ L N x y=L:=by unfold gZ;rw[e,bc9 E]
  rw[e,b];refine(aq9 h x y E).mono ?_;rintro e g ⟨rfl,f⟩;exact⟨rfl,(h.stay f).more E⟩
def okC(b:Bool):Int:=if b then 0 else 2
def jQ(L:List Int)(x:Int):Bool:=decide (0<=x)&&decide (x<=L.length)
def dZ(L:List Int)(x:Int):Bool:=decide (0<=x)&&decide (x<L.length)
def iX(N:Nat)(x:Int):Bool:=decide (0<=x)&&decide (x<=N)
def qC(N:Nat)(x:Int):Bool:=decide (0<=x)&&decide (x<N)
def qJ(L:List Int)(x:Int):List Int:=if jQ L x then cN L x.toNat (-1)else L
def kV(L:List Int)(x:Int):List Int:=if dZ L x then dY L x.toNat else L
def rE(L:List Int)(x y:Int):List Int:=if dZ L x&&dZ L y then mvL L x.toNat y.toNat else L
def qD(L:List Int)(N:Nat)(x:Int):List Int:=if iX N x then L.map (upP x)else L
def qE(N:Nat)(x:Int):Nat:=if iX N x then N+1 else N
def mF(L:List Int)(N:Nat)(x:Int):List Int:=if qC N x then L.map (oK x)else L
def mG(N:Nat)(x:Int):Nat:=if qC N x then N-1 else N
section
variable {S:Nat->Prop}{w:World}{p c:Nat}{L:List Int}{N:Nat}
theorem ar4(h:PmV S w p c L N)(d:c<=1000000)(b:L.length<=1000000)(x:Int):Calls prog 116 #[.pointer p,x] w λe a=>e= .returned (okC (jQ L x):Int)/\PmStep S w a p c (qJ L x) N:=by
 unfold qJ;cases hb:jQ L x with
 | true=>
  unfold jQ at hb;simp at hb;obtain⟨i,rfl⟩:=aK0 hb.1;rw[bd0 rfl,aK5];exact ar5 h d b i E
 | false=>
  unfold jQ at hb;simp at hb;rw[bc9 Es];refine(Uy h x E).mono ?_;rintro e a ⟨rfl,f⟩;exact⟨rfl,h.stay f⟩
theorem ab4(h:PmV S w p c L N)(d:c<=1000000)(b:L.length<=1000000)(x:Int):Calls prog 106 #[.pointer p,x] w λe a=>e= .returned (okC (dZ L x):Int)/\PmStep S w a p c (kV L x) N:=by
 unfold kV;cases hb:dZ L x with
 | true=>
  unfold dZ at hb;simp at hb;obtain⟨i,rfl⟩:=aK0 hb.1;rw[bd0 rfl,aK5];exact ab5 h d b i E
 | false=>
  unfold dZ at hb;simp at hb;rw[bc9 Es];refine(Px h x E).mono ?_;rintro e a ⟨rfl,f⟩;exact⟨rfl,h.stay f⟩
theorem ar1(h:PmV S w p c L N)(d:c<=1000000)(b:N<=1000000)(x:Int):Calls prog 117 #[.pointer p,x] w λe a=>e= .returned (okC (iX N x):Int)/\PmStep S w a p c (qD L N x) (qE N x):=by
 unfold qD qE;cases hb:iX N x with
 | true=>
  unfold iX at hb;simp at hb;obtain⟨i,rfl⟩:=aK0 hb.1;rw[bd0 rfl,bd0 rfl];exact ar2 h d b i E
 | false=>
  unfold iX at hb;simp at hb;rw[bc9 Es,bc9 Es];refine(Uv h x E).mono ?_;rintro e a ⟨rfl,f⟩;exact⟨rfl,h.stay f⟩
theorem ab2(h:PmV S w p c L N)(d:c<=1000000)(b:N<=1000000)(x:Int):Calls prog 107 #[.pointer p,x] w λe a=>e= .returned (okC (qC N x):Int)/\PmStep S w a p c (mF L N x) (mG N x):=by
 unfold mF mG;cases hb:qC N x with
 | true=>
  unfold qC at hb;simp at hb;obtain⟨i,rfl⟩:=aK0 hb.1;rw[bd0 rfl,bd0 rfl];exact ab3 h d b i E
 | false=>
  unfold qC at hb;simp at hb;rw[bc9 Es,bc9 Es];refine(Pt h x E).mono ?_;rintro e a ⟨rfl,f⟩;exact⟨rfl,h.stay f⟩
theorem Uz(h:PmV S w p c L N)(d:c<=1000000)(b:L.length<=1000000)(x y:Int):Calls prog 114 #[.pointer p,x,y] w λe a=>e= .returned (okC (dZ L x&&dZ L y):Int)/\PmStep S w a p c (rE L x y) N:=by
 unfold rE;cases hb:(dZ L x&&dZ L y)with
 | true=>
  unfold dZ at hb;simp at hb;obtain⟨i,rfl⟩:=aK0 hb.1.1;obtain⟨j,rfl⟩:=aK0 hb.2.1;rw[bd0 rfl,aK5,aK5];exact Va h d b i j E E
 | false=>
  unfold dZ at hb;simp at hb;rw[bc9 Es];refine(Lv h x y E).mono ?_;rintro e a ⟨rfl,f⟩;exact⟨rfl,h.stay f⟩
theorem pPos_v(h:PmV S w p c L N)(s:c<=1000000)(x:Int):Calls prog 129 #[.pointer p,x] w λe k=>e= .returned (gL L x:Int)/\PmStep S w k p c L N:=by
 obtain⟨q,r,t,u,m,l,a,g,i⟩:=h;have :=ar3 l a.ok a.so E x;rw[a.pos]at this;refine this.mono ?_;rintro e k ⟨rfl,f,d⟩;exact⟨rfl,PmStep.of f a g (λj o=>Ei (i j o)) (d.mono (λb n=>i b (Ej (Ej (Ej n)))))⟩
theorem pRow_v(h:PmV S w p c L N)(j:c<=1000000)(x:Int):Calls prog 120 #[.pointer p,x] w λe f=>e= .returned (aL L x:Int)/\Below w w f:=by
 obtain⟨q,g,k,l,m,b,a,d,i⟩:=h;have :=ar6 b a.ok E x;rwa[a.rowv]at this
end
def mP(x best y:Int):Int:=if x<=y/\(best<0\/y<best)then y else best
def gJ(x:Int)(l:List (Int×Int)):Int:=l.foldl (λb y=>mP x b y.2) (-1)
theorem Um(x:Int)(l:List (Int×Int))(y:Int×Int):gJ x (l++[y])=mP x (gJ x l) y.2:=by unfold gJ;rw[List.foldl_append];rfl
theorem At{w:World}{B g n a:Nat}{l:List (Int×Int)}(h:w.ownsRow B 134 2 (.slice g n a) n (bJ l))(o:l.length=n){i:Nat}(m:i<n):w.cell? (g,i*2)=some (.int .i64 (aC l i))/\w.cell? (g,i*2+1)=some (.int .i64 (aJ l i))/\g<w:=by
 subst o;have k:TabIs w g a l:=⟨h.1,by
  rcases h.2 with d | ⟨f,c,e,b,d,j⟩
  ·exact Ei d
  ·exact Ej ⟨f,c,e,b,aY1 _,j⟩⟩
 obtain⟨b,d,_⟩:=k.cells m;exact⟨b,d,ba8 w _ b⟩
theorem aE2{S:Nat->Prop}{w:World}{p c:Nat}{L:List Int}{N:Nat}(h:PmV S w p c L N)(hc:c<=1000000)(hL:L.length<=1000000)(x:Int):Calls prog 119 #[.pointer p,x] w λe w'=>e= .returned (gJ x (prL 0 L):Int)/\Below w w w':=by
 have q:=ab1 h hc;have r:∀(l:List Int) (i:Nat),(prL i l).length<=l.length:=by
  intro l;induction l with
  | nil=>intro i;exact aV3 _
  | cons y l ih=>intro i;unfold prL;split<;>simp<;>have :=ih (i+1)<;>omega
 have r:=r L 0;generalize prL 0 L=l at *;have F:=θ q;clear q h;go_in;go_wp2_with fail;refine F.o.mono ?_;rintro e J B;obtain⟨a,cc,rfl,s,z⟩:=B;have Q:=z.size;have G:=θ s;have O:=θ z;clear s z;go_wp2;go_loopw [5,11] (λb v wr=>∃i:Nat,i<=l.length/\v= .int .i64 i/\b= .int .i64 (gJ x (l.take i))/\Below J J wr) (λ_ v _=>l.length-(intOf v).toNat);exact⟨0,aY1 _,rfl,rfl,aJ6 _ _⟩;case round=>
  obtain⟨i,hi,rfl,rfl,D⟩:=hrel;have M:=D.size;by_cases A:i<l.length
  ·obtain⟨g,m,rfl,P,k⟩:∃g m,a=some ⟨g,0,none⟩/\m=m/\∀j,j<l.length->J.cell? (g,j*2)=some (.int .i64 (aC l j))/\J.cell? (g,j*2+1)=some (.int .i64 (aJ l j))/\g<J.heap.size:=by
    obtain⟨_,hz,_,_⟩:True/\True/\True/\True:=⟨trivial,trivial,trivial,trivial⟩;have R:=G.o;rcases R.2 with ⟨_,h0⟩ | ⟨g,m,V,hv,_⟩
    ·omega
    ·injection hv with Z _ _
     subst Z;exact⟨g,m,rfl,rfl,λj hj=>At R rfl hj⟩
   obtain⟨T,U,H⟩:=k i A;have a0:=(D.cell (p:=(g,i*2)) H).trans T;have a1:=(D.cell (p:=(g,i*2+1)) H).trans U;have I:gJ x (l.take (i+1))=mP x (gJ x (l.take i)) (aJ l i):=by
    rw[aT5,aO0 A];show gJ x (l.take i++[l[i]])=_;rw[Um];simp[aJ,A]
   have d:=θ I;have K:=θ D;clear k T U P I D;generalize gJ x (l.take i)=best at *;generalize aC l i=r0 at *;generalize aJ l i=y at *;unfold mP at d;by_cases n:x<=y
   ·have W:decide (x<=y)=true:=bc2 n;by_cases u:best<0
    ·have X:decide (best<0)=true:=bc2 u;have f:=d.o;rw[bd0 ⟨n,Ei u⟩]at f;have t:=θ f;clear n u f d;go_wp2;go_roundw;exact⟨i+1,E,by go_num,by rw[t.o],K.o.alloc M _⟩;simp[intOf];omega
    ·have X:decide (best<0)=false:=bc0 u;by_cases C:y<best
     ·have Y:decide (y<best)=true:=bc2 C;have f:=d.o;rw[bd0 ⟨n,Ej C⟩]at f;have t:=θ f;clear n u C f d;go_wp2;go_roundw;exact⟨i+1,E,by go_num,by rw[t.o],K.o.alloc M _⟩;simp[intOf];omega
     ·have Y:decide (y<best)=false:=bc0 C;have f:=d.o;rw[bc9 (λh=>h.2.elim u C)]at f;have t:=θ f;clear n u C f d;go_wp2;go_roundw;exact⟨i+1,E,by go_num,by rw[t.o],K.o.alloc M _⟩;simp[intOf];omega
   ·have W:decide (x<=y)=false:=bc0 n;have f:=d.o;rw[bc9 (λh=>n h.1)]at f;have t:=θ f;clear n f d;go_wp2;go_roundw;exact⟨i+1,E,by go_num,by rw[t.o],K.o.alloc M _⟩;simp[intOf];omega
  ·obtain rfl:i=l.length:=E;rw[aT8];go_wp2;go_ret;exact⟨rfl,O.o.trans (D.mono Q)⟩
def eJ(N:Nat):List Int->List (Int×Int)->Option (List Int)
 | L,[]=>some L
 | L,x::l=>if gD L N x.1 x.2=0 then eJ N (gZ L N x.1 x.2) l else none
theorem mO(N:Nat)(L:List Int)(y:Int×Int)(l:List (Int×Int)):eJ N L (y::l)=if gD L N y.1 y.2=0 then eJ N (gZ L N y.1 y.2) l else none:=rfl
theorem zC(N:Nat):∀(L:List Int) (l:List (Int×Int)) (x:Int×Int),eJ N L (l++[x])=(eJ N L l).bind λa=>if gD a N x.1 x.2=0 then some (gZ a N x.1 x.2)else none
 | L,[],x=>by show (if _ then _ else _)=_;rfl
 | L,y::l,x=>by
  rw[aL4,mO,mO];split
  ·exact zC N _ l x
  ·rfl
theorem Br(N:Nat):∀(L:List Int) (l:List (Int×Int)) (a:List Int),eJ N L l=some a->a.length=L.length
 | L,[],a,h=>by injection h with h;rw[h]
 | L,y::l,a,h=>by
  unfold eJ at h;split at h
  ·rw[Br N _ l a h,Jr]
  ·cases h
theorem Pa{N:Nat}{L e:List Int}{l:List (Int×Int)}(h:eJ N L l=some e)(k:Nat):∃c,eJ N L (l.take k)=some c:=by
 have d:∀(a b:List (Int×Int)) (L:List Int),eJ N L (a++b)=(eJ N L a).bind λL=>eJ N L b:=by
  intro a;induction a with
  | nil=>intro b L;rfl
  | cons y a f=>intro b L;rw[aL4,mO,mO];split<;>first | exact f _ _ | rfl
 have :=d (l.take k) (l.drop k) L;rw[aT6,h]at this;cases hh:eJ N L (l.take k)with
 | none=>rw[hh]at this;cases this
 | some c=>exact⟨c,rfl⟩
def lV(w:World)(n:Nat)(l:List (Int×Int))(e:Ending)(w':World):Prop:=match eJ n (List.replicate n (-1)) l with
 | some L=>∃p,e= .returned (.tuple #[.pointer (some ⟨p,0,none⟩), .int .i64 0])/\PmV (λk=>w<=k) w' p l.length L n/\Below w w w'
 | none=>e= .returned (.tuple #[.pointer none, .int .i64 1])/\Below w w w'
theorem Ks(n:Nat)(r:Int):gL (List.replicate n (-1)) r= -1:=by
 unfold gL;split
 ·by_cases h:r.toNat<n
  ·simp[h]
  ·rw[aO1 (by simp;omega)];rfl
 ·rfl
theorem aF0(n:Nat):PVw ⟨Ar.new 268435456,[],[],n,n⟩ (List.replicate n (-1)) n:=by
 refine⟨⟨⟨rfl,aS3,λk=>by simp[Ar.new],rfl⟩,Es,rfl,λr p=>?_,λr=>?_,λr s h=>?_⟩,List.Pairwise.nil⟩
 ·rw[Ks];constructor
  ·rintro⟨k,a,_⟩;simp at a
  ·rintro⟨b,c⟩;omega
 ·rw[Ks];omega
 ·rw[Ks]at h;omega
theorem pNew_v(w:World)(n:Nat)(hn:n<=1000)(l:List (Int×Int))(a:Option Addr)(c:Nat)(hr:ReadsV w a (bJ l))(hl:l.length<=1000):Calls prog 48 #[n, .slice a l.length c] w (lV w n l):=by
 have d1:decide ((n:Int)<0)=false:=Es;have d2:decide ((2147483648:Int)<(n:Int))=false:=by simp;omega
 have H:Hid (Calls prog 90 #[(268435456:Int)] w λe U=>e= .returned (.pointer w)/\IsArena U w (λk=>k=w.heap.size) (Ar.new 268435456)/\Chg (λ_=>False) w U):=tF 268435456 w E;have HR:=θ hr;have X:Hid (∀i,i<l.length->∃b q,a=some ⟨b,q,none⟩/\b<w.heap.size/\w.cell? (b,q+i*2)=some (.int .i64 (aC l i))/\w.cell? (b,q+i*2+1)=some (.int .i64 (aJ l i))):=by
  intro i hi;obtain⟨b,q,ha,r,hc⟩:=hr.some (by rw[tJ];omega);obtain⟨e1,e2⟩:=lH l i hi;exact⟨b,q,ha,r,hc _ _ e1,by rw[aU3];exact hc _ _ e2⟩
 clear hr;go_in;go_wp2_with fail;refine H.o.mono ?_;rintro e A ⟨rfl,hA,I⟩;have S:=θ hA;have W:=θ I;clear hA I;go_wp2_with fail;have I:=W.o.alloc (.cells #[.pointer w, .slice none 0 0, .slice none 0 0,(n:Int),(n:Int)] 145);have N:=S.o.lt _ S.o.self;have hP:PmIn (A.alloc (.cells #[.pointer w, .slice none 0 0, .slice none 0 0,(n:Int),(n:Int)] 145)) A w.heap.size (λk=>k=w.heap.size) (.slice none 0 0) (.slice none 0 0) ⟨Ar.new 268435456,[],[],n,n⟩:=
  ⟨bc6 A _,S.o.chg (S':=λ_=>False) (Chg.refl.alloc _) (λ_ _ h=>h),bb2 _ _ _ _,bb2 _ _ _ _,λe=>E,λg hg=>by simp[Value.ownBlock]at hg,λg hg=>by simp[Value.ownBlock]at hg⟩
 have O:=W.o.size;have hV:PmV (λk=>w<=k) (A.alloc (.cells #[.pointer w, .slice none 0 0, .slice none 0 0,(n:Int),(n:Int)] 145)) A 0 (List.replicate n (-1)) n:=
  ⟨_,_,_,_,_,hP,aF0 n,aV3 _,λk B=>by
   rcases B with rfl | B | B | B
   ·exact O
   ·have :k=w.heap.size:=B;omega
   ·simp[Value.ownBlock]at B
   ·simp[Value.ownBlock]at B⟩
 have hB:Below w w (A.alloc (.cells #[.pointer w, .slice none 0 0, .slice none 0 0,(n:Int),(n:Int)] 145)):=I.below (λb r=>r.elim) (aV3 _);generalize A.alloc (.cells #[.pointer w, .slice none 0 0, .slice none 0 0,(n:Int),(n:Int)] 145)=w2 at *;have HV:=θ hV;have HB:=θ hB;obtain⟨p,hp⟩:=Ey A.heap.size;rw[hp]at HV⊢;clear hP hV hB I hp O N S W;go_loopw [22] (λv wr=>∃(i:Nat) (L:List Int),i<=l.length/\v= .int .i64 i/\eJ n (List.replicate n (-1)) (l.take i)=some L/\PmV (λk=>w<=k) wr p i L n/\Below w w wr) (λv _=>l.length-(intOf v).toNat);exact⟨0,_,aY1 _,rfl,rfl,HV.o,HB.o⟩;case round=>
  obtain⟨i,L,hi,rfl,d,T,r⟩:=hrel;have hs:=r.size;have a1:=Br _ _ _ _ d;rw[aP9]at a1;by_cases C:i<l.length
  ·obtain⟨b,q,rfl,M,q1,q2⟩:=X.o i C;have a2:=(r.cell (p:=(b,q+i*2)) M).trans q1;have a3:=(r.cell (p:=(b,q+i*2+1)) M).trans q2;have P:l.take (i+1)=l.take i++[(aC l i,aJ l i)]:=by
    rw[aT5,aO0 C];show _++[l[i]]=_;congr 1;simp[aC,aJ,C]
   have m:=zC n (List.replicate n (-1)) (l.take i) (aC l i,aJ l i);rw[<-P,d]at m;have y:Calls prog 50 #[.pointer p, .int .i64 (aC l i), .int .i64 (aJ l i)] (wr.alloc (.cells #[.int .i64 (aC l i), .int .i64 (aJ l i)] 134)) λe U=>e= .returned (gD L n (aC l i) (aJ l i):Int)/\PmStep (λk=>w<=k) (wr.alloc (.cells #[.int .i64 (aC l i), .int .i64 (aJ l i)] 134)) U p (i+1) (gZ L n (aC l i) (aJ l i)) n:=
    ab0 (T.below (aB wr _)) E E E _ _
   have t:∀(h:¬gD L n (aC l i) (aJ l i)=0),eJ n (List.replicate n (-1)) l=none:=λh=>by
    cases hx:eJ n (List.replicate n (-1)) l with
    | none=>rfl
    | some L'=>
     obtain⟨Z,h2⟩:=Pa hx (i+1);rw[h2]at m;show _=_;have :(some Z:Option (List Int))=if gD L n (aC l i) (aJ l i)=0 then some (gZ L n (aC l i) (aJ l i))else none:=m
     rw[bc9 h]at this;cases this
   have u:Hid (eJ n (List.replicate n (-1)) (l.take (i+1))=if gD L n (aC l i) (aJ l i)=0 then some (gZ L n (aC l i) (aJ l i))else none):=m;have x:=θ y;have f:=θ t;have V:=θ r;clear P m y d T q1 q2 t r;generalize aC l i=r0 at *;generalize aJ l i=p0 at *;obtain⟨j,s⟩:=Ey (gD L n r0 p0);rw[s]at u x f;clear s;go_wp2_with fail;refine x.o.mono ?_;rintro e w4 ⟨rfl,Q⟩;obtain⟨R,J⟩:=Q.own (by simp;omega);have K:Below w w w4:=(V.o.alloc hs _).trans J;have Y:=θ R;have F:=θ K;clear Q R J K;by_cases z:j=0
   ·have D:=u.o;rw[bd0 z]at D;have G:=θ D;have dz:(j != 0)=false:=by simp[z]
    have a0:(j==0)=true:=by simp[z]
    clear D z u f;go_wp2;go_roundw;exact⟨i+1,_,E,by go_num,G.o,Y.o,F.o⟩;simp[intOf];omega
   ·have D:=f.o z;have G:Hid (lV w n l (.returned (.tuple #[.pointer none, .int .i64 1])) w4):=by
     show lV _ _ _ _ _;unfold lV;rw[D];exact⟨rfl,F.o⟩
    have dz:(j != 0)=true:=by simp[z]
    have a0:(j==0)=false:=by simp[z]
    clear D z u f;go_wp2;go_ret2;exact G.o
  ·obtain rfl:i=l.length:=E;rw[aT8]at d;have G:Hid (lV w n l (.returned (.tuple #[.pointer p, .int .i64 0])) wr):=by
    show lV _ _ _ _ _;unfold lV;rw[d];exact⟨p,rfl,T,r⟩
   clear d T r;go_wp2;go_ret2;exact G.o
def PmO(B:Nat)(w:World)(p c:Nat)(L:List Int)(N:Nat):Prop:=PmV (λk=>B<=k) w p c L N/\c<=1000000/\L.length<=1000000/\N<=1000000/\B<=w
section
variable {B:Nat}{w w':World}{p c:Nat}{L:List Int}{N:Nat}
theorem Qf(L:List Int)(x:Int):(kV L x).length<=L.length:=by
 unfold kV;split
 ·rename_i h;unfold dZ at h;simp at h;rw[kD E];omega
 ·exact aV3 _
theorem aa1(L:List Int)(x y:Int):(rE L x y).length=L.length:=by
 unfold rE;split
 ·rename_i h;unfold dZ at h;simp at h;rw[Sk E E]
 ·rfl
theorem new_o{w:World}(n:Nat){N:Int}(d:N=n)(f:n<=1000):Calls prog 48 #[N, .slice none 0 0] w λe w'=>∃p,e= .returned (.tuple #[.pointer (some ⟨p,0,none⟩), .int .i64 0])/\PmO w w' p 0 (List.replicate n (-1)) n/\Below w w w':=by
 subst d;refine(pNew_v w n f [] none 0 ReadsV.nil Es).mono ?_;intro e w' h;obtain⟨p,rfl,b,a⟩:=h;exact⟨p,rfl,⟨b,Es,by simp;omega,E,a.size⟩,a⟩
end
def RdP(w:World)(a:Option Addr)(l:List (Int×Int)):Prop:=∀i,i<l.length->∃b off,a=some ⟨b,off,none⟩/\b<w.heap.size/\∀j,j<l.length->w.cell? (b,off+j*2)=some (.int .i64 (aC l j))/\w.cell? (b,off+j*2+1)=some (.int .i64 (aJ l j))
theorem RdP.below {w w':World}{a:Option Addr}{l:List (Int×Int)}(h:RdP w a l)(e:Below w w w'):RdP w' a l:=by
 intro i k;obtain⟨b,c,rfl,d,f⟩:=h i k;exact⟨b,c,rfl,by have :=e.size;omega,λj g=>⟨(e.cell (p:=(b,c+j*2)) d).trans (f j g).1,(e.cell (p:=(b,c+j*2+1)) d).trans (f j g).2⟩⟩
theorem aF3{w:World}{B n b:Nat}{a:Option Addr}{l:List (Int×Int)}(h:w.ownsRow B 134 2 (.slice a n b) n (bJ l))(d:l.length=n):RdP w a l:=by
 intro i q;rcases h.2 with ⟨_,p⟩ | ⟨g,c,e,o,_⟩
 ·omega
 ·injection o with f _ _
  subst f;refine⟨g,0,rfl,(At h d (i:=i) E).2.2,λj r=>?_⟩;obtain⟨k,m,_⟩:=At h d (i:=j) E;rw[aY0];exact⟨k,m⟩
theorem PmV.lts {S:Nat->Prop}{w:World}{p c:Nat}{L:List Int}{N:Nat}(h:PmV S w p c L N):PmV (λk=>S k/\k<w) w p c L N:=by
 obtain⟨q,d,i,j,m,a,e,f,g⟩:=h;exact⟨q,d,i,j,m,a,e,f,λk b=>⟨g k b,a.lt k b⟩⟩
def exS(B:Nat)(X:Nat->Prop)(k:Nat):Prop:=B<=k/\¬X k
structure PmE (B:Nat) (X:Nat->Prop) (w:World) (p c:Nat) (L:List Int) (N:Nat):Prop where
 pv:PmV (exS B X) w p c L N
 c6:c<=1000000
 l6:L.length<=1000000
 n6:N<=1000000
 le:B<=w
 x:∀k,X k->k<w.heap.size
section
variable {B:Nat}{X:Nat->Prop}{w w':World}{p c:Nat}{L:List Int}{N:Nat}
theorem PmE.below (h:PmE B X w p c L N)(a:Below w w w'):PmE B X w' p c L N:=⟨h.pv.below a,h.c6,h.l6,h.n6,aV4 h.le a.size,λk b=>aV7 (h.x k b) a.size⟩
theorem PmE.chg {S:Nat->Prop}(h:PmE B X w p c L N)(b:Chg S w w')(d:∀k,exS B X k->k<w.heap.size->¬S k):PmE B X w' p c L N:=
 ⟨((h.pv.lts).chg b (λk a=>d k a.1 a.2)).mono (λk a=>a.1),h.c6,h.l6,h.n6,aV4 h.le b.size,λk a=>aV7 (h.x k a) b.size⟩
theorem PmE.of {f:Nat}{d:List Int}{e:Nat}(h:PmE B X w p c L N)(b:PmStep (exS B X) w w' p f d e)(j:f<=1000000)(g:d.length<=1000000)(i:e<=1000000):PmE B X w' p f d e/\Chg (exS B X) w w':=
 ⟨⟨b.pv.mono (λk a=>a.elim id (λa=>⟨by have :=h.le;omega,λl=>by have :=h.x k l;omega⟩)),j,g,i,aV4 h.le b.chg.size,λk a=>aV7 (h.x k a) b.chg.size⟩,b.chg⟩
theorem add_e(h:PmE B X w p c L N)(i:c<1000000){x y a:Int}{b:List Int}(f:gD L N x y=a)(d:gZ L N x y=b):Calls prog 50 #[.pointer p,x,y] w λe w'=>e= .returned a/\PmE B X w' p (c+1) b N/\Chg (exS B X) w w':=by
 subst f;subst d;refine(ab0 h.pv h.c6 h.l6 h.n6 x y).mono ?_;rintro e w' ⟨rfl,g⟩;exact⟨rfl,h.of g E (by rw[Jr];exact h.l6) h.n6⟩
theorem pos_e(h:PmE B X w p c L N){x a:Int}(b:gL L x=a):Calls prog 129 #[.pointer p,x] w λe w'=>e= .returned a/\PmE B X w' p c L N/\Chg (exS B X) w w':=by
 subst b;refine(pPos_v h.pv h.c6 x).mono ?_;rintro e w' ⟨rfl,d⟩;exact⟨rfl,h.of d h.c6 h.l6 h.n6⟩
theorem row_e(h:PmE B X w p c L N){x a:Int}(d:aL L x=a):Calls prog 120 #[.pointer p,x] w λe w'=>e= .returned a/\PmE B X w' p c L N/\Chg (exS B X) w w':=by
 subst d;refine(pRow_v h.pv h.c6 x).mono ?_;rintro e w' ⟨rfl,b⟩;exact⟨rfl,h.below b,Chg.of_below b⟩
theorem next_e(h:PmE B X w p c L N){x a:Int}(d:gJ x (prL 0 L)=a):Calls prog 119 #[.pointer p,x] w λe w'=>e= .returned a/\PmE B X w' p c L N/\Chg (exS B X) w w':=by
 subst d;refine(aE2 h.pv h.c6 h.l6 x).mono ?_;rintro e w' ⟨rfl,b⟩;exact⟨rfl,h.below b,Chg.of_below b⟩
theorem aF6(h:PmE B X w p c L N){x a:Int}{b:List Int}(g:okC (jQ L x)=a)(f:qJ L x=b)(d:b.length<=1000000):Calls prog 116 #[.pointer p,x] w λe w'=>e= .returned a/\PmE B X w' p c b N/\Chg (exS B X) w w':=by
 subst g;subst f;refine(ar4 h.pv h.c6 h.l6 x).mono ?_;rintro e w' ⟨rfl,i⟩;exact⟨rfl,h.of i h.c6 d h.n6⟩
theorem as8(h:PmE B X w p c L N){x a:Int}{b:List Int}(f:okC (dZ L x)=a)(d:kV L x=b):Calls prog 106 #[.pointer p,x] w λe w'=>e= .returned a/\PmE B X w' p c b N/\Chg (exS B X) w w':=by
 subst f;subst d;refine(ab4 h.pv h.c6 h.l6 x).mono ?_;rintro e w' ⟨rfl,g⟩;exact⟨rfl,h.of g h.c6 (aV4 (Qf L x) h.l6) h.n6⟩
theorem ad3(h:PmE B X w p c L N){x y a:Int}{b:List Int}(f:okC (dZ L x&&dZ L y)=a)(d:rE L x y=b):Calls prog 114 #[.pointer p,x,y] w λe w'=>e= .returned a/\PmE B X w' p c b N/\Chg (exS B X) w w':=by
 subst f;subst d;refine(Uz h.pv h.c6 h.l6 x y).mono ?_;rintro e w' ⟨rfl,g⟩;exact⟨rfl,h.of g h.c6 (by rw[aa1];exact h.l6) h.n6⟩
theorem aE7(h:PmE B X w p c L N){x a:Int}{d:List Int}{b:Nat}(j:okC (iX N x)=a)(g:qD L N x=d)(i:qE N x=b)(f:b<=1000000):Calls prog 117 #[.pointer p,x] w λe w'=>e= .returned a/\PmE B X w' p c d b/\Chg (exS B X) w w':=by
 subst j;subst g;subst i;refine(ar1 h.pv h.c6 h.n6 x).mono ?_;rintro e w' ⟨rfl,k⟩;exact⟨rfl,h.of k h.c6 (by unfold qD;split<;>(try rw[aP7])<;>exact h.l6) f⟩
theorem ar9(h:PmE B X w p c L N){x a:Int}{b:List Int}{d:Nat}(i:okC (qC N x)=a)(f:mF L N x=b)(g:mG N x=d):Calls prog 107 #[.pointer p,x] w λe w'=>e= .returned a/\PmE B X w' p c b d/\Chg (exS B X) w w':=by
 subst i;subst f;subst g;refine(ab2 h.pv h.c6 h.n6 x).mono ?_;rintro e w' ⟨rfl,j⟩;exact⟨rfl,h.of j h.c6 (by unfold mF;split<;>(try rw[aP7])<;>exact h.l6) (by have :=h.n6;unfold mG;split<;>omega)⟩
theorem all_e(h:PmE B X w p c L N){l:List (Int×Int)}(a:prL 0 L=l):Calls prog 140 #[.pointer p] w (lB w w l):=by
 subst a;exact ab1 h.pv h.c6
end
section
variable {B:Nat}{X:Nat->Prop}{w w':World}{p:Nat}{L:List Nat}{T:Tl}
theorem aH0{L:List Nat}(h:Syms L){k s:Nat}(b:s<257):Syms (inL L k s):=λx a=>by
 rcases aR1.1 ((fW L k s).mem_iff.1 a)with rfl | a
 ·exact b
 ·exact h x a
theorem ax9{L:List Nat}(h:Syms L){k:Nat}:Syms (bj0 L k):=λx a=>h x ((fJ L k).subset a)
theorem wkGetQ(h:WkT B X w p L T)(f:L.length<=1000000){k s:Nat}(g:L[k]? =some s):∃pw,w.cell? p=some (.pointer (some ⟨pw,0,none⟩))/\Calls prog 102 #[.pointer pw,k] w λe w'=>e= .returned (.tuple #[s, .int .i64 0])/\WkT B X w' p L T/\Chg (exT B X) w w':=by
 obtain⟨pw,pt,a⟩:=h;refine⟨pw,a.cells.1,(wpGet a f g).mono ?_⟩;rintro e w' ⟨rfl,d,b⟩;exact⟨rfl,⟨pw,pt,d⟩,b⟩
theorem wkPut(h:WkT B X w p L T)(u:L.length<=1000000){k s:Nat}(r:k<=L.length)(i:s<257):Calls prog 113 #[.pointer p,k,s] w λe w'=>e= .returned (.tuple #[])/\WkT B X w' p (inL L k s) T/\Chg (exT B X) w w':=by
 obtain⟨pw,pt,a⟩:=h;obtain⟨t,q⟩:=a.cells;have n:=θ (Oz a.v a.sy E k s r i);have b:=θ a;clear a q;go_in;go_wp2_with fail;refine n.o.mono ?_;rintro e w' ⟨rfl,j,g⟩;obtain⟨d,f⟩:=b.o.step j (aH0 b.o.sy i) g;have l:=θ d;have m:=θ f;clear d f j g;go_wp2;go_end0;exact⟨rfl,⟨pw,pt,l.o⟩,m.o⟩
theorem wkCut(h:WkT B X w p L T)(t:L.length<=1000000){k s:Nat}(i:L[k]? =some s):Calls prog 104 #[.pointer p,k] w λe w'=>e= .returned s/\WkT B X w' p (bj0 L k) T/\Chg (exT B X) w w':=by
 obtain⟨pw,pt,a⟩:=h;obtain⟨r,q⟩:=a.cells;have n:=θ (az2 a.v a.sy E k s i);have b:=θ a;clear a q i;go_in;go_wp2_with fail;refine n.o.mono ?_;rintro e w' ⟨rfl,j,g⟩;obtain⟨d,f⟩:=b.o.step j (ax9 b.o.sy) g;have l:=θ d;have m:=θ f;clear d f j g;go_wp2;go_ret;exact⟨rfl,⟨pw,pt,l.o⟩,m.o⟩
theorem ay8(h:WkT B X w p L T)(v:L.length<=1000000){k s:Nat}(i:k<L.length)(x:s<257):Calls prog 103 #[.pointer p,k,s] w λe w'=>e= .returned (.tuple #[])/\WkT B X w' p (L.set k s) T/\Chg (exT B X) w w':=by
 have u:=cA i;have n:=θ (wkCut h v (aO0 i));have e:inL (bj0 L k) k s=L.set k s:=rZ L i s;have q:=θ e;clear h e;go_in;go_wp2_with fail;refine n.o.mono ?_;rintro e y ⟨rfl,j,a⟩;have r:=θ (wkPut (k:=k) (s:=s) j E E x);have f:=θ a;clear j a;go_wp2_with fail;refine r.o.mono ?_;rintro e z ⟨rfl,l,d⟩;have m:=θ l;have g:=θ (f.o.trans d (λb t=>Ei t));clear l d;go_wp2;go_end0;exact⟨rfl,by rw[<-q.o];exact m.o,g.o⟩
theorem aI3(h:WkT B X w p L T){s:Nat}{n:Int}(x:s<257)(i: -T.N s<=n)(j:n<=2147483648-T.all):Calls prog 105 #[.pointer p,s,n] w λe w'=>e= .returned (.tuple #[])/\WkT B X w' p L (T.add s n)/\Chg (exT B X) w w':=by
 obtain⟨pw,pt,d⟩:=h;obtain⟨r,u⟩:=d.cells;have q:=θ (yA d.t (s:=(s:Int)) (n:=n) E E i j);have a:=θ d;clear d r i j;go_in;go_wp2_with fail;refine q.o.mono ?_;rintro e w' ⟨rfl,g,b⟩;rw[aK5]at g;have l:Hid (WkP B X w' p pw pt L (T.add s n)):=θ ⟨b.heap a.o.hd (λe=>a.o.ne e),a.o.v.chg b (λk f _ e=>f.2 (Ej (Ej e))),g,a.o.ep,a.o.et,a.o.ne,a.o.sy⟩;have m:Hid (Chg (exT B X) w w'):=θ (b.mono (λk f=>by subst f;exact a.o.et));clear g b;go_wp2;go_end0;exact⟨rfl,⟨pw,pt,l.o⟩,m.o⟩
end
structure LvP (B:Nat) (X Y Z:Nat->Prop) (w:World) (p pk pp:Nat) (rate mv:Int) (L:List Nat) (T:Tl) (c:Nat) (PL:List Int) (N:Nat):Prop where
 hd:w.heap[p]? =some (.cells #[.pointer pk, .pointer pp,rate,mv] 94 (0,0))
 k:WkT B Y w pk L T
 q:PmE B Z w pp c PL N
 ep:exT B X p
 yp:Y p
 zp:Z p
 x:∀j,X j->Y j/\Z j
 cov:∀j,B<=j->j<w.heap.size->Y j\/Z j
def LvE(B:Nat)(X:Nat->Prop)(w:World)(p pk pp:Nat)(rate mv:Int)(L:List Nat)(T:Tl)(c:Nat)(PL:List Int)(N:Nat):Prop:=∃Y Z,LvP B X Y Z w p pk pp rate mv L T c PL N
section
variable {B:Nat}{X Y Z:Nat->Prop}{w w':World}{p pk pp:Nat}{rate mv:Int}{L L':List Nat}{T T':Tl}{c c':Nat}{PL PL':List Int}{N N':Nat}
theorem LvP.lt (h:LvP B X Y Z w p pk pp rate mv L T c PL N):p<w:=(aJ2.1 h.hd).1
theorem LvP.le (h:LvP B X Y Z w p pk pp rate mv L T c PL N):B<=w:=h.k.le
theorem LvP.cells (h:LvP B X Y Z w p pk pp rate mv L T c PL N):w.cell? p=some (.pointer pk)/\w.cell? (p,1)=some (.pointer pp)/\w.cell? (p,2)=rate/\w.cell? (p,3)=mv/\w.frozen? (p,3)=false:=
 ⟨bb8 w p 0 _ _ _ h.hd,bb8 w p 1 _ _ _ h.hd,bb8 w p 2 _ _ _ h.hd,bb8 w p 3 _ _ _ h.hd,bc4 w p 3 _ _ h.hd⟩
theorem LvP.stepK (h:LvP B X Y Z w p pk pp rate mv L T c PL N)(l:WkT B Y w' pk L' T')(b:Chg (exT B Y) w w'):LvE B X w' p pk pp rate mv L' T' c PL N/\Chg (exT B X) w w':=by
 have n:=b.size;have d:=h.q.chg b (λj a f i=>(h.cov j a.1 f).elim i.2 a.2);refine⟨⟨Y,λj=>Z j\/(w<=j/\j<w'),b.heap h.hd (λe=>e.2 h.yp),l,⟨(((h.q.pv.lts).chg b (λj a i=>(h.cov j a.1.1 a.2).elim i.2 a.1.2))).mono (λj g=>⟨g.1.1,λe=>e.elim g.1.2 (λe=>E)⟩),d.c6,d.l6,d.n6,d.le,λj e=>e.elim (λe=>by have :=h.q.x j e;omega) (λe=>e.2)⟩,h.ep,h.yp,Ei h.zp,λj e=>⟨(h.x j e).1,Ei (h.x j e).2⟩,λj a f=>?_⟩,b.mono (λj e=>⟨e.1,λm=>e.2 (h.x j m).1⟩)⟩;by_cases k:j<w
 ·exact(h.cov j a k).imp id Ei
 ·exact Ej (Ej ⟨E,f⟩)
theorem LvP.stepQ (h:LvP B X Y Z w p pk pp rate mv L T c PL N)(l:PmE B Z w' pp c' PL' N')(b:Chg (exS B Z) w w'):LvE B X w' p pk pp rate mv L T c' PL' N'/\Chg (exT B X) w w':=by
 have n:=b.size;have i:=h.k.aside b (λj a d g=>(h.cov j a.1 d).elim a.2 g.2);refine⟨⟨_,Z,b.heap h.hd (λe=>e.2 h.zp),i,l,h.ep,Ei h.yp,h.zp,λj e=>⟨Ei (h.x j e).1,(h.x j e).2⟩,λj a d=>?_⟩,b.mono (λj e=>⟨e.1,λm=>e.2 (h.x j m).2⟩)⟩;by_cases f:j<w
 ·exact(h.cov j a f).imp Ei id
 ·exact Ei (Ej ⟨E,d⟩)
theorem LvP.setM (h:LvP B X Y Z w p pk pp rate mv L T c PL N)(v:Int):LvP B X Y Z (w.setCell (p,3) v) p pk pp rate v L T c PL N/\Chg (exT B X) w (w.setCell (p,3) v):=by
 have b:Chg (λj=>j=p) w (w.setCell (p,3) v):=(Chg.refl (S:=λj=>j=p) (w:=w)).setCell (p,3) (Ei rfl) _;have f:(w.setCell (p,3) v).heap.size=w.heap.size:=by simp[World.setCell]
 refine⟨⟨bD h.hd 3 _,(h.k.aside b (λj a _ e=>a.2 (by rw[e];exact h.yp))).mono (λj e=>Ei e),h.q.chg b (λj a _ e=>a.2 (by rw[e];exact h.zp)),h.ep,h.yp,h.zp,h.x,λj a d=>h.cov j a E⟩,b.mono (λj e=>by rw[e];exact h.ep)⟩
theorem LvP.below (h:LvP B X Y Z w p pk pp rate mv L T c PL N)(a:Below w w w'):LvE B X w' p pk pp rate mv L T c PL N:=
 (h.stepK (h.k.below a) (Chg.of_below a)).1
theorem LvE.below (h:LvE B X w p pk pp rate mv L T c PL N)(a:Below w w w'):LvE B X w' p pk pp rate mv L T c PL N:=by
 obtain⟨Y,Z,h⟩:=h;exact h.below a
theorem LvE.le (h:LvE B X w p pk pp rate mv L T c PL N):B<=w:=by obtain⟨Y,Z,h⟩:=h;exact h.le
theorem LvE.lt (h:LvE B X w p pk pp rate mv L T c PL N):p<w:=by obtain⟨Y,Z,h⟩:=h;exact h.lt
theorem LvE.xlt (h:LvE B X w p pk pp rate mv L T c PL N){j:Nat}(a:X j):j<w:=by obtain⟨Y,Z,h⟩:=h;exact h.k.xlt (h.x j a).1
theorem LvE.aside {S:Nat->Prop}(h:LvE B X w p pk pp rate mv L T c PL N)(b:Chg S w w')(i:∀j,exT B X j->j<w.heap.size->¬S j):LvE B (λj=>X j\/(w.heap.size<=j/\j<w'.heap.size)) w' p pk pp rate mv L T c PL N:=by
 obtain⟨Y,Z,h⟩:=h;have o:=b.size;have m:=h.k.aside b (λj a d f=>i j ⟨a.1,λe=>a.2 (h.x j e).1⟩ d f);have n:=(h.q.pv.lts).chg b (λj a f=>i j ⟨a.1.1,λe=>a.1.2 (h.x j e).2⟩ a.2 f);refine⟨_,λj=>Z j\/(w.heap.size<=j/\j<w'.heap.size),b.heap h.hd (i p h.ep h.lt),m,⟨n.mono (λj g=>⟨g.1.1,λe=>e.elim g.1.2 (λe=>E)⟩),h.q.c6,h.q.l6,h.q.n6,by have :=h.q.le;omega,λj e=>e.elim (λe=>by have :=h.q.x j e;omega) (λe=>e.2)⟩,⟨h.ep.1,λe=>e.elim h.ep.2 (λe=>by have :=h.lt;omega)⟩,Ei h.yp,Ei h.zp,λj e=>?_,λj a d=>?_⟩
 ·rcases e with e | e
  ·exact⟨Ei (h.x j e).1,Ei (h.x j e).2⟩
  ·exact⟨Ej e,Ej e⟩
 ·by_cases l:j<w.heap.size
  ·exact(h.cov j a l).imp Ei Ei
  ·exact Ei (Ej ⟨E,d⟩)
theorem LvE.mono {X':Nat->Prop}(h:LvE B X w p pk pp rate mv L T c PL N)(a:∀j,X' j->X j):LvE B X' w p pk pp rate mv L T c PL N:=by
 obtain⟨Y,Z,h⟩:=h;exact⟨Y,Z,h.hd,h.k,h.q,⟨h.ep.1,λe=>h.ep.2 (a p e)⟩,h.yp,h.zp,λj e=>h.x j (a j e),h.cov⟩
theorem LvE.less {X':Nat->Prop}(h:LvE B X w p pk pp rate mv L T c PL N)(a:Below w w w')(d:∀j,X' j->X j\/(w.heap.size<=j/\j<w'.heap.size)):LvE B X' w' p pk pp rate mv L T c PL N:=
 (h.aside (S:=λ_=>False) (Chg.of_below a) (λ_ _ _ b=>b)).mono d
end
end
def plS(M:Nat->Bool)(R:List Nat):List Int:=R.map λq=>if M q=true then (q:Int)else -1
def sM(M:Nat->Bool)(x:Nat):Nat->Bool:=λq=>decide (q=x)||M q
def upM(M:Nat->Bool)(x:Nat):Nat->Bool:=λq=>if q<x then M q else if q=x then false else M (q-1)
def dpM(M:Nat->Bool)(x:Nat):Nat->Bool:=λq=>if q<x then M q else M (q+1)
section
variable {M:Nat->Bool}{R:List Nat}{r q x k:Nat}
theorem kU(M:Nat->Bool)(R:List Nat):(plS M R).length=R.length:=by simp[plS]
theorem mE(h:R[r]? =some q):gL (plS M R) r=if M q=true then (q:Int)else -1:=by
 rw[dQ];unfold plS;rw[aO3,h];rfl
theorem Ax{v:Int}{r:Int}(h:gL (plS M R) r=v)(e:0<=v):∃(a:Nat) (q:Nat),r=a/\v=q/\R[a]? =some q/\M q=true:=by
 obtain⟨a,rfl,c⟩:=Cs (L:=plS M R) (r:=r) E;rw[kU]at c;have d:=aO0 c;rw[mE d]at h;by_cases b:M R[a]=true
 ·rw[bd0 b]at h;exact⟨a,_,rfl,h.symm,d,b⟩
 ·rw[bc9 b]at h;omega
theorem aL_no9{L:List Int}{x:Int}(h:∀r,gL L r≠x):aL L x= -1:=by
 rcases sE L x with ⟨i,_,_,b,_⟩ | ⟨a,_⟩
 ·exact absurd b (h _)
 ·exact a
theorem Ho{R:List Nat}(l:R.Nodup){a b p:Nat}(i:R[a]? =some p)(j:R[b]? =some p):a=b:=by
 obtain⟨g,e⟩:=aO2.1 i;obtain⟨h,f⟩:=aO2.1 j;have d:=aS7.1 l;rcases aV9 a b with c | c | c
 ·exact absurd (e.trans f.symm) (d a b g h c)
 ·exact c
 ·exact absurd (f.trans e.symm) (d b a h g c)
theorem Jq(m:R.Nodup)(h:R[r]? =some q):aL (plS M R) q=if M q=true then (r:Int)else -1:=by
 by_cases b:M q=true
 ·rw[bd0 b];rcases sE (plS M R) q with ⟨i,p,_,j,_⟩ | ⟨_,g⟩
  ·obtain⟨a,c,e,f,d,_⟩:=Ax j E;have :c=q:=E;subst this;have :=Ho m d h;omega
  ·exact absurd (by rw[mE h,bd0 b]) (g E r)
 ·rw[bc9 b];refine aL_no9 (λs o=>?_);obtain⟨a,c,e,f,d,l⟩:=Ax o E;have :c=q:=E;subst this;exact b l
def IsNx(M:Nat->Bool)(n:Nat)(x v:Int):Prop:=
 (v= -1/\∀q:Nat,q<n->x<=q->M q=false)\/∃q:Nat,v=q/\q<n/\x<=q/\M q=true/\∀j:Nat,j<q->x<=j->M j=false
theorem rW(x:Int):∀(l:List (Int×Int)) (b:Int),(∀y∈l,0<=y.2)->(l.foldl (λb y=>mP x b y.2) b=b/\∀z∈l,¬(x<=z.2/\(b<0\/z.2<b)))\/(∃y∈l,l.foldl (λb y=>mP x b y.2) b=y.2/\x<=y.2/\(b<0\/y.2<b)/\∀z∈l,x<=z.2->y.2<=z.2)
 | [],b,_=>Ei ⟨rfl,λz c=>by simp at c⟩
 | a::l,b,hl0=>by
  have m:∀y∈l,0<=y.2:=λy i=>hl0 y (aR2 _ i);have s:=hl0 a aR3;show (l.foldl _ (mP x b a.2)=b/\_)\/(∃y∈a::l,l.foldl _ (mP x b a.2)=y.2/\_);by_cases h:x<=a.2/\(b<0\/a.2<b)
  ·have e:mP x b a.2=a.2:=bd0 h;rw[e];rcases rW x l a.2 m with ⟨f,g⟩ | ⟨y,i,f,g,o,j⟩
   ·refine Ej ⟨a,Es,f,h.1,h.2,λz c d=>?_⟩;rcases aR1.1 c with rfl | c
    ·exact Int.le_refl _
    ·by_cases q:a.2<=z.2
     ·exact q
     ·exact absurd ⟨d,Ej E⟩ (g z c)
   ·have p:y.2<a.2:=E;refine Ej ⟨y,by simp[i],f,g,?_,λz c d=>?_⟩
    ·rcases h.2 with q | q
     ·exact Ei q
     ·exact Ej E
    ·rcases aR1.1 c with rfl | c
     ·omega
     ·exact j z c d
  ·have e:mP x b a.2=b:=bc9 h;rw[e];rcases rW x l b m with ⟨f,g⟩ | ⟨y,i,f,g,o,j⟩
   ·refine Ei ⟨f,λz c=>?_⟩;rcases aR1.1 c with rfl | c
    ·exact h
    ·exact g z c
   ·refine Ej ⟨y,by simp[i],f,g,o,λz c d=>?_⟩;rcases aR1.1 c with rfl | c
    ·have :=m y i;by_cases q:y.2<=z.2
     ·exact q
     ·exact absurd ⟨d,E⟩ h
    ·exact j z c d
theorem Fq(L:List Int)(y:Int×Int):y∈prL 0 L↔gL L y.1=y.2/\0<=y.2:=by
 obtain⟨r,p⟩:=y;rw[pN];constructor
 ·rintro⟨j,a,b,d⟩;refine⟨?_,d⟩;show gL L r=p;rw[a,aY0,dQ,b];rfl
 ·rintro⟨a,b⟩;have a:gL L r=p:=a;have b:0<=p:=b;obtain⟨i,rfl,c⟩:=Cs (L:=L) (r:=r) E;rw[dQ,aO0 c]at a;exact⟨i,E,by rw[aO0 c];exact bb9 _ a,b⟩
theorem As{n:Nat}(s:R.Perm (List.range n))(x:Int):IsNx M n x (gJ x (prL 0 (plS M R))):=by
 have g:∀q:Nat,q<n->M q=true->∃a:Nat,((a:Int),(q:Int))∈prL 0 (plS M R):=by
  intro q i h;obtain⟨a,f,e⟩:=aP1 (s.mem_iff.2 (aR8.2 i));refine⟨a,(Fq _ _).2 ⟨?_,Int.natCast_nonneg q⟩⟩;show gL (plS M R) a=q;rw[mE (by rw[aO0 f,e]),bd0 h]
 have b:∀j:Nat,j<n->(∀z∈prL 0 (plS M R),z.2≠(j:Int))->M j=false:=by
  intro j p c;cases h:M j with
  | false=>rfl
  | true=>obtain⟨a,f⟩:=g j p h;exact absurd rfl (c _ f)
 rcases rW x (prL 0 (plS M R)) (-1) (λy m=>((Fq _ y).1 m).2)with ⟨d,o⟩ | ⟨y,m,d,o,F,u⟩
 ·refine Ei ⟨d,λq i G=>b q i (λz c e=>o z c ⟨E,Ei E⟩)⟩
 ·obtain⟨B,C⟩:=(Fq _ y).1 m;obtain⟨a,q,D,t,v,w⟩:=Ax B C;have l:q<n:=aR8.1 (s.mem_iff.1 (aR5 v));refine Ej ⟨q,by show gJ x _=_;rw[<-t];exact d,l,E,w,λj p A=>b j E (λz c e=>?_)⟩;have :=u z c E;omega
theorem St{a:Type}(l:List a)(k:Nat):dY l k=bj0 l k:=rfl
theorem Se{a:Type}(l:List a)(k:Nat)(x:a):cN l k x=inL l k x:=rfl
theorem ac0(M:Nat->Bool)(R:List Nat)(k q:Nat):plS M (inL R k q)=inL (plS M R) k (if M q=true then (q:Int)else -1):=sN _ _ _ _
theorem Sx(M:Nat->Bool)(R:List Nat)(k:Nat):plS M (bj0 R k)=bj0 (plS M R) k:=tS _ _ _
theorem Ma{a t q:Nat}(b:R[a]? =some q)(e:t<R.length):rE (plS M R) a t=plS M (inL (bj0 R a) t q)/\okC (dZ (plS M R) a&&dZ (plS M R) t)=0:=by
 have d:=(aO2.1 b).1;have c:(dZ (plS M R) (a:Int)&&dZ (plS M R) (t:Int))=true:=by
  unfold dZ;rw[kU];simp;omega
 constructor
 ·unfold rE mvL;rw[c,bd0 rfl,aK5,aK5,St,Se,ac0,Sx,mE b]
 ·rw[c];rfl
theorem ac2{a:Nat}(h:a<=R.length):qJ (plS M R) a=inL (plS M R) a (-1)/\okC (jQ (plS M R) a)=0:=by
 have b:jQ (plS M R) (a:Int)=true:=by unfold jQ;rw[kU];simp;omega
 constructor
 ·unfold qJ;rw[b,bd0 rfl,aK5,Se]
 ·rw[b];rfl
theorem ac1{row at_ n:Nat}(h:at_<=n):qD (inL (plS M R) row (-1)) n at_=plS (upM M at_) (inL (R.map (upN at_)) row at_)/\okC (iX n at_)=0/\qE n at_=n+1:=by
 have b:iX n (at_:Int)=true:=by unfold iX;simp;omega
 refine⟨?_,by rw[b];rfl,by unfold qE;rw[b,bd0 rfl]⟩;unfold qD;rw[b,bd0 rfl,ac0,sN];have e:upM M at_ at_=false:=by unfold upM;rw[bc9 E,bd0 rfl]
 rw[e,bc9 Es];have c:upP (at_:Int) (-1)= -1:=by unfold upP;rw[bc9 E]
 rw[c];congr 1;unfold plS;rw[aQ6,aQ6];apply aQ3;intro q _;have d:upM M at_ (upN at_ q)=M q/\(upN at_ q:Int)=if q<at_ then (q:Int)else q+1:=by
  unfold upM upN;by_cases a:q<at_
  ·simp only[bd0 a];exact⟨trivial,trivial⟩
  ·simp only[bc9 a];rw[bc9 E,bc9 E,aU5];exact⟨rfl,E⟩
 show upP (at_:Int) (if M q=true then (q:Int)else -1)=if upM M at_ (upN at_ q)=true then (upN at_ q:Int)else -1
 rw[d.1,d.2];cases M q
 ·exact c
 ·show upP (at_:Int) (q:Int)=if q<at_ then (q:Int)else q+1
  unfold upP;by_cases a:q<at_
  ·rw[bd0 a,bc9 E]
  ·rw[bc9 a,bd0 E]
theorem Vg{k:Nat}(h:k<R.length):kV (plS M R) k=plS M (bj0 R k)/\okC (dZ (plS M R) k)=0:=by
 have a:dZ (plS M R) (k:Int)=true:=by unfold dZ;rw[kU];simp;omega
 constructor
 ·unfold kV;rw[a,bd0 rfl,aK5,St,Sx]
 ·rw[a];rfl
theorem Vf{at_ n:Nat}(h:at_<n)(c:at_∉R):mF (plS M R) n at_=plS (dpM M at_) (R.map (dpN at_))/\okC (qC n at_)=0/\mG n at_=n-1:=by
 have b:qC n (at_:Int)=true:=by unfold qC;simp;omega
 refine⟨?_,by rw[b];rfl,by unfold mG;rw[b,bd0 rfl]⟩;unfold mF;rw[b,bd0 rfl];unfold plS;rw[aQ6,aQ6];apply aQ3;intro q a;have f:q≠at_:=λe=>c (e▸a);have d:dpM M at_ (dpN at_ q)=M q/\(dpN at_ q:Int)=if q<at_ then (q:Int)else q-1:=by
  unfold dpM dpN;by_cases a:q<at_
  ·simp only[bd0 a];exact⟨trivial,trivial⟩
  ·simp only[bc9 a];rw[bc9 E,show q-1+1=q by omega];exact⟨rfl,E⟩
 show oK (at_:Int) (if M q=true then (q:Int)else -1)=if dpM M at_ (dpN at_ q)=true then (dpN at_ q:Int)else -1
 rw[d.1,d.2];cases M q
 ·show oK (at_:Int) (-1)= -1;unfold oK;rw[bc9 E,bc9 E]
 ·show oK (at_:Int) (q:Int)=if q<at_ then (q:Int)else q-1
  unfold oK;by_cases a:q<at_
  ·rw[bd0 a,bc9 E,bc9 E]
  ·rw[bc9 a,bc9 E,bd0 E]
theorem Sv{n:Nat}(g:R.Perm (List.range n))(b:R[r]? =some q):gZ (plS M R) n r q=plS (sM M q) R/\(∃c,gD (plS M R) n r q=c):=by
 have f:R.Nodup:=g.nodup_iff.2 aS4;have l:q<n:=aR8.1 (g.mem_iff.1 (aR5 b));have d:=(aO2.1 b).1;refine⟨?_,_,rfl⟩;have i:gD (plS M R) n r q=if M q=true then 1 else 0:=by
  unfold gD;rw[kU,bd0 E,mE b,Jq f b];by_cases a:M q=true
  ·simp only[a,bd1];rw[bd0 E]
  ·simp only[a,bc8];rw[bc9 Es];rfl
 unfold gZ;rw[i];by_cases a:M q=true
 ·simp only[a,bd1];rw[bc9 E];unfold plS;apply aQ3;intro x _;unfold sM;by_cases e:x=q
  ·subst e;simp[a]
  ·simp[e]
 ·rw[bc9 a,bd0 rfl,aK5];apply aM9;intro j;rw[aO5,kU];unfold plS;rw[aO3,aO3];by_cases e:r=j
  ·subst e;rw[bd0 rfl,bd0 d,b];simp[sM]
  ·rw[bc9 e];rcases hj:R[j]? with _ | y
   ·rfl
   ·have :y≠q:=λh=>e (Ho f b (h▸hj));simp[sM,this]
end
def rO(M:Nat->Bool)(n rate:Nat):Prop:=M 0=true/\∀s,s+rate<=n->∃j,j<rate/\M (s+j)=true
section
variable {M:Nat->Bool}{n rate at_ q x:Nat}
theorem at2(c:1<=rate):rO (λq=>decide (q%rate=0)) n rate:=by
 refine⟨Es,λs _=>⟨(rate-s%rate)%rate,aW2 _ E,?_⟩⟩;have a:=aW2 s (show 0<rate by omega);have b:=Nat.div_add_mod s rate;simp only[bc3];rcases aV0 (s%rate)with h | h
 ·rw[h,aX0,Nat.mod_self,aU7,h]
 ·rw[aW1 (show rate-s%rate<rate by omega)];have :s+(rate-s%rate)=rate*(s/rate+1):=by rw[Nat.mul_add];omega
  rw[this,Nat.mul_mod_right]
def rR(M:Nat->Bool)(n rate q:Nat):Prop:=(q<n->M q=true)/\∀s,s<q->s+rate<=n->∃j,j<rate/\M (s+j)=true
def tA(M:Nat->Bool)(n rate at_:Nat):Prop:=(∀s,s+rate<=at_->s+rate<=n->∃j,j<rate/\M (s+j)=true)/\∀s,at_<s->s+rate<=n->∃j,j<rate/\M (s+j)=true
theorem aB3(h:rO M n rate)(e:at_<=n):tA (upM M at_) (n+1) rate at_:=by
 refine⟨λs c d=>?_,λs c d=>?_⟩
 ·obtain⟨j,a,b⟩:=h.2 s E;exact⟨j,a,by unfold upM;rw[bd0 E];exact b⟩
 ·obtain⟨j,a,b⟩:=h.2 (s-1) E;exact⟨j,a,by unfold upM;rw[bc9 E,bc9 E,show s+j-1=s-1+j by omega];exact b⟩
theorem al7(h:rO M (n+1) rate):tA (dpM M at_) n rate at_:=by
 refine⟨λs c d=>?_,λs c d=>?_⟩
 ·obtain⟨j,a,b⟩:=h.2 s E;exact⟨j,a,by unfold dpM;rw[bd0 E];exact b⟩
 ·obtain⟨j,a,b⟩:=h.2 (s+1) E;exact⟨j,a,by unfold dpM;rw[bc9 E,show s+j+1=s+1+j by omega];exact b⟩
theorem Kt(h:tA M n rate at_):tA (sM M x) n rate at_:=by
 refine⟨λs a b=>?_,λs a b=>?_⟩
 ·obtain⟨j,c,d⟩:=h.1 s a b;exact⟨j,c,by unfold sM;simp[d]⟩
 ·obtain⟨j,c,d⟩:=h.2 s a b;exact⟨j,c,by unfold sM;simp[d]⟩
theorem Uc(h:tA M n rate at_)(d:M 0=true)(z:at_<=n)(i:0<n)(A:1<=rate){v:Int}(c:IsNx M n (max ((at_:Int)-2*rate) 0) v):∃q:Nat,v=q/\q<n/\q<=at_/\rR M n rate q:=by
 by_cases w:at_<=2*rate
 ·have e:max ((at_:Int)-2*rate) 0=0:=E;rw[e]at c;rcases c with ⟨_,a⟩ | ⟨q,rfl,a,p,l,f⟩
  ·have :=a 0 i (E);rw[d]at this;cases this
  ·have o:q=0:=by
    rcases aV0 q with e | e
    ·exact e
    ·have :=f 0 e (E);rw[d]at this;cases this
   subst o;exact⟨0,rfl,a,E,λ_=>d,λs u=>E⟩
 ·obtain⟨b,g⟩:∃b:Nat,max ((at_:Int)-2*rate) 0=b:=⟨at_-2*rate,E⟩;rw[g]at c;obtain⟨j,y,m⟩:=h.1 b E E;rcases c with ⟨_,a⟩ | ⟨q,rfl,a,p,l,f⟩
  ·have :=a (b+j) E (E);rw[m]at this;cases this
  ·have o:q<=b+j:=by
    rcases aV8 (b+j) q with e | e
    ·have :=f (b+j) e (E);rw[m]at this;cases this
    ·exact e
   exact⟨q,rfl,a,E,λ_=>l,λs u t=>h.1 s E t⟩
theorem Gz(h:rR M n rate q)(j:1<=rate){v:Nat}(i:q<v)(f:v<=q+rate)(d:v<n->M v=true)(g:v<=n):rR M n rate v:=by
 refine⟨d,λs l e=>?_⟩;rcases aV8 s q with b | b
 ·exact h.2 s b e
 ·rcases aV8 v n with c | c
  ·rcases aV8 q s with a | a
   ·exact⟨v-s,E,by rw[show s+(v-s)=v by omega];exact d c⟩
   ·obtain rfl:s=q:=E;exact⟨0,E,by rw[aU7];exact h.1 E⟩
  ·rcases aV8 q s with a | a
   ·omega
   ·obtain rfl:s=q:=E;exact⟨0,E,by rw[aU7];exact h.1 E⟩
theorem al5(h:rR M n rate q)(x:Nat):rR (sM M x) n rate q:=
 ⟨λd=>by unfold sM;simp[h.1 d],λs e a=>by obtain⟨j,b,c⟩:=h.2 s e a;exact⟨j,b,by unfold sM;simp[c]⟩⟩
theorem Zf(h:rR M n rate q)(e:tA M n rate at_)(d:M 0=true)(a:n<=q\/at_+rate<q)(f:1<=rate):rO M n rate:=by
 refine⟨d,λs c=>?_⟩;rcases aV8 s q with b | b
 ·exact h.2 s b c
 ·rcases a with a | a
  ·omega
  ·exact e.2 s E c
end
section
open Go.RowKit
theorem lvIn(b a:Nat)(h:b<=1000000)(w:World):Calls prog 115 #[b,a] w λe i=>e= .returned (inR b a:Int)/\w=i:=by
 unfold inR;by_cases f:a<=b
 ·have d:decide ((a:Int)<=(b:Int))=true:=bc2 E;have g:decide (a<=b)=true:=bc2 f;rw[bd0 f];go_in;go_wp2;go_ret;exact Er
 ·have d:decide ((a:Int)<=(b:Int))=false:=bc0 E;have g:decide (a<=b)=false:=bc0 f;rw[bc9 f];go_in;go_wp2;go_ret;exact Er
theorem Ji(b a:Nat)(h:b<=1000000)(w:World):Calls prog 109 #[b,a] w λe i=>e= .returned (bQ b a:Int)/\w=i:=by
 unfold bQ;by_cases f:a<b
 ·have d:decide ((a:Int)<(b:Int))=true:=bc2 E;have g:decide (a<b)=true:=bc2 f;rw[bd0 f];have j:IntKind.i64.wrap ((b:Int)-1)=((b-1:Nat):Int):=by rw[aK8 _ E];omega
  go_in;go_wp2;go_ret;first
   | exact Er
   | exact⟨bA E,rfl⟩
 ·have d:decide ((a:Int)<(b:Int))=false:=bc0 E;have g:decide (a<b)=false:=bc0 f;rw[bc9 f];go_in;go_wp2;go_ret;exact Er
theorem am7(next b a:Nat)(h:next<=4000000)(j:b<a->0<next)(w:World):Calls prog 168 #[next,b,a] w λe t=>e= .returned (sF next b a:Int)/\w=t:=by
 unfold sF;by_cases g:b<a
 ·have d:decide ((b:Int)<(a:Int))=true:=bc2 E;have s:decide (b<a)=true:=bc2 g;simp only[bd0 g];obtain⟨r,rfl⟩:∃r,next=r+1:=⟨next-1,by have :=j g;omega⟩;have n:IntKind.i64.wrap (((r+1:Nat):Int)-1)=r:=by rw[aK8 _ E];omega
  rw[aU5];have u:r<=4000000:=E;obtain⟨y,m⟩:=Ey (r+1);have i:IntKind.i64.wrap ((r:Int)+1)=((r+1:Nat):Int):=by rw[aK8 _ E];omega
  by_cases f:a<=r
  ·have k:decide ((a:Int)<=(r:Int))=true:=bc2 E;have l:decide (a<=r)=true:=bc2 f;rw[bd0 f];rw[m]at n h⊢;have q:=θ i;clear i j g f;go_in;go_wp2;go_ret;exact⟨by first | rfl | (rw[<-m];first | rfl | simp[q.o]),rfl⟩
  ·have k:decide ((a:Int)<=(r:Int))=false:=bc0 E;have l:decide (a<=r)=false:=bc0 f;rw[bc9 f];rw[m]at n h⊢;clear i j g f;go_in;go_wp2;go_ret;exact Er
 ·have d:decide ((b:Int)<(a:Int))=false:=bc0 E;have s:decide (b<a)=false:=bc0 g;simp only[bc9 g];by_cases f:a<=next
  ·have k:decide ((a:Int)<=(next:Int))=true:=bc2 E;have l:decide (a<=next)=true:=bc2 f;rw[bd0 f];clear j g f;go_in;go_wp2;go_ret;exact Er
  ·have k:decide ((a:Int)<=(next:Int))=false:=bc0 E;have l:decide (a<=next)=false:=bc0 f;rw[bc9 f];clear j g f;go_in;go_wp2;go_ret;exact Er
section
variable {B:Nat}{X:Nat->Prop}{w:World}{p pk pp:Nat}{rate mv:Int}{L:List Nat}{T:Tl}{c:Nat}{PL:List Int}{N:Nat}
theorem Jg(h:LvE B X w p pk pp rate mv L T c PL N){n:Nat}(b:L.length=n+1)(r:n<=1000000):Calls prog 24 #[.pointer p] w λe m=>e= .returned n/\w=m:=by
 obtain⟨Y,Z,h⟩:=h;obtain⟨q,g,i,j,l⟩:=h.cells;have a:=Xo h.k;rw[b]at a;have f:=θ a;have s:IntKind.i64.wrap (((n+1:Nat):Int)-1)=n:=by rw[aK8 _ E];omega
 clear h g i j l a b;obtain⟨y,d⟩:=Ey (n+1);rw[d]at *;clear d;go_in;go_wp2_with fail;refine Cq f.o ?_;go_wp2;go_ret;exact Er
theorem lvTo(h:LvE B X w p pk pp rate mv L T c PL N){i s:Nat}(g:L[i]? =some s)(r:L.length<=1000000):Calls prog 112 #[.pointer p,i] w λe a=>e= .returned (cC T s+bB L i s:Int)/\LvE B X a p pk pp rate mv L T c PL N/\Chg (exT B X) w a:=by
 obtain⟨Y,Z,h⟩:=h;obtain⟨t,l,m,n,q⟩:=h.cells;have j:=θ (vN h.k g r);have H:=θ h;clear h l m n q g;go_in;go_wp2_with fail;refine j.o.mono ?_;rintro e a ⟨rfl,f,d⟩;have b:=θ (H.o.stepK f d);clear f d;go_wp2;go_ret;exact⟨rfl,b.o.1,b.o.2⟩
theorem am6(w:World)(i:Int)(p:Nat):Calls prog 101 #[.pointer p, .int .i64 0,i] w λe a=>e= .returned (-1:Int)/\w=a:=by
 go_in;go_wp2;go_ret;exact Er
theorem aC6(h:LvE B X w p pk pp rate mv L T c PL N){i s:Nat}{x:Int}(u:(x==0)=false)(g:L[i]? =some s)(r:L.length<=1000000):Calls prog 101 #[.pointer p,x,i] w λe a=>e= .returned (cC T s+bB L i s:Int)/\LvE B X a p pk pp rate mv L T c PL N/\Chg (exT B X) w a:=by
 obtain⟨Y,Z,h⟩:=h;obtain⟨t,l,m,n,q⟩:=h.cells;have j:=θ (vN h.k g r);have H:=θ h;clear h l m n q g;go_in;go_wp2_with fail;refine j.o.mono ?_;rintro e a ⟨rfl,f,d⟩;have b:=θ (H.o.stepK f d);clear f d;go_wp2;go_ret;exact⟨rfl,b.o.1,b.o.2⟩
theorem tO(h:LvE B X w p pk pp rate mv L T c PL N)(a b:Int)(l:0<=a)(m:a<=b):Calls prog 100 #[.pointer p,a,b] w λe g=>e= .returned (.int .i64 0)/\LvE B X g p pk pp rate 0 L T c PL N/\Chg (exT B X) w g:=by
 obtain⟨Y,Z,h⟩:=h;obtain⟨i,j,k,n,q⟩:=h.cells;have f:=θ (h.setM 0);have d:decide (a<0)=false:=bc0 E;have r:decide (b<a)=false:=bc0 E;clear h i j k l m;go_in;go_wp2;go_ret;exact⟨rfl,⟨Y,Z,f.o.1⟩,f.o.2⟩
end
end
end Go.Proofs.YtchinbgemenenaaGreatDoor
