/- Lemmas and contracts under the claims of this seat. No condition. -/
import Derived.Test.YtchinbgemenenaaGreatDoorZs11
namespace Go.Proofs.YtchinbgemenenaaGreatDoor
open Go.Proofs.Tryz
set_option linter.unusedVariables false
set_option linter.unusedSimpArgs false
set_option maxRecDepth 100000
set_option maxHeartbeats 12800000
section
open Go.RowKit
theorem Vq{w:World}{a:Option Addr}{L:List Nat}(h:ReadsV w a ((bH L).map (Value.int .i64))):ReadsV w a (L.map wsV):=by
 unfold bH at h;rw[aQ6]at h;exact h
theorem aj1{n:Nat}{w:World}(a:Option Addr)(c:Nat)(t:List Int)(F:n=t.length)(v:Reads w .u8 a t)(s:oR t)(I:t.length<=100000):Calls prog 47 #[.slice a n c] w λe w'=>∃p r L,e= .returned (.pointer (some ⟨p,0,none⟩))/\RW t r L/\WkT w (λ_=>False) w' p L (Tl.of (bH L))/\Below w w w':=by
 subst F;have l:=θ (aC1 a c t rfl v s E);clear v s;go_in;go_wp2_with fail;refine l.o.mono ?_;rintro e G ⟨A,C,m,rfl,u,b,g⟩;obtain⟨r,f,D⟩:=RW.of u;generalize m.map Int.toNat=L at *;subst D;have z:=θ f;have d:=θ g;have j:=ay9 (w:=G) (a:=A) (c:=C) L (Vq (dM b)) f.syms (by rw[f.len];omega);rw[f.len]at j;have q:=θ j;clear u b g f j l;go_wp2_with fail;refine q.o.mono ?_;rintro e H ⟨p,rfl,i,h⟩;have y:Hid (WkT w (λ_=>False) H p L (Tl.of (bH L))):=θ ((i.base d.o.size).mono (λk i=>i.elim));have x:=θ (d.o.trans (h.mono d.o.size));clear i h q;go_wp2;go_ret;exact⟨p,r,L,rfl,z.o,y.o,x.o⟩
section
variable {B:Nat}{X:Nat->Prop}{w0 w w':World}{p:Nat}{L:List Nat}{r:List Nat}{ta:Option Addr}{t:List Int}
end
def bX(r:List Nat):List Int:=r.map λx:Nat=>(x:Int)
theorem gE(r:List Nat):(bX r).length=r.length:=by simp[bX]
theorem fI(r:List Nat):r.map bP=(bX r).map (Value.int .i64):=by simp[bX,bP,Function.comp]
theorem Ur{w:World}{b n c:Nat}{a:Option Addr}{r:List Nat}(h:w.ownsRow b 3 1 (.slice a n c) n (r.map bP)):Reads w .i64 a (bX r):=by
 rw[fI]at h;exact cB h
def setA(cur:Array Value):Nat->List Value->Array Value
 | _,[]=>cur
 | o,v::r=>setA (cur.setIfInBounds o v) (o+1) r
theorem gA:∀(b:List Value) (a:Array Value) (o:Nat),(setA a o b).size=a.size
 | [],_,_=>rfl
 | v::r,a,o=>by
  show (setA (a.setIfInBounds o v) (o+1) r).size=_;rw[gA r];simp
theorem iZ:∀(b:List Value) (a:Array Value) (o j:Nat),(j<o\/o+b.length<=j)->(setA a o b)[j]? =a[j]?
 | [],_,_,_,_=>rfl
 | v::r,a,o,j,h=>by
  show (setA (a.setIfInBounds o v) (o+1) r)[j]? =_;simp only[aP4]at h;rw[iZ r _ _ _ E,Array.getElem?_setIfInBounds,bc9 E]
theorem mK:∀(b:List Value) (a:Array Value) (o j:Nat),o+b.length<=a.size->o<=j->j<o+b.length->(setA a o b)[j]? =b[j-o]?
 | [],_,_,_,_,h1,h2=>by simp at h2;omega
 | v::r,a,o,j,hs,h1,h2=>by
  show (setA (a.setIfInBounds o v) (o+1) r)[j]? =_;simp only[aP4]at h2 hs;by_cases e:j=o
  ·subst e;rw[iZ r _ _ _ E,Array.getElem?_setIfInBounds,bd0 rfl,bd0 E,aW9];rfl
  ·rw[mK r _ _ _ (by simp;omega) E E,show j-o=(j-(o+1))+1 by omega];rfl
theorem fB:∀(c:List Value) (w:World) (b o:Nat) (a:Array Value) (e:TypeId),w.heap[b]? =some (.cells a e (0,0))->(w.setCells b o c).heap[b]? =some (.cells (setA a o c) e (0,0))
 | [],_,_,_,_,_,h=>h
 | v::r,w,b,o,a,e,h=>fB r _ b (o+1) _ e (bc7 w b o a e v h)
theorem fQ{S:Nat->Prop}{b:Nat}:∀(c:List Value) (w a:World) (o:Nat),Chg S w a->(S b\/w<=b)->Chg S w (a.setCells b o c)
 | [],_,_,_,h,_=>h
 | v::r,w,a,o,h,hb=>fQ r w _ (o+1) (h.setCell (b,o) hb v) hb
theorem tM{a:Type}{l:List a}{k:Nat}{x:a}(c:k<=l.length)(j:Nat):(cN l k x)[j]? =if j<k then l[j]? else if j=k then some x else l[j-1]? :=by
 unfold cN;rw[aN5];have b:(l.take k).length=k:=by simp;omega
 rw[b];by_cases h:j<k
 ·rw[bd0 h,bd0 h,aO6,bd0 h]
 ·rw[bc9 h,bc9 h];by_cases e:j=k
  ·subst e;simp
  ·rw[bc9 e,show j-k=(j-k-1)+1 by omega,aN8,aN9];congr 1;omega
theorem Cy{B:Nat}{w:World}{a:Option Addr}{n c vb vc i:Nat}{C:List Int}{x:Int}(h:w.ownsRow B 3 1 (.slice a n c) n (C.map (Value.int .i64)))(hi:i<=n)(T:w.heap[vb]? =some (.cells #[x] 3 (0,0)))(a1:∀k,(Value.slice a n c).ownBlock=some k->k≠vb)(hn:n<=1000000000)(W:B<=w):Calls prog 99 #[.slice a n c,i, .slice vb 1 vc] w λe M=>∃g c',e= .returned (.slice (some ⟨g,0,none⟩) (n+1) c')/\M.ownsRow B 3 1 (.slice g (n+1) c') (n+1) ((cN C i x).map (Value.int .i64))/\Chg (λb=>(Value.slice a n c).ownBlock=some b) w M/\((Value.slice a n c).ownBlock=some g\/w.heap.size<=g):=by
 have R:C.length=n:=by have :=h.1;simpa using this
 have hm:(cN C i x).map (Value.int .i64)=cN (C.map (Value.int .i64)) i x:=by simp[cN,aQ8,aQ5]
 rw[hm];have y:(cN (C.map (Value.int .i64)) i x).length=n+1:=by rw[mC (by simp;omega)];simp[R]
 have H:∀v∈C.map (Value.int .i64),v.oneCell'=true:=tR .i64 C;have d:∀v∈[Value.int .i64 x],v.oneCell'=true:=tR .i64 [x];have A:∀(j:Nat) (v:Value),[Value.int .i64 x][j]? =some v->w.cell? (vb,0+j)=some v:=by
  intro j v l;match j,l with
  | 0,l=>rw[bb8 w vb 0 _ _ _ T];simpa using l
 have f:(C.map (Value.int .i64)).length=n:=by simp[R]
 generalize C.map (Value.int .i64)=cs at *;have s:=grownCap_ge w (n+1) c 3;have u:=grownCap_le_maxLen w (n+1) c 3 (by unfold maxLen;omega);rcases h.2 with ⟨L,h0⟩ | ⟨g,a2,D,L,hb,J,h1,S,Q,Z⟩
 ·injection L with U _ V
  subst U;subst V;subst h0;obtain rfl:i=0:=E;obtain rfl:cs=[]:=aM7 f;have m:=Any2.slices_Insert_int_end_grow Tryz.laysIns none 0 0 vb 0 1 vc [] [.int .i64 x] w E E E E rfl rfl (λ_=>rfl) (λa h=>by cases h) A d;generalize F:grownCap w (0+1) 0 (Tryz.laysIns_ren.t 3)=G at m;have p:1<=G:=by rw[<-F];exact s
  have q:G<=maxLen:=by rw[<-F];exact u
  refine m.mono ?_;rintro e M ⟨rfl,rfl⟩;refine⟨_,_,rfl,⟨by simpa using y, .inr ⟨_,_,_,rfl,W,heap_alloc_new w.drew _,p,q,?_,?_⟩⟩,Chg.refl.drew.alloc _,Ej (Nat.le_refl _)⟩
  ·simp[size_zeroCells,Value.cells];omega
  ·simp[cN]
 ·injection L with U _ V
  subst U;subst V;have a3:=(aJ2.1 J).1;have a0:vb≠g:=λe=>a1 g rfl e.symm;have r:∀j,j<n->D[j]? =cs[j]? :=by
   intro j l;rw[<-Z,aO6,bd0 E,aJ3]
  have I:∀(j:Nat) (v:Value),cs[j]? =some v->w.cell? (g,0+j)=some v:=by
   intro j v l;have X:j<n:=by have :=(aO2.1 l).1;omega
   rw[bb8 w g (0+j) _ _ _ J,aY0,r j X,l]
  have P:∀j,j<c->(w.cell? (g,0+j)).isSome=true:=by
   intro j l;rw[bb8 w g (0+j) _ _ _ J,aY0,Array.getElem?_eq_getElem E];rfl
  have N:∀j,w.frozen? ⟨g,j,none⟩=false:=λj=>bc4 w g j _ _ J;rcases aV8 i n with K | K
  ·rcases aV8 n c with Y | Y
   ·refine(Any2.slices_Insert_int_shift Tryz.laysIns g 0 n c i vb 0 1 vc cs [.int .i64 x] w K E E S a0 f rfl I (λj l=>P j E) (λj l=>N _) A H d 3 3 1 D.size
     (by unfold World.shape?;rw[T];rfl) (by unfold World.shape?;rw[J]) E (bc4 w vb 0 _ _ T) (bc4 w vb 1 _ _ T)).mono ?_
    rintro e M ⟨rfl,rfl⟩;have hh:=fB [.int .i64 x] _ g (0+i) _ _ (fB (cs.drop i) w.drew g (0+(i+1)) D 3 J);refine⟨g,c,rfl,⟨by simpa using y, .inr ⟨g,c,_,rfl,hb,hh,E,S,by rw[gA,gA];exact Q,?_⟩⟩,fQ _ _ _ _ (fQ _ _ _ _ Chg.refl.drew (Ei rfl)) (Ei rfl),Ei rfl⟩;apply aM9;intro j;rw[aO6,tM E];by_cases l:j<n+1
    ·rw[bd0 E,aJ3];by_cases e:j=i
     ·subst e;rw[mK _ _ _ _ (by rw[gA];simp;omega) E Es,bc9 E,bd0 rfl];simp
     ·rw[iZ _ _ _ _ (by simp;omega)];by_cases o:j<i
      ·rw[iZ _ _ _ _ E,bd0 o,r j E]
      ·rw[mK _ _ _ _ (by simp;omega) E (by simp;omega),bc9 o,bc9 e,aN9];congr 1;omega
    ·rw[bc9 E,bc9 E,bc9 E,aO1 E]
   ·obtain rfl:n=c:=E;have m:=Any2.slices_Insert_int_grow Tryz.laysIns g 0 n n i vb 0 1 vc cs [.int .i64 x] w K E (aV3 _) E E f rfl I A H d;generalize F:grownCap w (n+1) n (Tryz.laysIns_ren.t 3)=G at m;have p:n+1<=G:=by rw[<-F];exact s
    have q:G<=maxLen:=by rw[<-F];exact u
    refine m.mono ?_;rintro e M ⟨rfl,rfl⟩;have z:((cs.take i).toArray++Builtin.zeroCells (Value.int .i64 0).cells (n+1-i)++Builtin.zeroCells (Value.int .i64 0).cells (G-(n+1))).size=G:=by
     simp[size_zeroCells,Value.cells,f];omega
    refine⟨_,_,rfl,⟨by simpa using y, .inr ⟨_,_,_,rfl,W,fB (cs.drop i) (World.drew _) _ (i+1) _ _ (fB [.int .i64 x] (World.drew _) _ i _ _ (heap_alloc_new w _)),p,q,?_,?_⟩⟩,?_,Ej (Nat.le_refl _)⟩
    ·rw[gA,gA,z,aW5]
    ·apply aM9;intro j;rw[aO6,tM E];by_cases l:j<n+1
     ·rw[bd0 E,aJ3];by_cases e:j=i
      ·subst e;rw[iZ _ _ _ _ E,mK _ _ _ _ (by simp only[List.length_singleton];rw[z];omega) E Es,bc9 E,bd0 rfl];simp
      ·by_cases o:j<i
       ·rw[iZ _ _ _ _ E,iZ _ _ _ _ E,bd0 o];rw[aJ1 (by simp[size_zeroCells,Value.cells,f];omega),aJ1 (by simp[f];omega)];simp[aO6,o]
       ·rw[mK _ _ _ _ (by rw[gA,z];simp;omega) E (by simp;omega),bc9 o,bc9 e,aN9];congr 1;omega
     ·rw[bc9 E,bc9 E,bc9 E,aO1 E]
    ·exact fQ _ _ _ _ ((fQ _ _ _ _ ((Chg.refl.alloc _).drew) (Ej (aV3 _))).drew) (Ej (aV3 _))
  ·obtain rfl:i=n:=E;have O:cN cs i x=cs++[.int .i64 x]:=by unfold cN;rw[aT9 E,aM6 E]
   rcases aV8 i c with Y | Y
   ·refine(Any2.slices_Insert_int_end_room Tryz.laysIns g 0 i c vb 0 1 vc [.int .i64 x] w E E S rfl (λj l=>by rw[aU3];exact P _ E) (λj l=>N _) A d).mono ?_;rintro e M ⟨rfl,rfl⟩;refine⟨g,c,rfl,⟨by simpa using y, .inr ⟨g,c,_,rfl,hb,fB [.int .i64 x] w g (0+i) D _ J,E,S,by rw[gA];exact Q,?_⟩⟩,fQ _ _ _ _ Chg.refl (Ei rfl),Ei rfl⟩;apply aM9;intro j;rw[aO6,tM E];by_cases l:j<i+1
    ·rw[bd0 E,aJ3];by_cases e:j=i
     ·subst e;rw[mK _ _ _ _ (by simp;omega) E Es,bc9 E,bd0 rfl];simp
     ·rw[iZ _ _ _ _ E,bd0 E,r j E]
    ·rw[bc9 E,bc9 E,bc9 E,aO1 E]
   ·obtain rfl:i=c:=E;have m:=Any2.slices_Insert_int_end_grow Tryz.laysIns (some (g,0)) i i vb 0 1 vc cs [.int .i64 x] w E E E E f rfl (λh=>by cases h) (λa h j v l=>by cases h;rw[aI7];exact I j v l) A d;generalize F:grownCap w (i+1) i (Tryz.laysIns_ren.t 3)=G at m;have p:i+1<=G:=by rw[<-F];exact s
    have q:G<=maxLen:=by rw[<-F];exact u
    refine m.mono ?_;rintro e M ⟨rfl,rfl⟩;refine⟨_,_,rfl,⟨by simpa using y, .inr ⟨_,_,_,rfl,W,heap_alloc_new w.drew _,p,q,?_,?_⟩⟩,Chg.refl.drew.alloc _,Ej (Nat.le_refl _)⟩
    ·simp[size_zeroCells,Value.cells,f];omega
    ·rw[O];simp only[Array.toList_append,aW5];rw[aT7 (by simp[f]),aT9 (by simp[f])]
def aC(L:List (Int×Int))(i:Nat):Int:=(L[i]?.getD (0,0)).1
def aJ(L:List (Int×Int))(i:Nat):Int:=(L[i]?.getD (0,0)).2
structure PmRd (w:World) (bp p gl cap:Nat) (L:List (Int×Int)):Prop where
 ptr:w.cell? bp=some (.pointer p)
 tab:w.cell? (p,1)=some (.slice gl L.length cap)
 rd:∀i,i<L.length->w.cell? (gl,i*2)=some (.int .i64 (aC L i))/\w.cell? (gl,i*2+1)=some (.int .i64 (aJ L i))
theorem PmRd.chg {w w':World}{S:Nat->Prop}{c p d a:Nat}{L:List (Int×Int)}(h:PmRd w c p d a L)(b:Chg S w w')(g:¬S c)(j:¬S p)(e:¬S d):PmRd w' c p d a L:=
 ⟨b.cell h.ptr g,b.cell h.tab j,λi f=>⟨b.cell (h.rd i f).1 e,b.cell (h.rd i f).2 e⟩⟩
theorem PmRd.below {w w':World}{b p c a:Nat}{L:List (Int×Int)}(h:PmRd w b p c a L)(d:Below w w w'):PmRd w' b p c a L:=h.chg (Chg.of_below (S:=λ_=>False) d) id id id
theorem aA0{w:World}{b p f a:Nat}{L:List (Int×Int)}(h:PmRd w b p f a L)(i:Nat)(x:Int)(j:i<L.length)(n:L.length<=1000000000):Calls prog 149 #[i,x, .pointer b] w λe d=>e= .returned (Lib.compareInt (aC L i) x:Int)/\w=d:=by
 obtain⟨k,l,c⟩:=h;obtain⟨m,_⟩:=c i j;clear c;generalize aC L i=y at *;have g:=Tryz.cmp_Compare_int y x w;generalize Lib.compareInt y x=z at *;go_enter func149,ntmps149;go_wp2_with (go_at_call 150;refine g.mono ?_;rintro e d ⟨rfl,rfl⟩);go_ret;exact⟨rfl,rfl⟩
theorem al8{w:World}{b c p f a:Nat}{L:List (Int×Int)}(h:PmRd w b p f a L)(i:Nat)(x:Int)(o:w.cell? c=x)(g:i<L.length)(n:L.length<=1000000000):Calls prog 152 #[i, .pointer b, .pointer c] w λe j=>e= .returned (.bool (aJ L i==x))/\∃q,j=w.drewN q:=by
 obtain⟨k,l,d⟩:=h;obtain⟨_,m⟩:=d i g;clear d;generalize aJ L i=y at *;have r:(0:Int)<=(i:Int):=E;have s:(i:Int)<(L.length:Int):=E;go_in;go_wp2;go_quiet (fail);go_wp2;go_ret;exact⟨rfl,_,rfl⟩
theorem aa0{w:World}{d p g b:Nat}{L:List (Int×Int)}(h:PmRd w d p g b L)(i j:Nat)(l:i<L.length)(m:j<L.length)(x:L.length<=1000000000):Calls prog 172 #[i,j, .pointer d] w λe a=>e= .returned (Lib.compareInt (aC L i) (aC L j):Int)/\∃q,a=w.drewN q:=by
 obtain⟨r,s,c⟩:=h;obtain⟨t,_⟩:=c i l;obtain⟨v,_⟩:=c j m;clear c;generalize aC L i=y at *;generalize aC L j=z at *;have f:Hid (∀n,Calls prog 150 #[y,z] (w.drewN n) λe a=>e= .returned (Lib.compareInt y z:Int)/\w.drewN n=a):=λn=>(Tryz.cmp_Compare_int y z (w.drewN n)).mono (λe a ⟨h,k⟩=>⟨h,k.symm⟩);generalize Lib.compareInt y z=u at *;have A:(0:Int)<=(i:Int):=E;have B:(i:Int)<(L.length:Int):=E;have C:(0:Int)<=(j:Int):=E;have D:(j:Int)<(L.length:Int):=E;go_in;go_wp2;go_quiet ((go_at_call 150;with_reducible exact Vk (f.o _)));go_wp2;go_ret;exact⟨rfl,_,rfl⟩
structure Pm where
 A:Ar
 L:List (Int×Int)
 O:List Nat
 R:Nat
 N:Nat
def bJ:List (Int×Int)->List Value
 | []=>[]
 | x::l=> .int .i64 x.1:: .int .i64 x.2::bJ l
theorem tJ:∀l:List (Int×Int),(bJ l).length=l.length*2
 | []=>rfl
 | x::l=>by simp only[bJ,aP4,tJ l];omega
theorem lH:∀(l:List (Int×Int)) (i:Nat),i<l.length->(bJ l)[i*2]? =some (.int .i64 (aC l i))/\(bJ l)[i*2+1]? =some (.int .i64 (aJ l i))
 | [],i,h=>absurd h (Nat.not_lt_zero _)
 | x::l,0,_=>⟨rfl,rfl⟩
 | x::l,i+1,h=>by
  obtain⟨a,b⟩:=lH l i (by simpa using h);refine⟨?_,?_⟩
  ·rw[show (i+1)*2=i*2+1+1 by omega];exact a
  ·rw[show (i+1)*2+1=i*2+1+1+1 by omega];exact b
structure Pm.Ok (m:Pm):Prop where
 most:m.A.M=268435456
 nd:m.O.Nodup
 iff:∀k,m.A.T[k]? =some true↔k∈m.O
 len:m.A.T.length=m.L.length
theorem Pm.Ok.lt {m:Pm}(h:m.Ok){k:Nat}(a:k∈m.O):k<m.L.length:=by
 have :=(aO2.1 ((h.iff k).2 a)).1;have :=h.len;omega
structure PmIn (w:World) (p q:Nat) (SA:Nat->Prop) (lv ov:Value) (m:Pm):Prop where
 hp:w.heap[p]? =some (.cells #[.pointer q,lv,ov,m.R,m.N] 145 (0,0))
 ar:IsArena w q SA m.A
 tab:w.ownsRow 0 134 2 lv m.L.length (bJ m.L)
 ord:w.ownsRow 0 3 1 ov m.O.length (m.O.map bP)
 d1:¬SA p
 d2:∀g,lv.ownBlock=some g->g≠p/\¬SA g
 d3:∀g,ov.ownBlock=some g->g≠p/\¬SA g/\lv.ownBlock≠some g
def pmS(p:Nat)(SA:Nat->Prop)(lv ov:Value):Nat->Prop:=λk=>k=p\/SA k\/lv.ownBlock=some k\/ov.ownBlock=some k
theorem PmIn.chg {w w':World}{S':Nat->Prop}{p q:Nat}{d:Nat->Prop}{e f:Value}{m:Pm}(h:PmIn w p q d e f m)(b:Chg S' w w')(c:∀k,pmS p d e f k->¬S' k):PmIn w' p q d e f m:=
 ⟨b.heap h.hp (c p (Ei rfl)),h.ar.chg b (λk a=>c k (Ej (Ei a))),b.own h.tab (λk a=>c k (Ej (Ej (Ei a)))),b.own h.ord (λk a=>c k (Ej (Ej (Ej a)))),h.d1,h.d2,h.d3⟩
theorem PmIn.below {w w':World}{p q:Nat}{a:Nat->Prop}{b c:Value}{m:Pm}(h:PmIn w p q a b c m)(d:Below w w w'):PmIn w' p q a b c m:=h.chg (Chg.of_below (S:=λ_=>False) d) (λ_ _=>id)
theorem PmIn.lt {w:World}{p q:Nat}{b:Nat->Prop}{c d:Value}{m:Pm}(h:PmIn w p q b c d m):∀k,pmS p b c d k->k<w.heap.size:=by
 rintro k (rfl | a | a | a)
 ·exact(aJ2.1 h.hp).1
 ·exact h.ar.lt k a
 ·exact(cH h.tab a).2
 ·exact(cH h.ord a).2
theorem PmIn.cells {w:World}{p q:Nat}{c:Nat->Prop}{a b:Value}{m:Pm}(h:PmIn w p q c a b m):w.cell? p=some (.pointer q)/\w.cell? (p,1)=some a/\w.cell? (p,2)=some b/\w.cell? (p,3)=m.R/\w.cell? (p,4)=m.N/\(∀j,w.frozen? ⟨p,j,none⟩=false):=
 ⟨by rw[bb8 w p 0 _ _ _ h.hp];rfl,by rw[bb8 w p 1 _ _ _ h.hp];rfl,by rw[bb8 w p 2 _ _ _ h.hp];rfl,by rw[bb8 w p 3 _ _ _ h.hp];rfl,by rw[bb8 w p 4 _ _ _ h.hp];rfl,λj=>bc4 w p j _ _ h.hp⟩
theorem PmIn.rd {w:World}{p q:Nat}{n:Nat->Prop}{l v:Value}{m:Pm}(h:PmIn w p q n l v m)(B:0<m.L.length){d:Nat}(s:w.cell? d=some (.pointer p)):∃e a,l= .slice (some ⟨e,0,none⟩) m.L.length a/\PmRd w d p e a m.L:=by
 rcases h.tab.2 with ⟨_,x⟩ | ⟨g,a,b,rfl,_,k,y,z,u,c⟩
 ·omega
 ·refine⟨g,a,rfl,s,h.cells.2.1,λi t=>?_⟩;have f:∀j,j<m.L.length*2->b[j]? =(bJ m.L)[j]? :=λj A=>by rw[<-c,aO6,bd0 E,aJ3]
  obtain⟨o,r⟩:=lH m.L i t;exact⟨by rw[bb8 w g (i*2) _ _ _ k,f _ E,o],by rw[bb8 w g (i*2+1) _ _ _ k,f _ E,r]⟩
def Pm.cnt (m:Pm)(x:Int):Nat:=m.O.countP λk=>decide (aC m.L k<x)
def Pm.is (m:Pm)(x:Int):Bool:=m.O.any λk=>aC m.L k==x
def Pm.Sorted (m:Pm):Prop:=m.O.Pairwise λa b=>aC m.L a<aC m.L b
theorem Cj(a b:Int):Lib.compareInt a b<0↔a<b:=by unfold Lib.compareInt;split<;>(try split)<;>omega
theorem cmp_eq(a b:Int):Lib.compareInt a b=0↔a=b:=by unfold Lib.compareInt;split<;>(try split)<;>omega
theorem Vy{w:World}{p q I:Nat}{R:Nat->Prop}{lv N:Value}{m:Pm}(h:PmIn w p q R lv N m)(u:m.Ok)(hs:m.Sorted)(hb:w.cell? I=some (.pointer p))(V:¬pmS p R lv N I)(hl:m.L.length<=1000000000)(x:Int):Calls prog 148 #[N,x, .func (.func 149) #[] #[.pointer I]] w λe H=> e= .returned (.tuple #[.int .i64 (m.cnt x), .bool (m.is x)])/\PmIn H p q R lv N m/\Chg (λb=>N.ownBlock=some b) w H:=by
 by_cases h0:m.O.length=0
 ·have e0:m.O=[]:=aM7 h0;obtain⟨a,c,rfl,_,_⟩:=aD h.ord;have e1:m.cnt x=0:=by unfold Pm.cnt;rw[e0];rfl
  have U:m.is x=false:=by unfold Pm.is;rw[e0];rfl
  have v:Calls prog 148 #[.slice a m.O.length c,x, .func (.func 149) #[] #[.pointer I]] w λe H=>e= .returned (.tuple #[.int .i64 0, .bool false])/\H=w:=by
   rw[h0];exact Any.slices_BinarySearchFunc_none Tryz.laysBS a c _ _ w
  rw[e1,U];refine v.mono ?_;rintro e H ⟨rfl,rfl⟩;exact⟨rfl,h,Chg.refl⟩
 ·rcases h.ord.2 with ⟨_,h1⟩ | ⟨g,S,T,rfl,_,hg,a4,a5,a6,a0⟩
  ·omega
  have C:0<m.L.length:=by
   have :=u.lt (aP0 (l:=m.O) (n:=0) E);omega
  obtain⟨gl,a1,rfl,Z⟩:=h.rd C hb
  letI:Inhabited (Fin m.L.length):=⟨⟨0,C⟩⟩
  let d:Array (Fin m.L.length):=(m.O.attach.map λx=>⟨x.1,u.lt x.2⟩).toArray
  have r:d.toList.map Fin.val=m.O:=by
   show (m.O.attach.map _).map _=m.O;rw[aQ6];exact aL3 m.O
  have D:d.size=m.O.length:=by rw[<-Array.length_toList,<-aP7 (f:=Fin.val),r]
  have A:d.toList.map (λx:Fin m.L.length=>bP x.1)=m.O.map bP:=by
   have e:=bb9 (List.map bP) r;rw[aQ6]at e;exact e
  have M:=(cH h.ord (k:=g) rfl).2;have hH:Go.Sort.Holds (λx:Fin m.L.length=>bP x.1) w g 0 d:=by
   intro j B;refine⟨?_,bc4 w g _ _ _ hg⟩;rw[aY0,bb8 w g j _ _ _ hg,<-aJ3];have e:(T.toList.take (m.O.length*1))[j]? =(m.O.map bP)[j]? :=by rw[a0]
   rw[aO6,bd0 E]at e;rw[e,<-A,aO3];simp[B]
  obtain⟨n1,n2,n3⟩:=h.d3 g rfl;have J:CmpLaysT prog 149 #[.pointer I] (λx:Fin m.L.length=>bP x.1) (.int .i64 x) (λy=>Lib.compareInt (aC m.L y.1) x) g 0 d.size w:=by
   intro P Q dk _ y;have W:=fC (λx:Fin m.L.length=>bP x.1) w g P dk Q;refine(aA0 (Z.chg W (λe=>V (by rw[e];exact Ej (Ej (Ej rfl)))) (λe=>n1 e.symm) (λe=>n3 (by rw[<-e];rfl))) y.1 x y.2 hl).mono ?_;rintro e H ⟨rfl,rfl⟩;exact⟨rfl,0,#[],by rw[Go.Sort.grow_empty];rfl⟩
  have i:∀j (B:j<m.O.length),(d[j]!).1=m.O[j]:=by
   intro j B;rw[bc5 d j E];have :(d.toList.map Fin.val)[j]? =m.O[j]? :=by rw[r]
   rw[aO3,aO0 B]at this;simpa[show j<d.size by omega]using this
  have G:∀a b,a<=b->b<d.size->(λy:Fin m.L.length=>Lib.compareInt (aC m.L y.1) x) d[b]! <0->(λy:Fin m.L.length=>Lib.compareInt (aC m.L y.1) x) d[a]! <0:=by
   intro a b a2 a3 s;show Lib.compareInt _ _<0;have s:Lib.compareInt (aC m.L (d[b]!).1) x<0:=s;rw[Cj,i b E]at s;rw[Cj,i a E];rcases aV8 a b with k | k
   ·have :=aS7.1 hs a b E E k;omega
   ·obtain rfl:a=b:=E;exact s
  have eg:∀z w,(callFunc 149 z).run prog w= .ok (.enter 149 z) w:=enters_of func149 Ek rfl;have v:=Any.slices_BinarySearchFunc Tryz.laysBS (λx:Fin m.L.length=>bP x.1) (λ_=>rfl) (.int .i64 x) (λy=>Lib.compareInt (aC m.L y.1) x) 149 #[.pointer I] g 0 S d w eg J hH M (by rw[D];have :=(u.nd).length_le_of_subset (l₂:=List.range m.L.length) (λk F=>aR8.2 (u.lt F));simp at this;omega) G;have K:d.toList.countP (λy=>decide (Lib.compareInt (aC m.L y.1) x<0))=m.cnt x:=by
   have e:m.cnt x=(d.toList.map Fin.val).countP λk=>decide (aC m.L k<x):=by rw[r];rfl
   have U:(d.toList.map Fin.val).countP (λk=>decide (aC m.L k<x))=d.toList.countP ((λk=>decide (aC m.L k<x))∘Fin.val):=aM0;rw[e,U];refine aL6 (λy _=>?_);show decide _=true↔decide _=true;rw[bc3,bc3,Cj]
  have Y:(decide (m.cnt x<d.size)&&decide (Lib.compareInt (aC m.L (d[m.cnt x]!).1) x=0))=m.is x:=by
   rw[aJ8];unfold Pm.is;rw[aL0,aJ7,bc3,bc3,cmp_eq];constructor
   ·rintro⟨k1,k2⟩;have k3:m.cnt x<m.O.length:=E;rw[i _ k3]at k2;exact⟨_,aP0 k3,by simp[k2]⟩
   ·rintro⟨k,F,X⟩;obtain⟨j,B,rfl⟩:=aP1 F;have X:aC m.L m.O[j]=x:=by simpa using X
    have W:m.cnt x=j:=by
     refine Lib.countP_boundary _ m.O j E (λt ht=>?_) (λt h3 h4=>?_)
     ·rw[bc5 m.O t E,bc3];have :=aS7.1 hs t j E B ht;omega
     ·rw[bc5 m.O t h4,bc1];rcases aV8 j t with k | k
      ·have :=aS7.1 hs j t B h4 k;omega
      ·obtain rfl:t=j:=E;omega
    rw[W,i j B];exact⟨E,X⟩
  rw[K,Y,D]at v;refine v.mono ?_;rintro e H ⟨rfl,P,Q,rfl⟩;have o:Chg (λb=>b=g) w (sortWorld (λx:Fin m.L.length=>bP x.1) w g 0 P d Q):=fC _ _ _ _ _ _;refine⟨rfl,⟨o.heap h.hp (λe=>n1 e.symm),h.ar.chg o (λk F e=>n2 (e▸F)),o.own h.tab (λk F e=>n3 (e▸F)),?_,h.d1,h.d2,h.d3⟩,o.mono (λb e=>by rw[e];rfl)⟩;have :=jV (λx:Fin m.L.length=>bP x.1) h.ord P d Q D;rw[A]at this;exact this
theorem yU{w:World}{p q:Nat}{n:Nat->Prop}{s f:Value}{m:Pm}(h:PmIn w p q n s f m)(c:m.Ok)(r:m.Sorted)(F:m.L.length<=1000000000)(x:Int):Calls prog 96 #[.pointer p,x] w λe j=> e= .returned (.tuple #[.int .i64 (m.cnt x), .bool (m.is x)])/\PmIn j p q n s f m/\Chg (λb=>f.ownBlock=some b) w j:=by
 have a:=aB w (.cells #[.pointer p] 92);have i:(w.alloc (.cells #[.pointer p] 92)).cell? w=some (.pointer p):=ba9 _ _ _ _ rfl;have g:=h.below a;have d:=Vy g c r i (λe=>by have :=h.lt _ e;omega) F x;obtain⟨u,v,G,y,z,A⟩:=g.cells;have l:=θ d;have t:Hid (Chg (λb=>f.ownBlock=some b) w (w.alloc (.cells #[.pointer p] 92))):=Chg.refl.alloc _;clear d a h g c r u v y z A;obtain⟨k,D⟩:=Ey (m.cnt x);obtain⟨b,a⟩:=Ey (m.is x);rw[D,a]at l⊢;go_in;go_wp2_with (go_at_call 148;refine l.o.mono ?_;rintro e j ⟨rfl,C,B⟩);go_ret2;exact⟨rfl,C,t.o.trans B (λb a=>Ei a)⟩
def Pm.has (m:Pm)(x:Int):Int:=match m.O.findIdx? λk=>aJ m.L k==x with
 | some i=>(i:Int)
 | none=> -1
theorem Ud{b d:Type}[Inhabited b](f:b->d)(p:d->Bool)(l:List b)(k:List d)(e:l.map f=k)(x:b):Lib.idxBy (λ_ y=>p (f y)) (l.take k.length) x=match k.findIdx? p with
  | some i=>(i:Int)
  | none=> -1:=by
 subst e;rw[aP7,aT8];show Lib.idxByFrom _ _ l 0=_;have c:∀(l:List b) (i:Nat),Lib.idxByFrom (λ_ y=>p (f y)) x l i=match (l.map f).findIdx? p with
   | some j=>((i+j:Nat):Int)
   | none=> -1:=by
  intro l;induction l with
  | nil=>intro i;rfl
  | cons a l g=>
   intro i;show (if p (f a)=true then (i:Int)else Lib.idxByFrom _ x l (i+1))=_;rw[aQ4,List.findIdx?_cons];by_cases h:p (f a)=true
   ·rw[bd0 h,bd0 h];rfl
   ·rw[bc9 h,bc9 h,g (i+1)];cases (l.map f).findIdx? p with
    | none=>rfl
    | some j=>
     show ((i+1+j:Nat):Int)=((i+(j+1):Nat):Int);congr 1;omega
 rw[c l 0];cases (l.map f).findIdx? p with
 | none=>rfl
 | some j=>simp
theorem Zi{w:World}{p q t s:Nat}{M:Nat->Prop}{Z K:Value}{m:Pm}(h:PmIn w p q M Z K m)(b:m.Ok)(Q:w.cell? t=some (.pointer p))(x:Int)(J:w.cell? s=x)(V:m.L.length<=1000000000):Calls prog 151 #[K, .func (.func 152) #[] #[.pointer t, .pointer s]] w λe u=>e= .returned (m.has x:Int)/\∃n,u=w.drewN n:=by
 by_cases G:m.O.length=0
 ·have N:m.O=[]:=aM7 G;obtain⟨a,c,rfl,_,_⟩:=aD h.ord;have A:m.has x= -1:=by unfold Pm.has;rw[N];rfl
  have d:Calls prog 151 #[.slice a m.O.length c, .func (.func 152) #[] #[.pointer t, .pointer s]] w λe u=>e= .returned (-1:Int)/\u=w:=by
   rw[G];exact AnyE.slices_IndexFunc_empty Tryz.laysIF a c _ w
  rw[A];refine d.mono ?_;rintro e u ⟨rfl,rfl⟩;exact⟨rfl,0,rfl⟩
 ·rcases h.ord.2 with ⟨_,h1⟩ | ⟨g,v,z,rfl,_,T,R,S,X,D⟩
  ·omega
  have i:0<m.L.length:=by
   have :=b.lt (aP0 (l:=m.O) (n:=0) E);omega
  obtain⟨gl,F,rfl,C⟩:=h.rd i Q
  letI:Inhabited (Fin m.L.length):=⟨⟨0,i⟩⟩
  obtain⟨r,o⟩:∃r:List (Fin m.L.length),r.map Fin.val=m.O:=⟨m.O.attach.map λx=>⟨x.1,b.lt x.2⟩,by rw[aQ6];exact aL3 m.O⟩;have Y:r.length=m.O.length:=by rw[<-o,aP7]
  have P:∀f w,(callFunc 152 f).run prog w= .ok (.enter 152 f) w:=enters_of func152 Ek rfl;have B:=ba8 w _ J;have d:=AnyE.slices_IndexFunc Tryz.laysIF (λx:Fin m.L.length=>bP x.1) (λy=>aJ m.L y.1==x) 152 #[.pointer t, .pointer s] P g 0 m.O.length v r w
   (λW y H=>al8 (C.below H) y.1 x ((H.cell (p:=(s,0)) B).trans J) y.2 V) E
   (by have :=(b.nd).length_le_of_subset (l₂:=List.range m.L.length) (λk U=>aR8.2 (b.lt U));simp at this;omega)
   (λj I=>by
    have e:(z.toList.take (m.O.length*1))[j]? =(m.O.map bP)[j]? :=by rw[D]
    rw[aO6,bd0 E,<-o,aQ6,aO3,aO0 I]at e
    rw[aY0,bb8 w g j _ _ _ T,<-aJ3,e,bc5 r j I];rfl)
  have A:Lib.idxBy (λ_ (y:Fin m.L.length)=>aJ m.L y.1==x) (r.take m.O.length) default=m.has x:=by
   have :=Ud (λy:Fin m.L.length=>y.1) (λk=>aJ m.L k==x) r m.O o default;exact this
  rw[A]at d;exact d
theorem tU{w:World}{p q:Nat}{s:Nat->Prop}{C D:Value}{m:Pm}(h:PmIn w p q s C D m)(d:m.Ok)(B:m.L.length<=1000000000)(x:Int):Calls prog 97 #[.pointer p,x] w λe l=>e= .returned (m.has x:Int)/\Below w w l:=by
 have b:=aB w (.cells #[.pointer p] 92);have a:Below w w ((w.alloc (.cells #[.pointer p] 92)).alloc (.cells #[x] 3)):=b.alloc Es _;have i:((w.alloc (.cells #[.pointer p] 92)).alloc (.cells #[x] 3)).cell? w=some (.pointer p):=
  ((aB (w.alloc (.cells #[.pointer p] 92)) (.cells #[x] 3)).cell (p:=(w,0)) Es).trans (ba9 _ _ _ _ rfl)
 have c:((w.alloc (.cells #[.pointer p] 92)).alloc (.cells #[x] 3)).cell? (w.heap.size+1,0)=x:=by
  have :((w.alloc (.cells #[.pointer p] 92)).alloc (.cells #[x] 3)).cell? ((w.alloc (.cells #[.pointer p] 92)).heap.size,0)=x:=ba9 _ _ _ _ rfl;rwa[show (w.alloc (.cells #[.pointer p] 92)).heap.size=w.heap.size+1 by simp]at this
 have g:=h.below a;have f:=Zi g d i x c B;obtain⟨t,u,F,v,y,z⟩:=g.cells;have j:=θ f;have r:=θ a;clear f b a h g d t u v y z c;obtain⟨k,A⟩:=Ey (m.has x);rw[A]at j⊢;go_in;go_wp2_with (go_at_call 151;refine j.o.mono ?_;rintro e l ⟨rfl,n,rfl⟩);go_ret;exact⟨rfl,aW r.o n⟩
theorem PmIn.pair {w:World}{p q:Nat}{z:Nat->Prop}{x y:Value}{m:Pm}(h:PmIn w p q z x y m)(r:m.Ok){i:Nat}(o:i<m.O.length):∃g b c a k,x= .slice (some ⟨c,0,none⟩) m.L.length a/\y= .slice (some ⟨g,0,none⟩) m.O.length b/\m.O[i]? =some k/\k<m.L.length/\w.cell? (g,i)=some (.int .i64 (k:Int))/\w.cell? (c,k*2)=some (.int .i64 (aC m.L k))/\w.cell? (c,k*2+1)=some (.int .i64 (aJ m.L k)):=by
 have u:=r.lt (aP0 o);rcases h.ord.2 with ⟨_,C⟩ | ⟨g,b,n,rfl,_,G,D,F,H,s⟩
 ·omega
 rcases h.tab.2 with ⟨_,I⟩ | ⟨c,a,d,rfl,_,f,C,J,v,l⟩
 ·omega
 have t:∀j,j<m.L.length*2->d[j]? =(bJ m.L)[j]? :=λj K=>by rw[<-l,aO6,bd0 E,aJ3]
 obtain⟨A,B⟩:=lH m.L m.O[i] u;refine⟨g,b,c,a,m.O[i],rfl,rfl,aO0 o,u,?_,?_,?_⟩
 ·have e:(n.toList.take (m.O.length*1))[i]? =(m.O.map bP)[i]? :=by rw[s]
  rw[aO6,bd0 E,aO3,aO0 o]at e;rw[bb8 w g i _ _ _ G,<-aJ3,e];rfl
 ·rw[bb8 w c _ _ _ _ f,t _ E,A]
 ·rw[bb8 w c _ _ _ _ f,t _ E,B]
theorem Pm.Ok.olen {m:Pm}(h:m.Ok):m.O.length<=m.L.length:=by
 have :=(h.nd).length_le_of_subset (l₂:=List.range m.L.length) (λk a=>aR8.2 (h.lt a));simpa using this
theorem Pm.is_lt {m:Pm}(d:m.Sorted){x:Int}(h:m.is x=true):m.cnt x<m.O.length/\aC m.L (m.O[m.cnt x]?.getD 0)=x:=by
 unfold Pm.is at h;rw[aL0]at h;obtain⟨k,f,b⟩:=h;obtain⟨j,a,rfl⟩:=aP1 f;have b:aC m.L m.O[j]=x:=by simpa using b
 have e:m.cnt x=j:=by
  refine Lib.countP_boundary _ m.O j E (λt g=>?_) (λt i c=>?_)
  ·rw[bc5 m.O t E,bc3];have :=aS7.1 d t j E a g;omega
  ·rw[bc5 m.O t c,bc1];rcases aV8 j t with k | k
   ·have :=aS7.1 d j t a c k;omega
   ·obtain rfl:t=j:=E;omega
 rw[e];exact⟨a,by rw[aO0 a];exact b⟩
def Pm.pos (m:Pm)(x:Int):Int:=if m.is x=true then aJ m.L (m.O[m.cnt x]?.getD 0)else -1
def Pm.row (m:Pm)(x:Int):Int:=if m.has x<0 then -1 else aC m.L (m.O[(m.has x).toNat]?.getD 0)
theorem ar3{w:World}{p q:Nat}{z:Nat->Prop}{B u:Value}{m:Pm}(h:PmIn w p q z B u m)(a:m.Ok)(s:m.Sorted)(Q:m.L.length<=1000000000)(x:Int):Calls prog 129 #[.pointer p,x] w λe v=>e= .returned (m.pos x:Int)/\PmIn v p q z B u m/\Chg (λb=>u.ownBlock=some b) w v:=by
 have l:=yU h a s Q x;have f:=θ l;clear l h;cases hi:m.is x with
 | false=>
  have e:m.pos x= -1:=by unfold Pm.pos;rw[hi];simp
  rw[e];rw[hi]at f;clear hi e;go_in;go_wp2_with (go_at_call 96;refine f.o.mono ?_;rintro e v ⟨rfl,d,n⟩);go_ret;exact⟨rfl,d,n⟩
 | true=>
  obtain⟨j,_⟩:=Pm.is_lt s hi;have e:m.pos x=aJ m.L (m.O[m.cnt x]?.getD 0):=by unfold Pm.pos;rw[bd0 hi]
  rw[e];rw[hi]at f;have R:=a.olen;clear hi e;generalize m.cnt x=i at *;obtain⟨k,c⟩:∃k,m.O[i]? =some k:=⟨_,aO0 j⟩;obtain⟨y,t⟩:=Ey (aJ m.L k);rw[c,aY3,t];have r:=θ c;have F:=θ t;clear c t;go_in;go_wp2_with fail;refine f.o.mono ?_;rintro e w1 ⟨rfl,d,n⟩;obtain⟨g,I,V,A,k',rfl,rfl,c,P,S,G,H⟩:=d.pair a j;rw[r.o]at c;injection c with c
  subst c;rw[F.o]at H;obtain⟨J,T,U,K,M,N⟩:=d.cells;have D:=θ d;have C:=θ n;have W:(0:Int)<=(i:Int):=E;have X:(i:Int)<(m.O.length:Int):=E;have Y:(0:Int)<=(k:Int):=E;have Z:(k:Int)<(m.L.length:Int):=E;clear d n J K M N G f s a;go_wp2;go_quiet (fail);go_wp2;go_ret;exact⟨rfl,D.o.below (aW (aJ6 _ _) _),C.o.drewN _⟩
theorem ar6{w:World}{p q:Nat}{B:Nat->Prop}{Q R:Value}{m:Pm}(h:PmIn w p q B Q R m)(a:m.Ok)(N:m.L.length<=1000000000)(x:Int):Calls prog 120 #[.pointer p,x] w λe v=>e= .returned (m.row x:Int)/\Below w w v:=by
 have l:=tU h a N x;have n:=θ l;clear l;by_cases b:m.has x<0
 ·have e:m.row x= -1:=by unfold Pm.row;rw[bd0 b]
  rw[e];have G:decide (m.has x<0)=true:=bc2 b;clear b e;generalize m.has x=y at *;go_in;go_wp2_with (go_at_call 97;refine n.o.mono ?_;rintro e v ⟨rfl,d⟩);go_ret;exact⟨rfl,d⟩
 ·have e:m.row x=aC m.L (m.O[(m.has x).toNat]?.getD 0):=by unfold Pm.row;rw[bc9 b]
  obtain⟨i,f,j⟩:∃i:Nat,m.has x=(i:Int)/\i<m.O.length:=by
   unfold Pm.has at b⊢;cases hf:m.O.findIdx? λk=>aJ m.L k==x with
   | none=>rw[hf]at b;exact absurd Ed b
   | some i=>exact⟨i,rfl,(List.findIdx?_eq_some_iff_getElem.1 hf).1⟩
  rw[e];rw[f]at n⊢;have P:=a.olen;have G:decide ((i:Int)<0)=false:=bc0 E;obtain⟨k,c⟩:∃k,m.O[i]? =some k:=⟨_,aO0 j⟩;obtain⟨y,t⟩:=Ey (aC m.L k);rw[aK5,c,aY3,t];have r:=θ c;have A:=θ t;clear b e f c t;go_in;go_wp2_with fail;refine n.o.mono ?_;rintro e w1 ⟨rfl,d⟩;have s:=h.below d;obtain⟨g,F,V,u,k',rfl,rfl,c,M,S,C,D⟩:=s.pair a j;rw[r.o]at c;injection c with c
  subst c;rw[A.o]at C;obtain⟨H,T,U,I,J,K⟩:=s.cells;have z:=θ d;have W:(0:Int)<=(i:Int):=E;have X:(i:Int)<(m.O.length:Int):=E;have Y:(0:Int)<=(k:Int):=E;have Z:(k:Int)<(m.L.length:Int):=E;clear s d H I J K D n a h;go_wp2;go_quiet (fail);go_wp2;go_ret;exact⟨rfl,aW z.o _⟩
def TabIs(w:World)(gl cap:Nat)(L:List (Int×Int)):Prop:=w.ownsRow 0 134 2 (.slice gl L.length cap) L.length (bJ L)
theorem TabIs.ex {w:World}{e b:Nat}{L:List (Int×Int)}(h:TabIs w e b L):∃a:Array Value,w.heap[e]? =some (.cells a 134 (0,0))/\L.length<=b/\b<=maxLen/\a.size=b*2/\a.toList.take (L.length*2)=bJ L:=by
 rcases h.2 with ⟨h,_⟩ | ⟨g,c,a,n,_,i,j,k,l,m⟩
 ·cases h
 ·injection n with d _ f
  injection d with d
  injection d with d _ _
  subst d;subst f;exact⟨a,i,j,k,l,m⟩
theorem TabIs.cells {w:World}{a b:Nat}{L:List (Int×Int)}(h:TabIs w a b L){k:Nat}(l:k<L.length):w.cell? (a,k*2)=some (.int .i64 (aC L k))/\w.cell? (a,k*2+1)=some (.int .i64 (aJ L k))/\∀j,w.frozen? ⟨a,j,none⟩=false:=by
 obtain⟨c,d,n,o,m,e⟩:=h.ex;have f:∀j,j<L.length*2->c[j]? =(bJ L)[j]? :=λj p=>by rw[<-e,aO6,bd0 E,aJ3]
 obtain⟨g,i⟩:=lH L k l;exact⟨by rw[bb8 w a _ _ _ _ d,f _ E,g],by rw[bb8 w a _ _ _ _ d,f _ E,i],λj=>bc4 w a j _ _ d⟩
theorem zI:∀(L:List (Int×Int)) (k:Nat) (x:Int),k<L.length->(bJ L).set (k*2) (.int .i64 x)=bJ (L.set k (x,aJ L k))
 | [],k,x,h=>absurd h (Nat.not_lt_zero _)
 | y::L,0,x,_=>rfl
 | y::L,k+1,x,h=>by
  rw[show (k+1)*2=k*2+1+1 by omega];show _::_::(bJ L).set (k*2) _=_::_::bJ (L.set k _);rw[zI L k x (by simpa using h)];rfl
theorem zJ:∀(L:List (Int×Int)) (k:Nat) (x:Int),k<L.length->(bJ L).set (k*2+1) (.int .i64 x)=bJ (L.set k (aC L k,x))
 | [],k,x,h=>absurd h (Nat.not_lt_zero _)
 | y::L,0,x,_=>rfl
 | y::L,k+1,x,h=>by
  rw[show (k+1)*2+1=k*2+1+1+1 by omega];show _::_::(bJ L).set (k*2+1) _=_::_::bJ (L.set k _);rw[zJ L k x (by simpa using h)];rfl
theorem TabIs.put {w:World}{b a:Nat}{L c:List (Int×Int)}(h:TabIs w b a L)(j:Nat)(v:Value)(l:c.length=L.length)(i:(bJ L).set j v=bJ c):TabIs (w.setCell (b,j) v) b a c:=by
 obtain⟨d,k,m,g,e,f⟩:=h.ex;refine⟨tJ _, .inr ⟨b,a,_,rfl,Nat.zero_le _,heap_setCell_same w b j d _ v k,E,g,by simpa using e,?_⟩⟩;rw[aJ4,l,List.take_set,f,i]
theorem TabIs.setRow {w:World}{b a:Nat}{L:List (Int×Int)}(h:TabIs w b a L){k:Nat}(c:k<L.length)(x:Int):TabIs (w.setCell (b,k*2) x) b a (L.set k (x,aJ L k)):=
 h.put _ _ Es (zI L k x c)
theorem TabIs.setPos {w:World}{b a:Nat}{L:List (Int×Int)}(h:TabIs w b a L){k:Nat}(c:k<L.length)(x:Int):TabIs (w.setCell (b,k*2+1) x) b a (L.set k (aC L k,x)):=
 h.put _ _ Es (zJ L k x c)
def bV(f:Int×Int->Int×Int)(O:List Nat)(L:List (Int×Int)):List (Int×Int):=(List.range L.length).map λk=>if k∈O then f (aC L k,aJ L k)else (aC L k,aJ L k)
theorem dB(f:Int×Int->Int×Int)(O:List Nat)(L:List (Int×Int)):(bV f O L).length=L.length:=by simp[bV]
theorem mZ{f:Int×Int->Int×Int}{O:List Nat}{L:List (Int×Int)}{k:Nat}(a:k<L.length):(bV f O L)[k]? =some (if k∈O then f (aC L k,aJ L k)else (aC L k,aJ L k)):=by simp[bV,a]
theorem Gx(f:Int×Int->Int×Int)(L:List (Int×Int)):bV f [] L=L:=by
 apply aM9;intro k;by_cases a:k<L.length
 ·rw[mZ a,bc9 Es,aO0 a];simp[aC,aJ,a]
 ·rw[aO1 (by rw[dB];omega),aO1 E]
theorem Ty{f:Int×Int->Int×Int}{O:List Nat}{L:List (Int×Int)}{i k:Nat}(b:O[i]? =some k)(c:k<L.length):(bV f (O.take i) L).set k (f (aC L k,aJ L k))=bV f (O.take (i+1)) L:=by
 apply aM9;intro j;rw[aO5,dB];by_cases a:j<L.length
 ·rw[mZ a,mZ a,aT5,b];by_cases e:k=j
  ·subst e;simp[c]
  ·have :¬j=k:=λh=>e h.symm;simp[e,this]
 ·rw[aO1 (l:=bV f (List.take (i+1) O) L) (by rw[dB];omega),bc9 E,aO1 (by rw[dB];omega)]
theorem kT{w:World}{p q:Nat}{SA:Nat->Prop}{Y ov:Value}{m:Pm}(h:PmIn w p q SA Y ov m)(s:m.Ok)(hl:m.L.length<=1000000000)(f:Int×Int->Int×Int)(g:Nat)(lb:Array Value)(eg:∀D w,(callFunc g D).run prog w= .ok (.enter g D) w)(T:∀l B,Y= .slice (some ⟨l,0,none⟩) m.L.length B->∀(W:World) (L:List (Int×Int)) (k:Nat),Chg (λb=>b=l) w W->TabIs W l B L->L.length=m.L.length->k∈m.O->aC L k=aC m.L k->aJ L k=aJ m.L k->Calls prog g (#[.pointer (l,k*2)]++lb) W λe I=>e= .returned (.tuple #[])/\TabIs I l B (L.set k (f (aC m.L k,aJ m.L k)))/\Chg (λb=>b=l) W I):Calls prog 164 #[.pointer p, .func (.func g) #[] lb] w λe I=> e= .returned (.tuple #[])/\PmIn I p q SA Y ov ⟨m.A,bV f m.O m.L,m.O,m.R,m.N⟩/\Chg (λb=>Y.ownBlock=some b) w I:=by
 by_cases h0:m.O.length=0
 ·have e0:m.O=[]:=aM7 h0;have hm:(⟨m.A,bV f m.O m.L,m.O,m.R,m.N⟩:Pm)=m:=by rw[e0,Gx,<-e0]
  rw[hm];obtain⟨a,c,rfl,_,_⟩:=aD h.ord;obtain⟨_,_,c2,_,_,_⟩:=h.cells;rw[h0]at c2;have z:=θ h;clear h s T;go_in;go_wp2;go_loopw [11] (λv wr=>v= .int .i64 0/\wr=w) (λ_ _=>0);exact Er;case round=>
   obtain⟨rfl,rfl⟩:=hrel;go_wp2;go_end0;exact⟨rfl,z.o,Chg.refl⟩
 ·have a3:0<m.O.length:=E;obtain⟨M,B,l,r,k,rfl,rfl,_,_,_,_,_⟩:=h.pair s a3;obtain⟨n1,n2,n3⟩:=h.d3 M rfl;obtain⟨n4,n5⟩:=h.d2 l rfl;have H:M≠l:=λe=>n3 (by rw[e];rfl);obtain⟨_,c1,c2,_,_,_⟩:=h.cells;have T:=T l r rfl;have HW:Hid (∀W,Chg (λb=>b=l) w W->W.cell? (p,1)=some (.slice l m.L.length r)/\∀i k:Nat,m.O[i]? =some k->W.cell? (M,i)=some (.int .i64 (k:Int))):=by
   intro W hW;refine⟨hW.cell c1 (λe=>n4 e.symm),λi k t=>hW.cell ?_ H⟩;have hi:i<m.O.length:=(aO2.1 t).1;obtain⟨g',_,_,_,k',_,hv,C,_,hc,_,_⟩:=h.pair s hi;injection hv with K _ _
   injection K with K
   injection K with K _ _
   subst K;rw[t]at C;injection C with C
   subst C;exact hc
  have HF:=θ T;have z:=θ h;have J:=θ s;have a5:=s.olen;have d:TabIs w l r (bV f (m.O.take 0) m.L):=by rw[aU2,Gx];exact h.tab
  have HT:=θ d;clear h s T d c1 n1 n2 n3 n4 n5 H;go_in;go_wp2;go_loopw [11] (λv wr=>∃i:Nat,i<=m.O.length/\v= .int .i64 i/\TabIs wr l r (bV f (m.O.take i) m.L)/\Chg (λb=>b=l) w wr) (λv _=>m.O.length-(intOf v).toNat);exact⟨0,aY1 _,rfl,HT.o,Chg.refl⟩;case round=>
   obtain⟨i,hi,rfl,d,x⟩:=hrel;have a1:=θ d;have u:=θ x;obtain⟨c1,c3⟩:=HW.o wr x;by_cases G:i<m.O.length
   ·obtain⟨k,t⟩:∃k,m.O[i]? =some k:=⟨_,aO0 G⟩;have c4:=c3 i k t;have V:k∈m.O:=aR5 t;have U:=J.o.lt V;have y:(bV f (m.O.take i) m.L)[k]? =some (aC m.L k,aJ m.L k):=by
     rw[mZ U,bc9];intro X;obtain⟨j,hj,e⟩:=aP1 X;rw[aQ1]at hj;rw[aP2]at e;have a4:m.O[i]=k:=by rw[aO0 G]at t;injection t
     have :=(aS7.1 J.o.nd) j i E G E;exact this (by rw[e,a4])
    have n:=HF.o wr (bV f (m.O.take i) m.L) k x d (dB _ _ _) V (by unfold aC;rw[y];rfl) (by unfold aJ;rw[y];rfl);rw[Ty t U]at n;have F:=θ n;clear c3 n y d x;go_wp2_with (go_at_fn g;refine F.o.mono ?_;rintro e I ⟨rfl,Q,P⟩);have a0:=θ Q;have Z:=θ P;clear Q P;go_wp2;go_roundw;exact⟨i+1,E,by go_num,a0.out,u.o.trans Z.out (λb hb=>Ei hb)⟩;simp[intOf];omega
   ·obtain rfl:i=m.O.length:=E;clear c3 d x;go_wp2;go_end0;refine⟨rfl,?_,u.o.mono (λb e=>by rw[e];rfl)⟩;have a2:=z.o.d3 M rfl;have S:=z.o.d2 l rfl;have ht:=a1.o;rw[aT8]at ht;have H:M≠l:=λe=>a2.2.2 (by rw[e];rfl);refine⟨u.o.heap z.o.hp (λe=>S.1 e.symm),z.o.ar.chg u.o (λk t e=>S.2 (by rw[<-e];exact t)),?_,u.o.own z.o.ord (λk t e=>by simp[Value.ownBlock]at t;omega),z.o.d1,z.o.d2,z.o.d3⟩;have :=ht;unfold TabIs at this;rw[dB]at this;show World.ownsRow _ _ _ _ _ (bV f m.O m.L).length _;rw[dB];exact this
theorem qN{L:List (Int×Int)}{k:Nat}(a:k<L.length):L.set k (aC L k,aJ L k)=L:=by
 apply aM9;intro j;rw[aO5];by_cases e:k=j
 ·subst e;simp[aC,aJ,a]
 ·rw[bc9 e]
def lJ(x:Int)(y:Int×Int):Int×Int:=if x<=y.1 then (y.1+1,y.2)else y
theorem Pv{W:World}{c a j k:Nat}{L:List (Int×Int)}{x:Int}(h:TabIs W c a L)(g:k<L.length)(v:W.cell? j=x)(p: -1<=aC L k)(q:aC L k<=1000000000):Calls prog 173 #[.pointer (c,k*2), .pointer j] W λe l=>e= .returned (.tuple #[])/\TabIs l c a (L.set k (lJ x (aC L k,aJ L k)))/\Chg (λb=>b=c) W l:=by
 obtain⟨r,s,f⟩:=h.cells g;have t:=f (k*2);have u:=f (k*2+1);have i:=θ (h.setRow g (aC L k+1));have m:Hid (TabIs W c a (L.set k (aC L k,aJ L k))):=by show TabIs _ _ _ _;rw[qN g];exact h
 unfold lJ;clear h f;generalize aC L k=y at *;generalize aJ L k=z at *;by_cases d:x<=y
 ·have n:decide (x<=y)=true:=bc2 d;rw[bd0 d];clear d;go_in;go_wp2;go_quiet (fail);go_wp2;go_end0;exact⟨rfl,i.o,(Chg.refl.drewN _).setCell (S:=λb=>b=c) (c,k*2) (Ei rfl) _⟩
 ·have n:decide (x<=y)=false:=bc0 d;rw[bc9 d];clear d i;go_in;go_wp2;go_quiet (fail);go_wp2;go_end0;exact⟨rfl,m.o,Chg.refl.drewN _⟩
def kQ(x:Int)(y:Int×Int):Int×Int:=if x<y.1 then (y.1-1,y.2)else y
theorem Lx{W:World}{c a j k:Nat}{L:List (Int×Int)}{x:Int}(h:TabIs W c a L)(g:k<L.length)(v:W.cell? j=x)(p: -1<=aC L k)(q:aC L k<=1000000000):Calls prog 165 #[.pointer (c,k*2), .pointer j] W λe l=>e= .returned (.tuple #[])/\TabIs l c a (L.set k (kQ x (aC L k,aJ L k)))/\Chg (λb=>b=c) W l:=by
 obtain⟨r,s,f⟩:=h.cells g;have t:=f (k*2);have u:=f (k*2+1);have i:=θ (h.setRow g (aC L k-1));have m:Hid (TabIs W c a (L.set k (aC L k,aJ L k))):=by show TabIs _ _ _ _;rw[qN g];exact h
 unfold kQ;clear h f;generalize aC L k=y at *;generalize aJ L k=z at *;by_cases d:x<y
 ·have n:decide (x<y)=true:=bc2 d;rw[bd0 d];clear d;go_in;go_wp2;go_quiet (fail);go_wp2;go_end0;exact⟨rfl,i.o,(Chg.refl.drewN _).setCell (S:=λb=>b=c) (c,k*2) (Ei rfl) _⟩
 ·have n:decide (x<y)=false:=bc0 d;rw[bc9 d];clear d i;go_in;go_wp2;go_quiet (fail);go_wp2;go_end0;exact⟨rfl,m.o,Chg.refl.drewN _⟩
def lI(x:Int)(y:Int×Int):Int×Int:=if x<=y.2 then (y.1,y.2+1)else y
theorem Ps{W:World}{c a j k:Nat}{L:List (Int×Int)}{x:Int}(h:TabIs W c a L)(g:k<L.length)(v:W.cell? j=x)(p: -1<=aJ L k)(q:aJ L k<=1000000000):Calls prog 174 #[.pointer (c,k*2), .pointer j] W λe l=>e= .returned (.tuple #[])/\TabIs l c a (L.set k (lI x (aC L k,aJ L k)))/\Chg (λb=>b=c) W l:=by
 obtain⟨r,s,f⟩:=h.cells g;have t:=f (k*2);have u:=f (k*2+1);have i:=θ (h.setPos g (aJ L k+1));have m:Hid (TabIs W c a (L.set k (aC L k,aJ L k))):=by show TabIs _ _ _ _;rw[qN g];exact h
 unfold lI;clear h f;generalize aC L k=y at *;generalize aJ L k=z at *;by_cases d:x<=z
 ·have n:decide (x<=z)=true:=bc2 d;rw[bd0 d];clear d;go_in;go_wp2;go_quiet (fail);go_wp2;go_end0;exact⟨rfl,i.o,(Chg.refl.drewN _).setCell (S:=λb=>b=c) (c,k*2+1) (Ei rfl) _⟩
 ·have n:decide (x<=z)=false:=bc0 d;rw[bc9 d];clear d i;go_in;go_wp2;go_quiet (fail);go_wp2;go_end0;exact⟨rfl,m.o,Chg.refl.drewN _⟩
def jH(x:Int)(y:Int×Int):Int×Int:=if x<y.2 then (y.1,y.2-1)else y
theorem xJ{W:World}{c a j k:Nat}{L:List (Int×Int)}{x:Int}(h:TabIs W c a L)(g:k<L.length)(v:W.cell? j=x)(p: -1<=aJ L k)(q:aJ L k<=1000000000):Calls prog 167 #[.pointer (c,k*2), .pointer j] W λe l=>e= .returned (.tuple #[])/\TabIs l c a (L.set k (jH x (aC L k,aJ L k)))/\Chg (λb=>b=c) W l:=by
 obtain⟨r,s,f⟩:=h.cells g;have t:=f (k*2);have u:=f (k*2+1);have i:=θ (h.setPos g (aJ L k-1));have m:Hid (TabIs W c a (L.set k (aC L k,aJ L k))):=by show TabIs _ _ _ _;rw[qN g];exact h
 unfold jH;clear h f;generalize aC L k=y at *;generalize aJ L k=z at *;by_cases d:x<z
 ·have n:decide (x<z)=true:=bc2 d;rw[bd0 d];clear d;go_in;go_wp2;go_quiet (fail);go_wp2;go_end0;exact⟨rfl,i.o,(Chg.refl.drewN _).setCell (S:=λb=>b=c) (c,k*2+1) (Ei rfl) _⟩
 ·have n:decide (x<z)=false:=bc0 d;rw[bc9 d];clear d i;go_in;go_wp2;go_quiet (fail);go_wp2;go_end0;exact⟨rfl,m.o,Chg.refl.drewN _⟩
def mvR(a b y:Int):Int:=if y=a then b else if b<=(if a<y then y-1 else y)then (if a<y then y-1 else y)+1 else (if a<y then y-1 else y)
def qY(a b:Int)(y:Int×Int):Int×Int:=(mvR a b y.1,y.2)
theorem Us{W:World}{d g D F k:Nat}{L:List (Int×Int)}{a b:Int}(h:TabIs W d g L)(q:k<L.length)(Y:W.cell? D=a)(w:W.cell? F=b)(na:D≠d)(nb:F≠d)(Z: -1<=aC L k)(a0:aC L k<=1000000000):Calls prog 171 #[.pointer (d,k*2), .pointer D, .pointer F] W λe O=>e= .returned (.tuple #[])/\TabIs O d g (L.set k (qY a b (aC L k,aJ L k)))/\Chg (λb=>b=d) W O:=by
 obtain⟨R,T,I⟩:=h.cells q;have U:=I (k*2);have HT:=θ h;have j:Hid (∀x,TabIs (W.setCell (d,k*2) (.int .i64 x)) d g (L.set k (x,aJ L k))):=λx=>h.setRow q x;have P:Hid (TabIs W d g (L.set k (aC L k,aJ L k))):=by show TabIs _ _ _ _;rw[qN q];exact h
 unfold qY;clear h I T;generalize aC L k=y at *;generalize aJ L k=z at *;by_cases r:y=a
 ·have V:(y==a)=true:=by simp[r]
  have e:mvR a b y=b:=by unfold mvR;rw[bd0 r]
  have m:=θ e;clear r e;go_in;go_wp2;go_quiet (fail);go_wp2_with fail
  (try simp only[Exit.inBlock,Exit.then]);refine bodyPost_ret (results_none rfl _ _ _) rfl ?_
  refine⟨rfl,?_,(Chg.refl.drewN _).setCell (S:=λb=>b=d) (d,k*2) (Ei rfl) _⟩;show TabIs _ _ _ (L.set k (mvR a b y,z));rw[m.o];exact j.o b
 ·have V:(y==a)=false:=by simp[r]
  have H:=θ r;clear r;by_cases s:a<y
  ·have X:decide (a<y)=true:=bc2 s;have Q:Hid (∀n,TabIs ((W.drewN n).setCell (d,k*2) (y-1:Int)) d g (L.set k (y-1,z))/\Chg (λb=>b=d) W ((W.drewN n).setCell (d,k*2) (y-1:Int))):=λn=>
    ⟨j.o (y-1),(Chg.refl.drewN _).setCell (S:=λb=>b=d) (d,k*2) (Ei rfl) _⟩
   have A:=θ w;have u:(if a<y then y-1 else y)=y-1:=bd0 s;have m:Hid (mvR a b y=if b<=y-1 then y else y-1):=by show _=_;unfold mvR;rw[bc9 H.o,u,show y-1+1=y by omega]
   clear s u;go_in;go_wp2;go_quiet (fail);obtain⟨K,rfl⟩:=Ez nq;go_wp2;go_quiet (fail);obtain⟨M,rfl⟩:=Ez nq;go_wp2_with fail;obtain⟨l,p⟩:=Q.o (K+M);generalize (W.drewN (K+M)).setCell (d,k*2) (y-1:Int)=W2 at *;obtain⟨q1,_,N⟩:=l.cells (k:=k) (by simpa using q);have q4:=N (k*2);have q2:=p.cell A.o nb;have v:TabIs (W2.setCell (d,k*2) y) d g (L.set k (y,z)):=by
    have :=l.setRow (k:=k) (by simpa using q) y;simpa[aJ,q]using this
   have B:=θ v;clear v;have C:=θ l;have t:=θ p;have J:aC (L.set k (y-1,z)) k=y-1:=by simp[aC,q]
   rw[J]at q1;clear N l p R U Y w J;by_cases i:b<=y-1
   ·have G:decide (b<=y-1)=true:=bc2 i;have c:=m.o;rw[bd0 i]at c;have f:=θ c;clear c i;go_quiet (fail);go_wp2;go_end0;refine⟨rfl,?_,t.o.trans ((Chg.refl.drewN _).setCell (S:=λb=>b=d) (d,k*2) (Ei rfl) _) (λb w=>Ei w)⟩;show TabIs _ _ _ (L.set k (mvR a b y,z));rw[f.o];exact B.o
   ·have G:decide (b<=y-1)=false:=bc0 i;have c:=m.o;rw[bc9 i]at c;have f:=θ c;clear c i;go_quiet (fail);go_wp2;go_end0;refine⟨rfl,?_,t.o.drewN _⟩;show TabIs _ _ _ (L.set k (mvR a b y,z));rw[f.o];exact C.o
  ·have X:decide (a<y)=false:=bc0 s;have u:(if a<y then y-1 else y)=y:=bc9 s;have m:Hid (mvR a b y=if b<=y then y+1 else y):=by show _=_;unfold mvR;rw[bc9 H.o,u]
   clear s u;by_cases i:b<=y
   ·have G:decide (b<=y)=true:=bc2 i;have c:=m.o;rw[bd0 i]at c;have f:=θ c;clear c i;go_in;go_wp2;go_quiet (fail);go_wp2;go_quiet (fail);go_wp2;go_quiet (fail);go_wp2;go_end0;refine⟨rfl,?_,(Chg.refl.drewN _).setCell (S:=λb=>b=d) (d,k*2) (Ei rfl) _⟩;show TabIs _ _ _ (L.set k (mvR a b y,z));rw[f.o];exact j.o (y+1)
   ·have G:decide (b<=y)=false:=bc0 i;have c:=m.o;rw[bc9 i]at c;have f:=θ c;clear c i;go_in;go_wp2;go_quiet (fail);go_wp2;go_quiet (fail);go_wp2;go_quiet (fail);go_wp2;go_end0;refine⟨rfl,?_,((Chg.refl.drewN _).drewN _).drewN _⟩;show TabIs _ _ _ (L.set k (mvR a b y,z));rw[f.o];exact P.o
theorem PmIn.setR {w:World}{p q:Nat}{d:Nat->Prop}{f g:Value}{m:Pm}(h:PmIn w p q d f g m)(r:Nat):PmIn (w.setCell (p,3) (.int .i64 (r:Int))) p q d f g ⟨m.A,m.L,m.O,r,m.N⟩:=by
 have c:Chg (λb=>b=p) w (w.setCell (p,3) (.int .i64 (r:Int))):=Chg.refl.setCell (S:=λb=>b=p) (p,3) (Ei rfl) _;exact⟨bc7 w p 3 _ _ _ h.hp,h.ar.chg c (λk a e=>h.d1 (by rw[<-e];exact a)),c.own h.tab (λk a e=>(h.d2 k a).1 e),c.own h.ord (λk a e=>(h.d3 k a).1 e),h.d1,h.d2,h.d3⟩
theorem PmIn.setN {w:World}{p q:Nat}{d:Nat->Prop}{f g:Value}{m:Pm}(h:PmIn w p q d f g m)(r:Nat):PmIn (w.setCell (p,4) (.int .i64 (r:Int))) p q d f g ⟨m.A,m.L,m.O,m.R,r⟩:=by
 have c:Chg (λb=>b=p) w (w.setCell (p,4) (.int .i64 (r:Int))):=Chg.refl.setCell (S:=λb=>b=p) (p,4) (Ei rfl) _;exact⟨bc7 w p 4 _ _ _ h.hp,h.ar.chg c (λk a e=>h.d1 (by rw[<-e];exact a)),c.own h.tab (λk a e=>(h.d2 k a).1 e),c.own h.ord (λk a e=>(h.d3 k a).1 e),h.d1,h.d2,h.d3⟩
theorem Ux{w:World}{p q:Nat}{B:Nat->Prop}{g M:Value}{m:Pm}(h:PmIn w p q B g M m)(t:m.Ok)(hl:m.L.length<=1000000000)(hr:m.R<=4000000000)(d:∀k∈m.O,-1<=aC m.L k/\aC m.L k<=1000000000)(x:Int)(h0:0<=x)(h1:x<=m.R):Calls prog 116 #[.pointer p,x] w λe T=>e= .returned (.int .i64 0)/\PmIn T p q B g M ⟨m.A,bV (lJ x) m.O m.L,m.O,m.R+1,m.N⟩/\Chg (λb=>b=p\/g.ownBlock=some b) w T:=by
 have n:=aB w (.cells #[x] 3);have r:(w.alloc (.cells #[x] 3)).cell? w=x:=ba9 _ _ _ _ rfl;have H:=h.below n;have i:Chg (λb=>b=p\/g.ownBlock=some b) w (w.alloc (.cells #[x] 3)):=Chg.refl.alloc _;have f:=h.lt;have s:=h.d2;have a2:p<w:=f p (Ei rfl);clear h n;have d1:decide (x<0)=false:=bc0 E;have d2:decide ((m.R:Int)<x)=false:=bc0 E;obtain⟨_,_,_,Z,_,P⟩:=H.cells;have c6:=P 3;have Y:=θ H;have v:=θ i;have z:=θ f;have V:=θ s;have U:=θ d;have a:=θ t;clear P H i f s d t;go_in;go_wp2;go_quiet (fail);go_wp2_with fail;have l:PmIn (((w.alloc (.cells #[x] 3)).drewN nq).setCell (p,3) ((m.R:Int)+1:Int)) p q B g M ⟨m.A,m.L,m.O,m.R+1,m.N⟩:=(Y.o.below (aW (aJ6 _ _) nq)).setR (m.R+1);have j:Chg (λb=>b=p\/g.ownBlock=some b) w (((w.alloc (.cells #[x] 3)).drewN nq).setCell (p,3) ((m.R:Int)+1:Int)):=(v.o.drewN nq).setCell (p,3) (Ei (Ei rfl)) _;have c:(((w.alloc (.cells #[x] 3)).drewN nq).setCell (p,3) ((m.R:Int)+1:Int)).cell? w=x:=
  ((Chg.refl.drewN nq).setCell (S:=λb=>b=p) (p,3) (Ei rfl) _).cell r (λe=>by have e:w.heap.size=p:=e;omega)
 generalize ((w.alloc (.cells #[x] 3)).drewN nq).setCell (p,3) ((m.R:Int)+1:Int)=w2 at *;have u:=kT l ⟨a.o.most,a.o.nd,a.o.iff,a.o.len⟩ hl (lJ x) 173 #[.pointer w] (enters_of func173 Ek rfl)
  (λD a0 K W L k hW hT G Q C ep=>by
   have a1:D<w:=z.o D (Ej (Ej (Ei (by rw[K];rfl))))
   have d:=U.o k Q
   have J:=a.o.lt Q
   have :=Pv hT (k:=k) (by rw[G];exact J) (hW.cell c (λe=>by have e:w.heap.size=D:=e;omega)) (by rw[C];exact d.1) (by rw[C];exact d.2)
   rw[C,ep]at this
   exact this)
 have X:=θ u;have y:=θ j;clear u j l c r Z c6;refine X.o.mono ?_;rintro e w3 ⟨rfl,I,F⟩;go_wp2;go_ret;exact⟨rfl,I,y.o.trans F (λb d=>Ei (Ej d))⟩
theorem Ut{w:World}{p q:Nat}{B:Nat->Prop}{g M:Value}{m:Pm}(h:PmIn w p q B g M m)(t:m.Ok)(hl:m.L.length<=1000000000)(hr:m.N<=4000000000)(d:∀k∈m.O,-1<=aJ m.L k/\aJ m.L k<=1000000000)(x:Int)(h0:0<=x)(h1:x<=m.N):Calls prog 117 #[.pointer p,x] w λe T=>e= .returned (.int .i64 0)/\PmIn T p q B g M ⟨m.A,bV (lI x) m.O m.L,m.O,m.R,m.N+1⟩/\Chg (λb=>b=p\/g.ownBlock=some b) w T:=by
 have n:=aB w (.cells #[x] 3);have r:(w.alloc (.cells #[x] 3)).cell? w=x:=ba9 _ _ _ _ rfl;have H:=h.below n;have i:Chg (λb=>b=p\/g.ownBlock=some b) w (w.alloc (.cells #[x] 3)):=Chg.refl.alloc _;have f:=h.lt;have s:=h.d2;have a2:p<w:=f p (Ei rfl);clear h n;have d1:decide (x<0)=false:=bc0 E;have d2:decide ((m.N:Int)<x)=false:=bc0 E;obtain⟨_,_,_,_,Z,P⟩:=H.cells;have c6:=P 4;have Y:=θ H;have v:=θ i;have z:=θ f;have V:=θ s;have U:=θ d;have a:=θ t;clear P H i f s d t;go_in;go_wp2;go_quiet (fail);go_wp2_with fail;have l:PmIn (((w.alloc (.cells #[x] 3)).drewN nq).setCell (p,4) ((m.N:Int)+1:Int)) p q B g M ⟨m.A,m.L,m.O,m.R,m.N+1⟩:=(Y.o.below (aW (aJ6 _ _) nq)).setN (m.N+1);have j:Chg (λb=>b=p\/g.ownBlock=some b) w (((w.alloc (.cells #[x] 3)).drewN nq).setCell (p,4) ((m.N:Int)+1:Int)):=(v.o.drewN nq).setCell (p,4) (Ei (Ei rfl)) _;have c:(((w.alloc (.cells #[x] 3)).drewN nq).setCell (p,4) ((m.N:Int)+1:Int)).cell? w=x:=
  ((Chg.refl.drewN nq).setCell (S:=λb=>b=p) (p,4) (Ei rfl) _).cell r (λe=>by have e:w.heap.size=p:=e;omega)
 generalize ((w.alloc (.cells #[x] 3)).drewN nq).setCell (p,4) ((m.N:Int)+1:Int)=w2 at *;have u:=kT l ⟨a.o.most,a.o.nd,a.o.iff,a.o.len⟩ hl (lI x) 174 #[.pointer w] (enters_of func174 Ek rfl)
  (λD a0 K W L k hW hT G Q er C=>by
   have a1:D<w:=z.o D (Ej (Ej (Ei (by rw[K];rfl))))
   have d:=U.o k Q
   have J:=a.o.lt Q
   have :=Ps hT (k:=k) (by rw[G];exact J) (hW.cell c (λe=>by have e:w.heap.size=D:=e;omega)) (by rw[C];exact d.1) (by rw[C];exact d.2)
   rw[er,C]at this
   exact this)
 have X:=θ u;have y:=θ j;clear u j l c r Z c6;refine X.o.mono ?_;rintro e w3 ⟨rfl,I,F⟩;go_wp2;go_ret;exact⟨rfl,I,y.o.trans F (λb d=>Ei (Ej d))⟩
def dY{α:Type}(l:List α)(k:Nat):List α:=l.take k++l.drop (k+1)
theorem kD{a:Type}{l:List a}{k:Nat}(h:k<l.length):(dY l k).length=l.length-1:=by simp[dY];omega
theorem Vr(a:Option Addr)(c:Nat)(l:List Int)(k:Nat)(b:Int)(w:World)(Y:ReadsV w a (l.map (Value.int .i64)))(hk:k<=l.length)(hc:l.length<=c)(a0:c<=maxLen)(hl:l.length<=1000000)(m:a=none->l.length=0/\c=0):Calls prog 72 #[.slice a l.length c,k,(.int .i64 b)] w (Xq w w (cN l k b)):=by
 have a4:=λ(w:World)=>jR (P:=prog) (w:=w) (t:=36) (a:=a) (len:=l.length) (cap:=c) (k:=k) ba0 Ek E;have a5:=λ(w:World)=>oL (P:=prog) (w:=w) (t:=36) (a:=a) (len:=l.length) (cap:=c) (k:=k) ba0 Ek E;have F:=θ (ap7 (k:=k) m);have S:Hid (a=none->k=0/\c=0):=λh=>by have :=m h;omega
 have O:ReadsV w a ((l.take k).map (Value.int .i64)):=by rw[aQ8];exact Y.take k
 have W:Hid (∀A,Below w w A->ReadsV A a ((l.take k).map (Value.int .i64))):=λA X=>O.below' X;have V:Hid (∀A,Below w w A->ReadsV A (gF a k c) ((l.drop k).map (Value.int .i64))):=λA X=>by rw[aQ5];exact(Y.below' X).drop (by simpa using hc)
 have J:=aB w (.cells #[] 3);have n:(w.alloc (.cells #[] 3)).ownsRow w 3 1 (.slice w 0 0) 0 []:=aq7 (aV3 _) (bc6 _ _);have HL:=θ hl;have T:=θ n;have v:=θ J;clear m Y O n J;go_in;go_wp2_with (at_builtin;refine dT rfl _ _ 36 rfl w 3 Tryz.infoIntG ba0 rfl _ 0 _ rfl T.o a k c ((l.take k).map (Value.int .i64)) rfl (by simp;omega) S.o (W.o _ v.o).hnews (tR .i64 _) (by unfold maxLen;omega) E v.o.size ?_);intro Z c1 y z i _;have K:Below w w y:=v.o.grown i v.o.size (λj N=>by simp[Value.ownBlock]at N;omega);have q:y.ownsRow w 3 1 (.slice Z k c1) k ((l.take k).map (Value.int .i64)):=by simpa using z
 have C:=θ K;have H:=θ q;clear z q i K;go_wp2_with fail;have Q:=C.o.drew.size;have f:Hid (Below w w (y.drew.alloc (.cells #[(.int .i64 b)] 3))):=C.o.drew.alloc Q _;have g:Hid ((y.drew.alloc (.cells #[(.int .i64 b)] 3)).ownsRow w 3 1 (.slice Z k c1) k ((l.take k).map (Value.int .i64))):=bb1 (w:=y.drew) H.o _;have D:Hid (∀p,some ((y,0):Addr)=some p->∀j u,[(Value.int .i64) b][j]? =some u->(y.drew.alloc (.cells #[(.int .i64 b)] 3)).cell? (p.add j)=some u):=
  (fP (xs:=[(.int .i64 b)]) (bc6 y.drew _)).hnews
 refine aG (λ_=>True) Ek trivial (λB=>?_);refine rV 0 1 4 5 B ?_;refine rt 6 B ?_;refine rg 2 λκ I=>?_;go_simp;refine I.out _ _ trivial ?_;intro B;try simp only[pt]
 refine rg 3 λκ I=>?_;refine Fa _ _ 36 rfl w 3 Tryz.infoIntG Tryz.underlying36 rfl _ k _ rfl g.o (some (y,0)) 1 1 [(.int .i64 b)] rfl rfl (λh=>by cases h) D.o (tR .i64 [b]) (by unfold maxLen;omega) E f.o.size ?_;intro a2 c2 w2 r d _;have L:Below w w w2:=f.o.grown d f.o.size (λj N=>(cH g.o N).1);have x:=θ L;have G:=θ r;clear r d L;refine I.out _ _ trivial ?_;intro B;try simp only[pt]
 refine rg 7 λκ I=>?_;refine Fa _ _ 36 rfl w 3 Tryz.infoIntG Tryz.underlying36 rfl _ (k+1) _ rfl G.o (gF a k c) (l.length-k) (c-k) ((l.drop k).map (Value.int .i64)) rfl Es F.o (V.o w2 (x.o)).hnews (tR .i64 _) (by unfold maxLen;omega) E x.o.size ?_;intro a3 c3 w3 s e _;have M:Below w w w3:=x.o.grown e x.o.size (λj N=>(cH G.o N).1);have R:=θ M;have U:=θ s;clear s e M;refine I.out _ _ trivial ?_;intro B;try simp only[pt]
 refine rt 8 B ?_;refine rz ?_;go_wp2;go_ret;refine⟨_,rfl,?_,R.o⟩;have :=U.o;rw[show (cN l k b).map (Value.int .i64)=(l.take k).map (Value.int .i64)++[(.int .i64 b)]++(l.drop k).map (Value.int .i64) by simp[cN]];rw[show (cN l k b).length=k+1+(l.length-k) by rw[mC hk];omega];exact this
theorem Tx{B:Nat}{w:World}{g n c i:Nat}{d:List Int}(h:w.ownsRow B 3 1 (.slice g n c) n (d.map (Value.int .i64)))(G:i<n):Calls prog 214 #[.slice g n c,i,((i+1:Nat):Int)] w λe v=>e= .returned (.slice g (n-1) c)/\v.ownsRow B 3 1 (.slice g (n-1) c) (n-1) ((dY d i).map (Value.int .i64))/\Chg (λb=>b=g) w v:=by
 have D:d.length=n:=by have :=h.1;simpa using this
 rcases h.2 with ⟨f,_⟩ | ⟨F,y,k,f,C,s,A,x,t,u⟩
 ·cases f
 ·injection f with l _ z
  injection l with l
  injection l with l _ _
  subst l;subst z;have m:∀j,j<n->k[j]? =(d.map (Value.int .i64))[j]? :=by
   intro j o;rw[<-u,aO6,bd0 E,aJ3]
  have r:=Tryz.slices_Delete_int_cells g 0 n c i (i+1) d w E A x E E (λj o=>by
   rw[aY0,bb8 w g j _ _ _ s,m j E,aO3,aO0 o]
   simp[o]) (λj o=>bc4 w g _ _ _ s)
  rw[show i+1-i=1 by omega]at r;refine r.mono ?_;rintro e v ⟨rfl,q,rfl⟩;have p:(d.take n).take i++(d.take n).drop (i+1)=dY d i:=by rw[show d.take n=d from aT9 E];rfl
  rw[p];have a:(dY d i).length=n-1:=by rw[kD E];omega
  refine⟨rfl,⟨by simp[a], .inr ⟨g,c,_,rfl,C,fB _ (w.drewN q) g 0 k _ s,E,x,by rw[gA];exact t,?_⟩⟩,fQ _ _ _ _ (Chg.refl.drewN q) (Ei rfl)⟩;apply aM9;intro j;rw[aO6];by_cases o:j<n-1
  ·rw[bd0 E,aJ3,mK _ _ _ _ (by simp[a];omega) E (by simp[a];omega),aX0,aQ2,aN6 (by simp[a];omega)]
  ·rw[bc9 E,aO1 (by simp[a];omega)]
def Pm.del (m:Pm)(i k:Nat):Pm:=⟨⟨m.A.T.set k false,m.A.F++[k],m.A.M⟩,m.L,dY m.O i,m.R,m.N⟩
theorem Hq{w:World}{p q:Nat}{N:Nat->Prop}{lv ov:Value}{m:Pm}(h:PmIn w p q N lv ov m)(t:m.Ok){i k:Nat}(hk:m.O[i]? =some k)(hl:m.O.length<=1000000000):Calls prog 166 #[.pointer (some ⟨p,0,none⟩), .int .i64 i] w λe B=>e= .returned (.tuple #[])/\∃d a7,PmIn B p q d lv a7 (m.del i k)/\Chg (pmS p N lv ov) w B/\∀j,pmS p d lv a7 j->pmS p N lv ov j\/w.heap.size<=j:=by
 have hi:i<m.O.length:=(aO2.1 hk).1;obtain⟨g,c,P,b7,k',rfl,rfl,y,c2,c1,_,_⟩:=h.pair t hi;rw[hk]at y;injection y with y
 subst y;obtain⟨e0,_,e2,_,_,e5⟩:=h.cells;obtain⟨n1,n2,n3⟩:=h.d3 g rfl;have hT:k<m.A.T.length:=(aO2.1 ((t.iff k).2 (aR5 hk))).1;have a3:k∉m.A.F:=λhm=>by
  have h1:=(h.ar.ok.iff k).2 hm;rw[(t.iff k).2 (aR5 hk)]at h1;cases h1
 have a1:=al2 h.ar.ok hT a3;have l:Hid (∀W,Chg N w W->W.cell? ⟨p,0,none⟩=some (.pointer (some ⟨q,0,none⟩))/\W.cell? ⟨p,2,none⟩=some (.slice (some ⟨g,0,none⟩) m.O.length c)/\W.cell? ⟨g,i,none⟩=some (.int .i64 (k:Int))):=
  λW hW=>⟨hW.cell e0 h.d1,hW.cell e2 h.d1,hW.cell c1 n2⟩
 have f:=tD (h.ar.chg (S':=λ_=>False) (w':=w.drew.alloc (.cells #[.int .i64 (k:Int)] 3)) (Chg.refl.drew.alloc _) (λ_ _ hf=>hf)) [(k:Int)] (some ⟨w.heap.size,0,none⟩) 1 (Zo [(k:Int)] w.drew) (λh=>by cases h)
  (λad b3 hs=>by cases b3;have :=h.ar.lt _ hs;exact absurd this (aV5 _)) Es Es
 rw[a1]at f;have r:=θ f;have u:=θ h;have b8:=θ t;have i0:(0:Int)<=(i:Int):=E;have i1:(i:Int)<(m.O.length:Int):=E;clear f a1 a3 hT e0 e2 e5 c1 h t hk;go_enter func166,ntmps166;go_upto_region 0 with fail
 refine aG (λB=>B.cell? ⟨p,0,none⟩=some (.pointer (some ⟨q,0,none⟩))/\B.cell? ⟨p,2,none⟩=some (.slice (some ⟨g,0,none⟩) m.O.length c)/\B.cell? ⟨g,i,none⟩=some (.int .i64 (k:Int))) Ek (l.out _ Chg.refl.drew) (λJ=>?_);refine rV 0 1 2 3 J ?_;refine rV 4 5 6 7 J ?_;refine rU 8 9 J ?_;refine rt 10 J ?_;refine rg 11 λκ hK=>?_;go_simp;refine hK.out _ _ (l.out _ (Chg.refl.drew.alloc _)) ?_;intro J;try simp only[pt]
 refine rg 12 λκ hK=>?_;go_simp;refine r.o.mono ?_;rintro e Q ⟨rfl,b5⟩;obtain⟨d,X,Y,Z⟩:=b5;have G:=θ Y;have a8:=θ X;have b2:=θ Z;clear Y X Z;go_wp2_with fail;refine hK.out _ _ (l.out _ ((Chg.refl.drew.alloc _).trans G.o (λb a=>Ei a))) ?_;intro J;try simp only[pt]
 refine rz ?_;have a6:=G.o.size;have c5:w.heap.size<=Q.heap.size:=by simp at a6;omega
 have x:Chg N w Q:=(Chg.refl.drew.alloc _).trans G.o (λb a=>Ei a);have c3:(Value.slice (some ⟨g,0,none⟩) m.O.length c).ownBlock=some g:=rfl;have D:=x.own u.o.ord (λb a e=>(u.o.d3 b a).2.1 e);have C:Calls prog 214 #[.slice (some ⟨g,0,none⟩) m.O.length c, .int .i64 (i:Int), .int .i64 ((i:Int)+1)] Q λe B=>e= .returned (.slice (some ⟨g,0,none⟩) (m.O.length-1) c)/\
   B.ownsRow 0 3 1 (.slice (some ⟨g,0,none⟩) (m.O.length-1) c) (m.O.length-1) ((dY (bX m.O) i).map (Value.int .i64))/\Chg (λb=>b=g) Q B:=by
  have L:Q.ownsRow 0 3 1 (.slice (some ⟨g,0,none⟩) m.O.length c) m.O.length ((bX m.O).map (Value.int .i64)):=by rw[<-fI];exact D
  exact Tx L hi
 have M:=x.heap u.o.hp u.o.d1;have V:=θ C;have U:=θ x;have b0:=θ M;obtain⟨e0,e2,_⟩:=J;have e5:=bc4 Q p 2 _ _ M;clear a6 x D C M e0 r l;go_wp2_with fail;refine V.o.mono ?_;rintro e R ⟨rfl,a4,I⟩;have z:=I.heap b0.o (λe=>n1 e.symm);have e6:=bc4 R p 2 _ _ z;have e7:R.cell? ⟨p,2,none⟩=some (.slice (some ⟨g,0,none⟩) m.O.length c):=by rw[bb8 R p 2 _ _ _ z];rfl
 have a9:=θ a4;have H:=θ I;have b1:=θ z;clear a4 I z e2 e5;go_wp2_with fail;go_end0;have a5:=bc7 R p 2 _ _ (.slice (some ⟨g,0,none⟩) (m.O.length-1) c) b1.o;have v:Chg (λb=>b=p) R (R.setCell ⟨p,2,none⟩ (.slice (some ⟨g,0,none⟩) (m.O.length-1) c)):=Chg.refl.setCell (S:=λb=>b=p) ⟨p,2,none⟩ (Ei rfl) _;have K:=u.o.lt;have n:∀j,d j->N j\/w.heap.size<=j:=λj s=>(b2.o j s).imp id (λh=>by simp at h;omega);have c0:P<w.heap.size:=K P (Ej (Ej (Ei rfl)));have c4:p<w.heap.size:=K p (Ei rfl);have b9:g<w.heap.size:=K g (Ej (Ej (Ej rfl)));have a0:=u.o.d2 P rfl;have a2:P≠g:=λe=>n3 (by rw[<-e];rfl);have np:¬d p:=λh=>(n p h).elim u.o.d1 (λh=>E);have ng:¬d g:=λh=>(n g h).elim n2 (λh=>E);have b6:¬d P:=λh=>(n P h).elim a0.2 (λh=>E);refine⟨rfl,d,_,⟨a5,(a8.o.chg H.o (λj s e=>ng (by rw[<-e];exact s))).chg v (λj s e=>np (by rw[<-e];exact s)),v.own (H.o.own (U.o.own u.o.tab (λb a e=>(u.o.d2 b a).2 e)) (λb a e=>by injection a with a;exact a2 (a.trans e))) (λb a e=>(u.o.d2 b a).1 e),?_,np,?_,?_⟩,?_,?_⟩
 ·have b4:(m.del i k).O.length=m.O.length-1:=by show (dY m.O i).length=_;rw[kD hi]
  have :=v.own a9.o (λb a e=>by injection a with a;exact n1 (a.trans e));have e:(m.del i k).O.map bP=(dY (bX m.O) i).map (Value.int .i64):=by
   show (dY m.O i).map bP=_;rw[fI];congr 1;simp[dY,bX,aQ8,aQ5]
  rw[e,b4];exact this
 ·intro b a;injection a with a
  subst a;exact⟨a0.1,b6⟩
 ·intro b a;injection a with a
  subst a;exact⟨n1,ng,n3⟩
 ·refine((U.o.mono (λb a=>Ej (Ei a))).trans H.o (λb a=>Ei (by rw[a];exact Ej (Ej (Ej rfl))))).trans v (λb a=>Ei (by rw[a];exact Ei rfl))
 ·rintro j (rfl | s | s | s)
  ·exact Ei (Ei rfl)
  ·exact(n j s).imp (λh=>Ej (Ei h)) id
  ·exact Ei (Ej (Ej (Ei s)))
  ·exact Ei (Ej (Ej (Ej s)))
def gL(L:List Int)(r:Int):Int:=if 0<=r then L[r.toNat]?.getD (-1)else -1
theorem dQ(L:List Int)(i:Nat):gL L i=L[i]?.getD (-1):=by unfold gL;rw[bd0 E,aK5]
theorem lK{L:List Int}{r:Int}(h:r<0):gL L r= -1:=by unfold gL;rw[bc9 E]
theorem aB0{L:List Int}{r:Int}(h:(L.length:Int)<=r):gL L r= -1:=by
 unfold gL;rw[bd0 E,aO1 E];rfl
theorem Cs{L:List Int}{r:Int}(h:gL L r≠ -1):∃i:Nat,r=i/\i<L.length:=by
 by_cases a:r<0
 ·exact absurd (lK a) h
 by_cases b:r<L.length
 ·exact⟨r.toNat,E,E⟩
 ·exact absurd (aB0 E) h
theorem gL_mem{L:List Int}{i:Nat}(h:i<L.length):gL L i∈L:=by rw[dQ,aO0 h];exact aP0 h
theorem Yz{L:List Int}{x:Nat}{v:Int}(d:x<=L.length)(r:Int):gL (cN L x v) r=if r<x then gL L r else if r=x then v else gL L (r-1):=by
 by_cases a:r<0
 ·rw[lK a,bd0 E,lK a]
 obtain⟨i,rfl⟩:=aK0 (Int.not_lt.1 a);rw[dQ,tM d];by_cases b:i<x
 ·rw[bd0 b,bd0 E,dQ]
 ·rw[bc9 b];by_cases c:i=x
  ·rw[bd0 c,bc9 E,bd0 E];rfl
  ·rw[bc9 c,bc9 E,bc9 E,show (i:Int)-1=((i-1:Nat):Int) by omega,dQ]
theorem Kr{L:List Int}{x:Nat}(d:x<L.length)(r:Int):gL (dY L x) r=if r<x then gL L r else gL L (r+1):=by
 by_cases a:r<0
 ·rw[lK a,bd0 E,lK a]
 obtain⟨i,rfl⟩:=aK0 (Int.not_lt.1 a);rw[dQ];unfold dY;rw[aN5];have c:(L.take x).length=x:=by simp;omega
 rw[c];by_cases b:i<x
 ·rw[bd0 b,bd0 E,dQ,aO6,bd0 b]
 ·rw[bc9 b,bc9 E,show (i:Int)+1=((i+1:Nat):Int) by omega,dQ,aN9];congr 2;omega
theorem Ct{L:List Int}{x:Nat}{v:Int}(c:x<L.length)(r:Int):gL (L.set x v) r=if r=x then v else gL L r:=by
 by_cases a:r<0
 ·rw[lK a,bc9 E,lK a]
 obtain⟨i,rfl⟩:=aK0 (Int.not_lt.1 a);rw[dQ,aO5];by_cases b:x=i
 ·rw[bd0 b,bd0 E,bd0 E];rfl
 ·rw[bc9 b,bc9 E,dQ]
theorem Za{L:List Int}(f:Int->Int)(b:f (-1)= -1)(r:Int):gL (L.map f) r=f (gL L r):=by
 by_cases a:r<0
 ·rw[lK a,lK a,b]
 obtain⟨i,rfl⟩:=aK0 (Int.not_lt.1 a);rw[dQ,dQ,aO3];cases L[i]? with
 | none=>exact b.symm
 | some v=>rfl
structure PVw0 (m:Pm) (L:List Int) (N:Nat):Prop where
 ok:m.Ok
 eR:m.R=L.length
 eN:m.N=N
 mem:∀r p:Int,(∃k∈m.O,aC m.L k=r/\aJ m.L k=p)↔(gL L r=p/\0<=p)
 rng:∀r,-1<=gL L r/\gL L r<N
 inj:∀r s,0<=gL L r->gL L r=gL L s->r=s
structure PVw (m:Pm) (L:List Int) (N:Nat):Prop extends PVw0 m L N where
 so:m.Sorted
section
variable {m:Pm}{L:List Int}{N:Nat}
theorem PVw0.row (h:PVw0 m L N){k:Nat}(c:k∈m.O):gL L (aC m.L k)=aJ m.L k/\0<=aJ m.L k/\aJ m.L k<N/\0<=aC m.L k/\aC m.L k<L.length:=by
 obtain⟨a,b⟩:=(h.mem _ _).1 ⟨k,c,rfl,rfl⟩;have d:=h.rng (aC m.L k);obtain⟨i,e,f⟩:=Cs (L:=L) (r:=aC m.L k) E;exact⟨a,b,E,E,E⟩
theorem PVw0.is (h:PVw0 m L N)(x:Int):m.is x=true↔0<=gL L x:=by
 unfold Pm.is;rw[aL0];constructor
 ·rintro⟨k,b,a⟩;have a:aC m.L k=x:=by simpa using a
  have :=h.row b;rw[a]at this;omega
 ·intro c;obtain⟨k,b,d,_⟩:=(h.mem x (gL L x)).2 ⟨rfl,c⟩;exact⟨k,b,by simp[d]⟩
theorem PVw.pos (h:PVw m L N)(x:Int):m.pos x=gL L x:=by
 unfold Pm.pos;by_cases a:m.is x=true
 ·rw[bd0 a];obtain⟨b,c⟩:=Pm.is_lt h.so a;have d:m.O[m.cnt x]?.getD 0∈m.O:=by rw[aO0 b];exact aP0 b
  have :=h.row d;rw[c]at this;exact this.1.symm
 ·rw[bc9 a];have :=h.rng x;rw[h.is]at a;omega
def aL(L:List Int)(x:Int):Int:=if x<0 then -1 else match L.findIdx? λy=>y==x with
 | some i=>(i:Int)
 | none=> -1
theorem sE(L:List Int)(x:Int):(∃i:Nat,aL L x=i/\i<L.length/\gL L i=x/\0<=x)\/(aL L x= -1/\(0<=x->∀r,gL L r≠x)):=by
 unfold aL;by_cases b:x<0
 ·rw[bd0 b];exact Ej ⟨rfl,λh=>E⟩
 ·rw[bc9 b];cases hf:L.findIdx? λy=>y==x with
  | none=>
   refine Ej ⟨rfl,λf r e=>?_⟩;obtain⟨i,rfl,d⟩:=Cs (L:=L) (r:=r) E;have :=List.findIdx?_eq_none_iff.1 hf _ (gL_mem d);simp[e]at this
  | some i=>
   obtain⟨a,c,_⟩:=List.findIdx?_eq_some_iff_getElem.1 hf;exact Ei ⟨i,rfl,a,by rw[dQ,aO0 a];simpa using c,E⟩
theorem PVw0.has (h:PVw0 m L N)(x:Int):(∃i k:Nat,m.has x=i/\m.O[i]? =some k/\aJ m.L k=x/\gL L (aC m.L k)=x/\0<=x)\/(m.has x= -1/\(0<=x->∀r,gL L r≠x)):=by
 unfold Pm.has;cases hf:m.O.findIdx? λk=>aJ m.L k==x with
 | none=>
  refine Ej ⟨rfl,λc r f=>?_⟩;obtain⟨k,e,_,a⟩:=(h.mem r x).2 ⟨f,c⟩;have :=List.findIdx?_eq_none_iff.1 hf _ e;simp[a]at this
 | some i=>
  obtain⟨b,a,_⟩:=List.findIdx?_eq_some_iff_getElem.1 hf;have a:aJ m.L m.O[i]=x:=by simpa using a
  have d:=h.row (aP0 b);exact Ei ⟨i,m.O[i],rfl,aO0 b,a,by rw[<-a];exact d.1,E⟩
theorem PVw0.rowv (h:PVw0 m L N)(x:Int):m.row x=aL L x:=by
 unfold Pm.row;rcases h.has x with ⟨i,k,c,d,n,g,l⟩ | ⟨c,d⟩
 ·rw[c,bc9 E,aK5,d,aY3];rcases sE L x with ⟨j,a,b,e,f⟩ | ⟨a,b⟩
  ·rw[a];exact h.inj _ _ E E
  ·exact absurd g (b l _)
 ·rw[c,bd0 E];rcases sE L x with ⟨j,a,b,e,f⟩ | ⟨a,b⟩
  ·exact absurd e (d f _)
  ·exact a.symm
theorem pX{f:Int×Int->Int×Int}{O:List Nat}{T:List (Int×Int)}{k:Nat}(a:k∈O)(b:k<T.length):aC (bV f O T) k=(f (aC T k,aJ T k)).1/\aJ (bV f O T) k=(f (aC T k,aJ T k)).2:=by
 have :=mZ (f:=f) (O:=O) b;rw[bd0 a]at this;constructor
 ·unfold aC;rw[this];rfl
 ·unfold aJ;rw[this];rfl
theorem PVw0.each (h:PVw0 m L N){f:Int×Int->Int×Int}{a:List Int}{u j:Nat}(x:u=a.length)(q:∀r p:Int,(∃i c,gL L i=c/\0<=c/\f (i,c)=(r,p))↔(gL a r=p/\0<=p))(t:∀r,-1<=gL a r/\gL a r<j)(o:∀r s,0<=gL a r->gL a r=gL a s->r=s):PVw0 ⟨m.A,bV f m.O m.L,m.O,u,j⟩ a j:=by
 refine⟨⟨h.ok.most,h.ok.nd,h.ok.iff,?_⟩,x,rfl,λr p=>?_,t,o⟩
 ·show m.A.T.length=(bV f m.O m.L).length;rw[dB];exact h.ok.len
 ·rw[<-q r p];constructor
  ·rintro⟨k,b,l,n⟩;obtain⟨d,e⟩:=pX (f:=f) b (h.ok.lt b);have g:=h.row b;refine⟨_,_,g.1,g.2.1,?_⟩;rw[<-l,<-n];show _=(aC (bV f m.O m.L) k,aJ (bV f m.O m.L) k);rw[d,e]
  ·rintro⟨i,c,l,n,g⟩;obtain⟨k,b,v,w⟩:=(h.mem i c).2 ⟨l,n⟩;obtain⟨d,e⟩:=pX (f:=f) b (h.ok.lt b);rw[v,w,g]at d e;exact⟨k,b,d,e⟩
theorem PVw.each (h:PVw m L N){f:Int×Int->Int×Int}{c:List Int}{t g:Nat}(x:t=c.length)(d:∀r e,0<=gL L r->0<=gL L e->r<e->(f (r,gL L r)).1<(f (e,gL L e)).1)(n:∀r p:Int,(∃u o,gL L u=o/\0<=o/\f (u,o)=(r,p))↔(gL c r=p/\0<=p))(q:∀r,-1<=gL c r/\gL c r<g)(l:∀r s,0<=gL c r->gL c r=gL c s->r=s):PVw ⟨m.A,bV f m.O m.L,m.O,t,g⟩ c g:=by
 refine⟨h.toPVw0.each x n q l,?_⟩;refine List.Pairwise.imp_of_mem ?_ h.so;intro a b i k j;have v:=h.row i;have w:=h.row k;show aC (bV f m.O m.L) a<aC (bV f m.O m.L) b;rw[(pX (f:=f) i (h.ok.lt i)).1,(pX (f:=f) k (h.ok.lt k)).1,<-v.1,<-w.1];exact d _ _ E E j
theorem PVw0.perm (h:PVw0 m L N){b:List Nat}(a:b.Perm m.O)(d:(Pm.mk m.A m.L b m.R m.N).Sorted):PVw ⟨m.A,m.L,b,m.R,m.N⟩ L N:=
 ⟨⟨⟨h.ok.most,a.nodup_iff.2 h.ok.nd,λk=>(h.ok.iff k).trans a.mem_iff.symm,h.ok.len⟩,h.eR,h.eN,λr p=>by
  rw[<-h.mem r p]
  exact⟨λ⟨k,c,x⟩=>⟨k,a.mem_iff.1 c,x⟩,λ⟨k,c,x⟩=>⟨k,a.mem_iff.2 c,x⟩⟩,h.rng,h.inj⟩,d⟩
theorem PVw.rowIn (h:PVw m L N){x:Nat}(j:x<=L.length):PVw ⟨m.A,bV (lJ x) m.O m.L,m.O,m.R+1,m.N⟩ (cN L x (-1)) N:=by
 have k:=h.eN;have e:=λr=>Yz (v:= -1) j r;rw[k];refine h.each (by rw[mC j,h.eR]) (λr q _ _ l=>?_) (λr p=>?_) (λr=>?_) (λr s b a=>?_)
 ·simp only[lJ];split<;>split<;>simp only[]<;>omega
 ·rw[e];constructor
  ·rintro⟨n,o,c,d,g⟩;simp only[lJ]at g;split at g
   ·injection g with f i
    (try simp only[]at f i)
    rw[bc9 E,bc9 E,show r-1=n by omega];omega
   ·injection g with f i
    (try simp only[]at f i)
    rw[bd0 E];subst f;omega
  ·rintro⟨c,d⟩;split at c
   ·exact⟨r,p,c,d,by simp only[lJ];rw[bc9 E]⟩
   ·split at c
    ·omega
    ·exact⟨r-1,p,c,d,by simp only[lJ];rw[bd0 E];congr 1;omega⟩
 ·rw[e];have c:=h.rng r;have d:=h.rng (r-1);split
  ·exact c
  ·split
   ·omega
   ·exact d
 ·rw[e]at b;rw[e,e]at a;split at b
  ·rw[bd0 ‹_›]at a;split at a
   ·exact h.inj _ _ b a
   ·split at a
    ·omega
    ·have :=h.inj _ _ b a;omega
  ·split at b
   ·omega
   ·rw[bc9 ‹_›,bc9 ‹_›]at a;split at a
    ·have :=h.inj _ _ b a;omega
    ·split at a
     ·omega
     ·have :=h.inj _ _ b a;omega
theorem PVw.rowOut (h:PVw m L N){x:Nat}(q:x<L.length)(c:gL L x<0){o:Nat}(y:o+1=m.R):PVw ⟨m.A,bV (kQ x) m.O m.L,m.O,o,m.N⟩ (dY L x) N:=by
 have u:=h.eN;have g:=λr=>Kr q r;have b:∀r,0<=gL L r->r≠x:=λr l e=>by rw[e]at l;omega
 rw[u];refine h.each (by rw[kD q,<-h.eR];omega) (λr w l n v=>?_) (λr p=>?_) (λr=>?_) (λr s d a=>?_)
 ·have :=b r l;have :=b w n;simp only[kQ];split<;>split<;>simp only[]<;>omega
 ·rw[g];constructor
  ·rintro⟨t,z,c,f,j⟩;have :=b t E;simp only[kQ]at j;split at j
   ·injection j with i k
    (try simp only[]at i k)
    rw[bc9 E,show r+1=t by omega];omega
   ·injection j with i k
    (try simp only[]at i k)
    rw[bd0 E];subst i;omega
  ·rintro⟨c,f⟩;split at c
   ·exact⟨r,p,c,f,by simp only[kQ];rw[bc9 E]⟩
   ·have :=b (r+1) E;exact⟨r+1,p,c,f,by simp only[kQ];rw[bd0 E];congr 1;omega⟩
 ·rw[g];have c:=h.rng r;have f:=h.rng (r+1);split
  ·exact c
  ·exact f
 ·rw[g]at d;rw[g,g]at a;split at d
  ·rw[bd0 ‹_›]at a;split at a
   ·exact h.inj _ _ d a
   ·have :=h.inj _ _ d a;omega
  ·rw[bc9 ‹_›]at a;split at a
   ·have :=h.inj _ _ d a;omega
   ·have :=h.inj _ _ d a;omega
def upP(x y:Int):Int:=if x<=y then y+1 else y
def dnP(x y:Int):Int:=if x<y then y-1 else y
theorem PVw.posIn (h:PVw m L N){x:Nat}(o:x<=N):PVw ⟨m.A,bV (lI x) m.O m.L,m.O,m.R,m.N+1⟩ (L.map (upP x)) (N+1):=by
 have j:=h.eN;have c:=λr=>Za (L:=L) (upP x) (by unfold upP;rw[bc9 E]) r;rw[j];refine h.each (by rw[aP7,h.eR]) (λr t n l k=>?_) (λr p=>?_) (λr=>?_) (λr s g e=>?_)
 ·simp only[lI];split<;>split<;>simp only[]<;>omega
 ·rw[c];constructor
  ·rintro⟨u,q,a,i,d⟩;simp only[lI]at d;split at d
   ·injection d with b f
    (try simp only[]at b f)
    subst b;unfold upP;rw[a,bd0 E];omega
   ·injection d with b f
    (try simp only[]at b f)
    subst b;unfold upP;rw[a,bc9 E];omega
  ·rintro⟨a,i⟩;have :=h.rng r;unfold upP at a;split at a
   ·exact⟨r,gL L r,rfl,E,by simp only[lI];rw[bd0 E];congr 1⟩
   ·exact⟨r,gL L r,rfl,E,by simp only[lI];rw[bc9 E];congr 1⟩
 ·rw[c];have a:=h.rng r;unfold upP;split<;>omega
 ·rw[c]at g;rw[c,c]at e;have a:=h.rng r;have i:=h.rng s;unfold upP at g e;refine h.inj r s ?_ ?_
  ·split at g<;>omega
  ·split at e<;>split at e<;>omega
theorem PVw.posOut (h:PVw m L N){x:Nat}(t:x<N)(c:∀r,gL L r≠x){N':Nat}(k:N'+1=N):PVw ⟨m.A,bV (jH x) m.O m.L,m.O,m.R,N'⟩ (L.map (dnP x)) N':=by
 have d:=λr=>Za (L:=L) (dnP x) (by unfold dnP;rw[bc9 E]) r;refine h.each (by rw[aP7,h.eR]) (λr v q n l=>?_) (λr p=>?_) (λr=>?_) (λr s i f=>?_)
 ·simp only[jH];split<;>split<;>simp only[]<;>omega
 ·rw[d];constructor
  ·rintro⟨o,u,a,j,e⟩;have :=c o;simp only[jH]at e;split at e
   ·injection e with b g
    (try simp only[]at b g)
    subst b;unfold dnP;rw[a,bd0 E];omega
   ·injection e with b g
    (try simp only[]at b g)
    subst b;unfold dnP;rw[a,bc9 E];omega
  ·rintro⟨a,j⟩;have :=h.rng r;have :=c r;unfold dnP at a;split at a
   ·exact⟨r,gL L r,rfl,E,by simp only[jH];rw[bd0 E];congr 1⟩
   ·exact⟨r,gL L r,rfl,E,by simp only[jH];rw[bc9 E];congr 1⟩
 ·rw[d];have a:=h.rng r;have :=c r;unfold dnP;split<;>omega
 ·rw[d]at i;rw[d,d]at f;have a:=h.rng r;have j:=h.rng s;have :=c r;have :=c s;unfold dnP at i f;refine h.inj r s ?_ ?_
  ·split at i<;>omega
  ·split at f<;>split at f<;>omega
def mvI(a b y:Int):Int:=if y=b then a else if a<=(if b<y then y-1 else y)then (if b<y then y-1 else y)+1 else (if b<y then y-1 else y)
theorem Sl(a b y:Int):mvI a b (mvR a b y)=y:=by
 unfold mvI mvR
 (repeat' split)<;>omega
theorem Uk(a b y:Int):mvR a b (mvI a b y)=y:=by
 unfold mvI mvR
 (repeat' split)<;>omega
def mvL(L:List Int)(a b:Nat):List Int:=cN (dY L a) b (gL L a)
theorem Sk{a b:Nat}(c:a<L.length)(d:b<L.length):(mvL L a b).length=L.length:=by unfold mvL;rw[mC (by rw[kD c];omega),kD c];omega
theorem gL_mv{a b:Nat}(c:a<L.length)(d:b<L.length)(r:Int):gL (mvL L a b) r=gL L (mvI a b r):=by
 unfold mvL;rw[Yz (by rw[kD c];omega),Kr c,Kr c];have e:mvI a b r=if r<b then (if r<a then r else r+1)else if r=b then (a:Int)else if r-1<a then r-1 else r:=by
  unfold mvI
  (repeat' split)<;>omega
 rw[e]
 (repeat' split)<;>first | rfl | (congr 1;omega)
theorem PVw0.move (h:PVw0 m L N){a b:Nat}(j:a<L.length)(k:b<L.length):PVw0 ⟨m.A,bV (qY a b) m.O m.L,m.O,m.R,m.N⟩ (mvL L a b) N:=by
 have o:=h.eN;have c:=λr=>gL_mv j k r;rw[o];refine h.each (by rw[Sk j k,h.eR]) (λr p=>?_) (λr=>?_) (λr s e l=>?_)
 ·rw[c];constructor
  ·rintro⟨t,q,f,g,i⟩;unfold qY at i;injection i with d n
   (try simp only[]at d n)
   rw[<-d,Sl];omega
  ·rintro⟨f,g⟩;exact⟨mvI a b r,p,f,g,by unfold qY;simp only[];rw[Uk]⟩
 ·rw[c];exact h.rng _
 ·rw[c]at e;rw[c,c]at l;have :=h.inj _ _ e l;rw[<-Uk a b r,this,Uk]
theorem ao5{d:Type}{l:List d}(o:l.Nodup){i:Nat}{k:d}(n:l[i]? =some k)(j:d):j∈dY l i↔j∈l/\j≠k:=by
 obtain⟨h,rfl⟩:=aO2.1 n;have e:l=l.take i++l[i]::l.drop (i+1):=by rw[<-aM5 h,aT6]
 have b:=o;rw[e]at b;rw[aS1,aS2]at b;obtain⟨_,⟨f,_⟩,g⟩:=b;constructor
 ·intro a;unfold dY at a;rw[aR0]at a;refine⟨?_,?_⟩
  ·rcases a with a | a
   ·exact aR7 a
   ·exact aR6 a
  ·rintro rfl;rcases a with a | a
   ·exact g _ a _ aR3 rfl
   ·exact f a
 ·rintro⟨a,c⟩;rw[e]at a;rw[aR0,aR1]at a;unfold dY;rw[aR0];rcases a with a | a | a
  ·exact Ei a
  ·exact absurd a c
  ·exact Ej a
theorem Lq{a:Type}(l:List a)(i:Nat):(dY l i).Sublist l:=by
 unfold dY;rw[<-List.eraseIdx_eq_take_drop_succ];exact List.eraseIdx_sublist _ _
theorem PVw.del (h:PVw m L N){i k:Nat}(D:m.O[i]? =some k):PVw (m.del i k) (L.set (aC m.L k).toNat (-1)) N:=by
 have d:=aR5 D;have I:=h.row d;obtain⟨x,H⟩:∃x:Nat,aC m.L k=x:=⟨(aC m.L k).toNat,E⟩;rw[H,aK5];have y:x<L.length:=E;have l:=λr=>Ct (v:= -1) y r;have G:k<m.A.T.length:=(aO2.1 ((h.ok.iff k).2 d)).1;have w:=λj=>ao5 h.ok.nd D j;refine⟨⟨⟨h.ok.most,h.ok.nd.sublist (Lq _ _),λj=>?_,?_⟩,?_,h.eN,λr p=>?_,λr=>?_,λr s t o=>?_⟩,h.so.sublist (Lq _ _)⟩
 ·show (m.A.T.set k false)[j]? =some true↔j∈dY m.O i;rw[w,aO5];by_cases e:k=j
  ·subst e;rw[bd0 rfl,bd0 G];simp
  ·rw[bc9 e,h.ok.iff j];exact⟨λq=>⟨q,λF=>e F.symm⟩,λq=>q.1⟩
 ·show (m.A.T.set k false).length=m.L.length;rw[aQ0];exact h.ok.len
 ·show m.R=_;rw[aQ0];exact h.eR
 ·rw[l];constructor
  ·rintro⟨j,u,f,g⟩;have c:=(w j).1 u;have n:=h.row c.1;have z:aC m.L j≠x:=by
    intro e;refine c.2 ?_;obtain⟨a,B,rfl⟩:=aP1 c.1;obtain⟨b,C,rfl⟩:=aP1 d;rcases aV9 a b with q | q | q
    ·have :=aS7.1 h.so a b B C q;omega
    ·subst q;rfl
    ·have :=aS7.1 h.so b a C B q;omega
   have f:aC m.L j=r:=f;have g:aJ m.L j=p:=g;rw[bc9 E,<-f,<-g];exact⟨n.1,n.2.1⟩
  ·rintro⟨f,g⟩;split at f
   ·omega
   ·obtain⟨j,u,n,z⟩:=(h.mem r p).2 ⟨f,g⟩;exact⟨j,(w j).2 ⟨u,λe=>by subst e;omega⟩,n,z⟩
 ·rw[l];have :=h.rng r;split
  ·omega
  ·exact this
 ·rw[l]at t;rw[l,l]at o;split at t
  ·omega
  ·rw[bc9 ‹_›]at o;split at o
   ·omega
   ·exact h.inj _ _ t o
theorem Dt(f:Nat->Int)(x:Int):∀{O:List Nat},O.Pairwise (λa b=>f a<f b)->(∀k∈O.take (O.countP λk=>decide (f k<x)),f k<x)/\(∀k∈O.drop (O.countP λk=>decide (f k<x)),x<=f k)
 | [],_=>⟨λk c=>by simp at c,λk c=>by simp at c⟩
 | a::O,hp=>by
  rw[aS6]at hp;obtain⟨h,i⟩:=Dt f x hp.2;rw[aL7];by_cases d:f a<x
  ·rw[bc2 d];simp only[bd1,List.take_succ_cons,List.drop_succ_cons,aR1];exact⟨λk c=>c.elim (λe=>by rw[e];exact d) (h k),i⟩
  ·have g:O.countP (λk=>decide (f k<x))=0:=by
    rw[aL8];intro k c;have :=hp.1 k c;simp;omega
   rw[bc0 d,g];simp only[Bool.false_eq_true,bc8,aU7,aU2,bi7];refine⟨λk c=>by simp at c,λk c=>?_⟩;rcases aR1.1 c with e | e
   ·rw[e];omega
   ·have :=hp.1 k e;omega
theorem PVw.add (h:PVw m L N){x p k:Nat}(P:x<L.length)(U:p<N)(Q:gL L x<0)(D:∀r,gL L r≠p){A':Ar}{T':List (Int×Int)}(I:A'.M=m.A.M)(H:∀j,A'.T[j]? =some true↔j∈m.O\/j=k)(K:A'.T.length=T'.length)(J:k∉m.O)(c:∀j∈m.O,aC T' j=aC m.L j/\aJ T' j=aJ m.L j)(F:aC T' k=x)(V:aJ T' k=p):PVw ⟨A',T',cN m.O (m.cnt x) k,m.R,m.N⟩ (L.set x (p:Int)) N:=by
 have w:=λr=>Ct (v:=(p:Int)) P r;have S:m.cnt x<=m.O.length:=aL9;have d:∀j,j∈cN m.O (m.cnt x) k↔j=k\/j∈m.O:=λj=>by rw[(vZ m.O (m.cnt x) k).mem_iff,aR1]
 have y:=Dt (aC m.L) x h.so;have o:∀j∈m.O,aC m.L j≠x:=λj g e=>by have :=h.row g;rw[e]at this;omega
 refine⟨⟨⟨by rw[<-h.ok.most];exact I,?_,λj=>?_,K⟩,?_,h.eN,λr q=>?_,λr=>?_,λr s B c=>?_⟩,?_⟩
 ·exact(vZ m.O (m.cnt x) k).nodup_iff.2 (aS2.2 ⟨J,h.ok.nd⟩)
 ·rw[H,d,Or.comm]
 ·show m.R=_;rw[aQ0];exact h.eR
 ·rw[w];constructor
  ·rintro⟨j,g,i,l⟩;rw[d]at g;rcases g with rfl | g
   ·have i:aC T' j=r:=i;have l:aJ T' j=q:=l;rw[bd0 E];omega
   ·have i:aC T' j=r:=i;have l:aJ T' j=q:=l;rw[(c j g).1]at i;rw[(c j g).2]at l;have :=o j g;have z:=h.row g;rw[bc9 E,<-i,<-l];exact⟨z.1,z.2.1⟩
  ·rintro⟨i,l⟩;split at i
   ·exact⟨k,(d k).2 (Ei rfl),by show aC T' k=r;omega,by show aJ T' k=q;omega⟩
   ·obtain⟨j,g,z,G⟩:=(h.mem r q).2 ⟨i,l⟩;exact⟨j,(d j).2 (Ej g),(c j g).1.trans z,(c j g).2.trans G⟩
 ·rw[w];have :=h.rng r;split
  ·omega
  ·exact this
 ·rw[w]at B;rw[w,w]at c;split at B
  ·rw[bd0 ‹_›]at c;split at c
   ·omega
   ·exact absurd c.symm (D s)
  ·rw[bc9 ‹_›]at c;split at c
   ·exact absurd c (D r)
   ·exact h.inj _ _ B c
 ·show (cN m.O (m.cnt x) k).Pairwise λa b=>aC T' a<aC T' b;have f:m.O.Pairwise λa b=>aC T' a<aC T' b:=List.Pairwise.imp_of_mem (λ{a b} t n C=>by rw[(c a t).1,(c b n).1];exact C) h.so;unfold cN;rw[List.pairwise_append,aS6];rw[<-aT6 (m.cnt x) m.O,List.pairwise_append]at f;refine⟨f.1,⟨λb n=>?_,f.2.1⟩,λa t b n=>?_⟩
  ·have u:=aR6 n;have :=y.2 b n;have :=o b u;rw[F,(c b u).1];omega
  ·rcases aR1.1 n with rfl | n
   ·have :=y.1 a t;rw[F,(c a (aR7 t)).1];omega
   ·exact f.2.2 a t b n
end
def PmV(S:Nat->Prop)(w:World)(p c:Nat)(L:List Int)(N:Nat):Prop:=∃q SA lv ov m,PmIn w p q SA lv ov m/\PVw m L N/\m.L.length<=c/\∀k,pmS p SA lv ov k->S k
structure PmStep (S:Nat->Prop) (w w':World) (p c:Nat) (L:List Int) (N:Nat):Prop where
 pv:PmV (λk=>S k\/(w<=k/\k<w')) w' p c L N
 chg:Chg S w w'
section
variable {S:Nat->Prop}{w w':World}{p c:Nat}{L:List Int}{N:Nat}
theorem PmV.mono {S':Nat->Prop}(h:PmV S w p c L N)(i:∀k,S k->S' k):PmV S' w p c L N:=by
 obtain⟨q,a,j,l,m,b,d,e,f⟩:=h;exact⟨q,a,j,l,m,b,d,e,λk g=>i k (f k g)⟩
theorem PmV.more {a:Nat}(h:PmV S w p c L N)(k:c<=a):PmV S w p a L N:=by
 obtain⟨q,b,g,i,m,d,e,j,f⟩:=h;exact⟨q,b,g,i,m,d,e,E,f⟩
theorem PmV.chg {S':Nat->Prop}(h:PmV S w p c L N)(g:Chg S' w w')(i:∀k,S k->¬S' k):PmV S w' p c L N:=by
 obtain⟨q,b,l,n,m,d,e,f,a⟩:=h;exact⟨q,b,l,n,m,d.chg g (λk j=>i k (a k j)),e,f,a⟩
theorem PmV.below (h:PmV S w p c L N)(g:Below w w w'):PmV S w' p c L N:=by
 obtain⟨q,a,i,j,m,b,d,e,f⟩:=h;exact⟨q,a,i,j,m,b.below g,d,e,f⟩
theorem PmStep.of {q:Nat}{a:Nat->Prop}{b d:Value}{m:Pm}(e:PmIn w' p q a b d m)(j:PVw m L N)(l:m.L.length<=c)(i:∀k,pmS p a b d k->S k\/w.heap.size<=k)(g:Chg S w w'):PmStep S w w' p c L N:=
 ⟨⟨q,a,b,d,m,e,j,l,λk f=>(i k f).imp id (λh=>⟨h,e.lt k f⟩)⟩,g⟩
theorem PmStep.own {B:Nat}(h:PmStep (λk=>B<=k) w w' p c L N)(a:B<=w):PmV (λk=>B<=k) w' p c L N/\Below B w w':=
 ⟨h.pv.mono (λk e=>E),h.chg.below (λb d=>d) a⟩
end
def mR(L:List Int)(x:Int):List Int:=if 0<=gL L x then L.set x.toNat (-1)else L
theorem aE1{S:Nat->Prop}{w:World}{p c:Nat}{L:List Int}{N:Nat}(h:PmV S w p c L N)(hc:c<=1000000)(x:Int):Calls prog 163 #[.pointer p,x] w λe w'=>e= .returned (if 0<=gL L x then 0 else 7:Int)/\PmStep S w w' p c (mR L x) N:=by
 obtain⟨q,SA,lv,ov,m,K,d,D,A⟩:=h;have a:=yU K d.ok d.so E x;by_cases r:0<=gL L x
 ·have t:m.is x=true:=(d.is x).2 r;obtain⟨P,g⟩:=Pm.is_lt d.so t;obtain⟨k,F⟩:∃k,m.O[m.cnt x]? =some k:=⟨_,aO0 P⟩;rw[F,aY3]at g;have f:=d.del F;rw[g]at f;have e:mR L x=L.set x.toNat (-1):=bd0 r;rw[bd0 r,e];rw[t]at a;have W:=d.ok.olen;have s:=θ a;have H:=θ d.ok;have v:=θ f;have T:=θ F;clear a d f e r t g K F;generalize m.cnt x=i at *;go_in;go_wp2_with fail;refine s.o.mono ?_;rintro e Z ⟨rfl,n,l⟩;have Q:=Hq n H.o T.o E;have R:=θ Q;have u:=θ l;clear Q n l;go_wp2_with fail;refine R.o.mono ?_;rintro e w2 ⟨rfl,V,Y,z,y,B⟩;have I:=θ z;have G:=θ y;have J:=θ B;clear z y B;go_wp2;go_ret;have X:=u.o.size;exact⟨rfl,PmStep.of I.o v.o D (λj M=>(J.o j M).imp (A j) (λh=>E)) ((u.o.mono (λb C=>A b (Ej (Ej (Ej C))))).trans (G.o.mono A) (λb C=>Ei C))⟩
 ·have t:m.is x=false:=by rw[<-aJ9,d.is];exact r
  have e:mR L x=L:=bc9 r;rw[bc9 r,e];rw[t]at a;have s:=θ a;have U:=θ d;clear a d e r t K;generalize m.cnt x=i at *;go_in;go_wp2_with fail;refine s.o.mono ?_;rintro e Z ⟨rfl,n,l⟩;go_wp2;go_ret;exact⟨rfl,PmStep.of n U.o D (λj M=>Ei (A j M)) (l.mono (λb C=>A b (Ej (Ej (Ej C)))))⟩
theorem aq2{a:Type}(l:List a)(x:Nat)(v:a):dY (l.set x v) x=dY l x:=by
 unfold dY;rw[List.take_set_of_le (aV3 _),List.drop_set_of_lt E]
theorem ar5{S:Nat->Prop}{w:World}{p c:Nat}{L:List Int}{N:Nat}(h:PmV S w p c L N)(y:c<=1000000)(u:L.length<=1000000)(x:Nat)(s:x<=L.length):Calls prog 116 #[.pointer p,x] w λe w'=>e= .returned (.int .i64 0)/\PmStep S w w' p c (cN L x (-1)) N:=by
 obtain⟨q,t,z,A,m,l,a,f,g⟩:=h;have v:=a.eR;refine(Ux l a.ok E E (λk r=>by have :=a.row r;omega) x E E).mono ?_;rintro e w' ⟨rfl,d,i⟩;exact⟨rfl,PmStep.of d (a.rowIn s) (by show (bV _ _ _).length<=c;rw[dB];exact f) (λj o=>Ei (g j o)) (i.mono (λb n=>g b (n.elim Ei (λh=>Ej (Ej (Ei h))))))⟩
theorem ar2{S:Nat->Prop}{w:World}{p c:Nat}{L:List Int}{N:Nat}(h:PmV S w p c L N)(y:c<=1000000)(u:N<=1000000)(x:Nat)(s:x<=N):Calls prog 117 #[.pointer p,x] w λe w'=>e= .returned (.int .i64 0)/\PmStep S w w' p c (L.map (upP x)) (N+1):=by
 obtain⟨q,t,z,A,m,l,a,f,g⟩:=h;have v:=a.eN;refine(Ut l a.ok E E (λk r=>by have :=a.row r;omega) x E E).mono ?_;rintro e w' ⟨rfl,d,i⟩;exact⟨rfl,PmStep.of d (a.posIn s) (by show (bV _ _ _).length<=c;rw[dB];exact f) (λj o=>Ei (g j o)) (i.mono (λb n=>g b (n.elim Ei (λh=>Ej (Ej (Ei h))))))⟩
theorem ab5{S:Nat->Prop}{w:World}{p c:Nat}{L:List Int}{N:Nat}(h:PmV S w p c L N)(hc:c<=1000000)(hL:L.length<=1000000)(x:Nat)(hx:x<L.length):Calls prog 106 #[.pointer (some ⟨p,0,none⟩), .int .i64 x] w λe w'=>e= .returned (.int .i64 0)/\PmStep S w w' p c (dY L x) N:=by
 obtain⟨q,D,F,G,m,z,hV,b6,hS⟩:=h;have Y:=aB w (.cells #[.int .i64 (x:Int)] 3);have Z:(w.alloc (.cells #[.int .i64 (x:Int)] 3)).cell? ⟨w.heap.size,0,none⟩=some (.int .i64 (x:Int)):=ba9 _ _ _ _ rfl;have hP:=z.below Y;have P:Chg (pmS p D F G) w (w.alloc (.cells #[.int .i64 (x:Int)] 3)):=Chg.refl.alloc _;have C:=z.lt;have hR:=hV.eR;have d1:decide ((x:Int)<0)=false:=bc0 E;have d2:decide (m.R<=x)=false:=bc0 E;have f:∀n,Calls prog 163 #[.pointer (some ⟨p,0,none⟩), .int .i64 (x:Int)] ((w.alloc (.cells #[.int .i64 (x:Int)] 3)).drewN n) λe w'=>e= .returned (.int .i64 (if 0<=gL L x then 0 else 7))/\PmStep (pmS p D F G) ((w.alloc (.cells #[.int .i64 (x:Int)] 3)).drewN n) w' p c (mR L x) N:=
  λn=>aE1 ⟨q,D,F,G,m,hP.below (aW (aJ6 _ _) n),hV,b6,λ_ h=>h⟩ hc x
 have e1:gL (mR L x) x<0:=by
  unfold mR;by_cases M:0<=gL L x
  ·rw[bd0 M,aK5,Ct hx,bd0 rfl];omega
  ·rw[bc9 M];omega
 have e2:dY (mR L x) x=dY L x:=by
  unfold mR;by_cases M:0<=gL L x
  ·rw[bd0 M,aK5,aq2]
  ·rw[bc9 M]
 have e3:(mR L x).length=L.length:=by
  unfold mR;split
  ·rw[aQ0]
  ·rfl
 obtain⟨_,_,_,c3,_,c5⟩:=hP.cells;have a3:=θ P;have H:=θ C;have HV:=θ hV;have u:=θ f;have a6:=θ e1;have a7:=θ e2;have g:=θ e3;have HR:=θ hR;have c0:p<w.heap.size:=C p (Ei rfl);clear c5 hP z P C hV f e1 e2 e3 Y hR;generalize (if 0<=gL L x then (0:Int)else 7)=code at *;go_enter func106,ntmps106;go_wp2_with fail;go_quiet (fail);obtain⟨n1,rfl⟩:∃n1,n1=nq:=⟨_,rfl⟩;go_wp2_with fail;refine(u.o n1).mono ?_;rintro e w1 ⟨rfl,l⟩;have s:=l.chg.cell (p:=⟨w.heap.size,0,none⟩) Z (λh=>by have :=H.o _ h;exact absurd this (aV5 _));have Q:Chg (pmS p D F G) w w1:=(a3.o.drewN n1).trans l.chg (λb hb=>Ei hb);obtain⟨q1,K,a1,a2,d,B,i,b4,X⟩:=l.pv;obtain⟨_,_,_,c3,_,c5⟩:=B.cells;have c6:=c5 3;obtain⟨J,V⟩:∃J:Nat,J+1=d.R:=⟨d.R-1,by have :=i.eR;have :=g.o;omega⟩;have r:∀k,pmS p K a1 a2 k->k≠w.heap.size/\(pmS p D F G k\/w.heap.size<=k):=λk hk=>by
  rcases X k hk with h | h
  ·exact⟨λe=>by have :=H.o k h;omega,Ei h⟩
  ·have h1:=h.1;simp at h1;exact⟨E,Ej E⟩
 have a4:=θ Q;have a8:=θ B;have y:=θ i;have v:=θ r;have I:=θ V;have b8:d.R<=1000000:=by have :=i.eR;have :=g.o;omega
 have b7:(1:Int)<=(d.R:Int):=E;clear l Q B i X r c5 V;go_wp2_with fail;have U:PmIn (w1.setCell ⟨p,3,none⟩ (.int .i64 ((d.R:Int)-1))) p q1 K a1 a2 ⟨d.A,d.L,d.O,J,d.N⟩:=by
  have :=a8.o.setR J;rw[show ((d.R:Int)-1)=(J:Int) by have :=I.o;omega];exact this
 have T:Chg (pmS p D F G) w (w1.setCell ⟨p,3,none⟩ (.int .i64 ((d.R:Int)-1))):=a4.o.setCell ⟨p,3,none⟩ (Ei (Ei rfl)) _;have t:(w1.setCell ⟨p,3,none⟩ (.int .i64 ((d.R:Int)-1))).cell? ⟨w.heap.size,0,none⟩=some (.int .i64 (x:Int)):=
  (Chg.refl.setCell (S:=λb=>b=p) ⟨p,3,none⟩ (Ei rfl) _).cell s (λe=>by have e:w.heap.size=p:=e;omega)
 generalize w1.setCell ⟨p,3,none⟩ (.int .i64 ((d.R:Int)-1))=w2 at *;have a:=y.o.ok;have a0:=kT U ⟨a.most,a.nd,a.iff,a.len⟩ (by show d.L.length<=_;omega) (kQ x) 165 #[.pointer (some ⟨w.heap.size,0,none⟩)] (enters_of func165 Ek rfl)
  (λgl b9 b5 W L k hW hT b0 hk er ep=>by
   have b2:=(v.o gl (Ej (Ej (Ei (by rw[b5];rfl))))).1
   have hb:=y.o.row hk
   have b3:=a.lt hk
   have :=Lx hT (k:=k) (by rw[b0];exact b3) (hW.cell t (λe=>b2 e.symm)) (by rw[er];show -1<=aC d.L k;omega) (by rw[er];show aC d.L k<=_;have :=g.o;omega)
   rw[er,ep]at this
   exact this)
 have HK:=θ a0;have a5:=θ T;clear a0 T U t s Z c3 c6 a;refine HK.o.mono ?_;rintro e w3 ⟨rfl,b1,a9⟩;go_wp2_with fail;go_ret;have hv:=y.o.rowOut (x:=x) (by have :=g.o;omega) a6.o I.o;rw[a7.o]at hv;refine⟨rfl,PmStep.of b1 hv (by show (bV _ _ _).length<=c;rw[dB];exact b4) (λj hj=>(v.o j hj).2.imp (hS j) id) ((a5.o.mono hS).trans a9 (λb hb=>?_))⟩;exact(v.o b (Ej (Ej (Ei hb)))).2.imp (hS b) id
def oK(x y:Int):Int:=if y=x then -1 else if x<y then y-1 else y
theorem aD6{L:List Int}{x:Int}(h:∀r,gL L r≠x):L.map (dnP x)=L.map (oK x):=by
 apply aQ3;intro y b;obtain⟨i,a,rfl⟩:=aP1 b;have :=h i;rw[dQ,aO0 a]at this;unfold dnP oK;rw[bc9 (c:=L[i]=x) this]
theorem aq4{L:List Int}{x:Nat}{r:Nat}(k:r<L.length)(h:gL L r=x)(f:∀r s,0<=gL L r->gL L r=gL L s->r=s):(L.set r (-1)).map (dnP x)=L.map (oK x):=by
 apply aM8 Es;intro i g d;have a:i<L.length:=by simpa using d
 simp only[aO9,List.getElem_set];by_cases e:r=i
 ·subst e;rw[dQ,aO0 a]at h;have h:L[r]=(x:Int):=h;rw[bd0 rfl,h];unfold dnP oK;rw[bd0 rfl,bc9 E]
 ·rw[bc9 e];have b:L[i]≠(x:Int):=by
   intro q;have j:gL L i=x:=by rw[dQ,aO0 a];exact q
   have :=f r i E E;omega
  unfold dnP oK;rw[bc9 (c:=L[i]=(x:Int)) b]
theorem ab3{S:Nat->Prop}{w:World}{p c:Nat}{L:List Int}{N:Nat}(h:PmV S w p c L N)(hc:c<=1000000)(hN:N<=1000000)(x:Nat)(hx:x<N):Calls prog 107 #[.pointer p,x] w λe w'=>e= .returned (.int .i64 0)/\PmStep S w w' p c (L.map (oK x)) (N-1):=by
 obtain⟨q,SA,K,ov,m,c2,hV,e8,hS⟩:=h;have e7:=aB w (.cells #[(x:Int)] 3);have a8:(w.alloc (.cells #[(x:Int)] 3)).cell? w=some (.int .i64 (x:Int)):=ba9 _ _ _ _ rfl;have hP:=c2.below e7;have e0:Chg (pmS p SA K ov) w (w.alloc (.cells #[(x:Int)] 3)):=Chg.refl.alloc _;have d0:=c2.lt;have e2:=hV.eN;have d1:decide ((x:Int)<0)=false:=bc0 E;have d2:decide (m.N<=x)=false:=bc0 E;have c4:=hV.has x;have b0:∀n,Calls prog 97 #[.pointer p,(x:Int)] ((w.alloc (.cells #[(x:Int)] 3)).drewN n) λe w'=>e= .returned (m.has x:Int)/\Below ((w.alloc (.cells #[(x:Int)] 3)).drewN n).heap.size ((w.alloc (.cells #[(x:Int)] 3)).drewN n) w':=
  λn=>tU (hP.below (aW (aJ6 _ _) n)) hV.ok E x
 have e3:∀n,PmIn ((w.alloc (.cells #[(x:Int)] 3)).drewN n) p q SA K ov m:=λn=>hP.below (aW (aJ6 _ _) n);have d8:=θ e3;obtain⟨_,_,_,_,c3,c5⟩:=hP.cells;have d5:=θ e0;have b8:=θ d0;have HV:=θ hV;have I:=θ b0;have f1:=θ e2;have f4:p<w:=d0 p (Ei rfl);have f3:=hV.ok.olen;clear c5 hP c2 e0 d0 hV b0 e7 e3 e2;rcases c4 with ⟨i,k,a1,a2,a3,a4,a5⟩ | ⟨a1,a2⟩
 ·have b1:=HV.o.row (aR5 a2);obtain⟨r,hr⟩:∃r:Nat,aC m.L k=r:=⟨(aC m.L k).toNat,E⟩;rw[a1]at I;have HK:=θ a2;have a0:=HV.o.del a2;rw[hr,aK5]at a0;rw[hr]at b1 a4;have e1:∀s,gL (L.set r (-1)) s≠x:=λs=>by
   rw[Ct E];split
   ·omega
   ·intro q;have :=HV.o.inj r s E E;omega
  have B:=aq4 E a4 HV.o.inj;have d7:=θ a0;have b6:=θ e1;have M:=θ B;have f2:i<m.O.length:=(aO2.1 a2).1;have d3:decide (0<=(i:Int))=true:=bc2 E;clear a1 a2 a3 a4 a5 hr b1 a0 e1 B;go_in;go_wp2;go_quiet (fail);obtain⟨n1,rfl⟩:=Ez nq;go_wp2_with fail;refine(I.o n1).mono ?_;rintro e w0 ⟨rfl,l⟩;have J:=l.cell (p:=(w,0)) Es;have J:=J.trans a8;have hg:=Hq ((d8.o n1).below l) HV.o.ok HK.o E;have HG:=θ hg;have b2:=l.size;have d9:=θ b2;have a9:Chg (pmS p SA K ov) w w0:=(d5.o.drewN n1).trans (Chg.of_below (S:=λ_=>False) l) (λ_ hf=>hf.elim);have d6:=θ a9;clear hg b2 l a9;go_wp2_with fail;refine HG.o.mono ?_;rintro e w1 ⟨rfl,D,H,t,U,e6⟩;have g:=U.cell (p:=(w,0)) J (λh=>by have :=b8.o _ h;exact absurd this (aV5 _));have T:Chg (pmS p SA K ov) w w1:=d6.o.trans U (λb hb=>Ei hb);obtain⟨d,G⟩:∃d,d=m.del i k:=⟨_,rfl⟩;have f:=d7.o;rw[<-G]at t f;have c9:d.L.length<=c:=by rw[G];exact e8
  have y:∀k,pmS p D K H k->k≠w.heap.size/\(pmS p SA K ov k\/w.heap.size<=k):=λk hk=>by
   rcases e6 k hk with h | h
   ·exact⟨λe=>by have :=b8.o k h;omega,Ei h⟩
   ·have h1:=d9.o;simp at h1;exact⟨E,Ej E⟩
  have HL:=b6.o;clear U e6 G J;obtain⟨_,_,_,_,c3,c5⟩:=t.cells;have c6:=c5 4;obtain⟨v,F⟩:∃v:Nat,v+1=d.N:=⟨d.N-1,by have :=f.eN;omega⟩;have b3:=θ T;have b9:=θ t;have u:=θ f;have C:=θ y;have P:=θ F;have b7:=θ HL;have e5:d.N<=1000000:=by have :=f.eN;omega
  have e4:(1:Int)<=(d.N:Int):=E;clear T t f y c5 F HL;go_wp2_with fail;have X:PmIn (w1.setCell (p,4) ((d.N:Int)-1:Int)) p q D K H ⟨d.A,d.L,d.O,d.R,v⟩:=by
   have :=b9.o.setN v;rw[show ((d.N:Int)-1)=(v:Int) by have :=P.o;omega];exact this
  have V:Chg (pmS p SA K ov) w (w1.setCell (p,4) ((d.N:Int)-1:Int)):=b3.o.setCell (p,4) (Ei (Ei rfl)) _;have z:(w1.setCell (p,4) ((d.N:Int)-1:Int)).cell? w=some (.int .i64 (x:Int)):=
   (Chg.refl.setCell (S:=λb=>b=p) (p,4) (Ei rfl) _).cell g (λe=>by have e:w.heap.size=p:=e;omega)
  generalize w1.setCell (p,4) ((d.N:Int)-1:Int)=w2 at *;have a:=u.o.ok;have a7:=kT X ⟨a.most,a.nd,a.iff,a.len⟩ (by show d.L.length<=_;omega) (jH x) 167 #[.pointer w] (enters_of func167 Ek rfl)
   (λgl e9 d4 W L k hW hT c1 hk er ep=>by
    have c7:=(C.o gl (Ej (Ej (Ei (by rw[d4];rfl))))).1
    have hb:=u.o.row hk
    have c8:=a.lt hk
    have :=xJ hT (k:=k) (by rw[c1];exact c8) (hW.cell z (λe=>c7 e.symm)) (by rw[ep];show -1<=aJ d.L k;omega) (by rw[ep];show aJ d.L k<=_;omega)
    rw[er,ep]at this
    exact this)
  have b5:=θ a7;have b4:=θ V;clear a7 V X z g a8 c3 c6 a;refine b5.o.mono ?_;rintro e w3 ⟨rfl,Y,c0⟩;go_wp2;go_ret;have f0:=u.o.eN;have F:=P.o;have hv:=u.o.posOut (x:=x) hx b7.o (N':=v) E;rw[M.o,show v=N-1 by omega]at hv;rw[show v=N-1 by omega]at Y;refine⟨rfl,PmStep.of Y hv (by show (bV _ _ _).length<=c;rw[dB];exact c9) (λj hj=>(C.o j hj).2.imp (hS j) id) ((b4.o.mono hS).trans c0 (λb hb=>?_))⟩;exact(C.o b (Ej (Ej (Ei hb)))).2.imp (hS b) id
 ·have Q:=a2 E;rw[a1]at I;have B:=aD6 Q;have M:=θ B;have b6:=θ Q;have d3:decide (0<=(-1:Int))=false:=rfl;clear a1 a2 B Q;go_in;go_wp2;go_quiet (fail);obtain⟨n1,rfl⟩:=Ez nq;go_wp2_with fail;refine(I.o n1).mono ?_;rintro e w1 ⟨rfl,l⟩;have g:=l.cell (p:=(w,0)) Es;have g:=g.trans a8;have t:=(d8.o n1).below l;have T:Chg (pmS p SA K ov) w w1:=(d5.o.drewN n1).trans (Chg.of_below (S:=λ_=>False) l) (λ_ hf=>hf.elim);have f:=HV.o;obtain⟨d,G⟩:∃d,d=m:=⟨_,rfl⟩;rw[<-G]at t f;have c9:d.L.length<=c:=by rw[G];exact e8
  obtain⟨D,Z⟩:∃D,D=SA:=⟨_,rfl⟩;obtain⟨H,a6⟩:∃H,H=ov:=⟨_,rfl⟩;have y:∀k,pmS p D K H k->k≠w.heap.size/\(pmS p SA K ov k\/w.heap.size<=k):=λk hk=>by
   rw[Z,a6]at hk;exact⟨λe=>by have :=b8.o k hk;omega,Ei hk⟩
  rw[<-Z,<-a6]at t;have HL:=b6.o;clear l G Z a6;obtain⟨_,_,_,_,c3,c5⟩:=t.cells;have c6:=c5 4;obtain⟨v,F⟩:∃v:Nat,v+1=d.N:=⟨d.N-1,by have :=f.eN;omega⟩;have b3:=θ T;have b9:=θ t;have u:=θ f;have C:=θ y;have P:=θ F;have b7:=θ HL;have e5:d.N<=1000000:=by have :=f.eN;omega
  have e4:(1:Int)<=(d.N:Int):=E;clear T t f y c5 F HL;go_wp2_with fail;have X:PmIn (w1.setCell (p,4) ((d.N:Int)-1:Int)) p q D K H ⟨d.A,d.L,d.O,d.R,v⟩:=by
   have :=b9.o.setN v;rw[show ((d.N:Int)-1)=(v:Int) by have :=P.o;omega];exact this
  have V:Chg (pmS p SA K ov) w (w1.setCell (p,4) ((d.N:Int)-1:Int)):=b3.o.setCell (p,4) (Ei (Ei rfl)) _;have z:(w1.setCell (p,4) ((d.N:Int)-1:Int)).cell? w=some (.int .i64 (x:Int)):=
   (Chg.refl.setCell (S:=λb=>b=p) (p,4) (Ei rfl) _).cell g (λe=>by have e:w.heap.size=p:=e;omega)
  generalize w1.setCell (p,4) ((d.N:Int)-1:Int)=w2 at *;have a:=u.o.ok;have a7:=kT X ⟨a.most,a.nd,a.iff,a.len⟩ (by show d.L.length<=_;omega) (jH x) 167 #[.pointer w] (enters_of func167 Ek rfl)
   (λgl e9 d4 W L k hW hT c1 hk er ep=>by
    have c7:=(C.o gl (Ej (Ej (Ei (by rw[d4];rfl))))).1
    have hb:=u.o.row hk
    have c8:=a.lt hk
    have :=xJ hT (k:=k) (by rw[c1];exact c8) (hW.cell z (λe=>c7 e.symm)) (by rw[ep];show -1<=aJ d.L k;omega) (by rw[ep];show aJ d.L k<=_;omega)
    rw[er,ep]at this
    exact this)
  have b5:=θ a7;have b4:=θ V;clear a7 V X z g a8 c3 c6 a;refine b5.o.mono ?_;rintro e w3 ⟨rfl,Y,c0⟩;go_wp2;go_ret;have f0:=u.o.eN;have F:=P.o;have hv:=u.o.posOut (x:=x) hx b7.o (N':=v) E;rw[M.o,show v=N-1 by omega]at hv;rw[show v=N-1 by omega]at Y;refine⟨rfl,PmStep.of Y hv (by show (bV _ _ _).length<=c;rw[dB];exact c9) (λj hj=>(C.o j hj).2.imp (hS j) id) ((b4.o.mono hS).trans c0 (λb hb=>?_))⟩;exact(C.o b (Ej (Ej (Ei hb)))).2.imp (hS b) id
end
end Go.Proofs.YtchinbgemenenaaGreatDoor
