/- Lemmas and contracts under the claims of this seat. No condition. -/
import Derived.Test.YtchinbgemenenaaGreatDoorZs16
namespace Go.Proofs.YtchinbgemenenaaGreatDoor
open Go.Proofs.Tryz
set_option linter.unusedVariables false
set_option linter.unusedSimpArgs false
set_option maxRecDepth 100000
set_option maxHeartbeats 12800000
section
open Go.RowKit
theorem Xv{t u:List Int}(j:aS t)(k:aS u){q:Nat}:vQ (strOfNums t) (strOfNums u) q=true↔q+u.length<=t.length/\(t.drop q).take u.length=u:=by
 have e:(strOfNums u).size=u.length:=be1 u;have f:(strOfNums t).size=t.length:=be1 t;unfold vQ;rw[e,f,aJ7,bc3,bb7,ByteArray.toList_eq,ByteArray.toList_eq,vY,be0,be0,<-aQ5,<-aQ8,show q+u.length-q=u.length by omega];refine and_congr_right (λ_=>⟨λh=>?_,λh=>by rw[h]⟩);have i:aS ((t.drop q).take u.length):=λx l=>j x (aR6 (aR7 l));have g:=bb9 (List.map λb:UInt8=>(b.toNat:Int)) h;have a:=mN i;have c:=mN k;unfold bY at a c;rw[be0]at a c;rwa[a,c]at g
theorem Sy{t u:List Int}(c:aS t)(e:aS u){x:Int}:x∈lP t u↔∃p:Nat,x=p/\p+u.length<=t.length/\(t.drop p).take u.length=u:=by
 rw[<-tP];unfold bX;simp only[aR4,List.mem_filter,aR8,Xv c e];constructor
 ·rintro⟨p,⟨_,a,b⟩,rfl⟩;exact⟨p,rfl,a,b⟩
 ·rintro⟨p,rfl,a,b⟩;exact⟨p,⟨E,a,b⟩,rfl⟩
theorem aE6(t u:List Int):(lP t u).length<=t.length+1:=by
 rw[<-tP,gE];exact aV4 (aP6 _ _) (by rw[List.length_range];exact aV3 _)
theorem qS{t d:List Int}(b:t.length<=80)(a:d.length<=60)(k n:Int):dG t k n d<=8700:=by
 unfold dG;split
 ·have :=aW3 (aV4 (Nat.min_le_right n.toNat t.length) b) (show t.length+5<=85 by omega);omega
 ·have :=aW3 a (show t.length+d.length+5<=145 by omega);omega
def FdS(w:World)(wr:World)(q:Nat)(t:List Int)(C:Nat):Prop:=StT w (λ_=>False) wr q 5 ((80:Nat):Int) t C/\Below w w wr
theorem Yq{w wr w':World}{q C C':Nat}{t k:List Int}{X:Nat->Prop}{a n:Int}{d l:List Int}{e:Ending}(h:FdS w wr q t C)(p:DoR w X wr q 5 ((80:Nat):Int) k C' a n d l e w'):∃da b g pc i,e= .returned (.agg #[a,n, .slice da d.length b, .slice g l.length pc])/\i<=C'/\FdS w w' q k i:=by
 obtain⟨da,b,g,pc,rfl,_,_,⟨c,o,m⟩,f,_⟩:=p;exact⟨da,b,g,pc,c,rfl,o,m.mono (λj e=>e.elim),h.2.trans (bZ f h.2.size)⟩
structure FdF (w wr:World) (X:Nat->Prop) (q:Nat) (t:List Int) (C:Nat) (da:Option Addr) (d:List Int) (pl:Option Addr) (L:List Int) (b13 b14 b15:Nat) (o13 o14 o15:Array Value):Prop where
 st:StT w X wr q 5 ((80:Nat):Int) t C
 bl:Below w w wr
 rd:Reads wr .u8 da d
 rl:Reads wr .i64 pl L
 h13:wr.heap[b13]? =some (.cells o13 38 (0,0))
 h14:wr.heap[b14]? =some (.cells o14 38 (0,0))
 h15:wr.heap[b15]? =some (.cells o15 38 (0,0))
section
variable {w wr w':World}{X:Nat->Prop}{q C C' b13 b14 b15:Nat}{t d L:List Int}{da pl:Option Addr}{o13 o14 o15:Array Value}
theorem FdF.below (h:FdF w wr X q t C da d pl L b13 b14 b15 o13 o14 o15)(a:Below wr wr w'):FdF w w' X q t C da d pl L b13 b14 b15 o13 o14 o15:=
 ⟨h.st.below a,h.bl.trans (a.mono h.bl.size),h.rd.below a,h.rl.below a,aT a h.h13,aT a h.h14,aT a h.h15⟩
theorem FdF.go (h:FdF w wr X q t C da d pl L b13 b14 b15 o13 o14 o15)(g:StT w X w' q 5 ((80:Nat):Int) t C')(a:Chg (exT w X) wr w')(b:∀j,bM da j\/bM pl j\/j=b13\/j=b14\/j=b15->X j):FdF w w' X q t C' da d pl L b13 b14 b15 o13 o14 o15:=
 ⟨g,h.bl.trans (bZ a h.bl.size),a.reads h.rd (λc e f=>f.2 (b _ (Ei ⟨c,e,rfl⟩))),a.reads h.rl (λc e f=>f.2 (b _ (Ej (Ei ⟨c,e,rfl⟩)))),a.heap h.h13 (λe=>e.2 (b _ Es)),a.heap h.h14 (λe=>e.2 (b _ Es)),a.heap h.h15 (λe=>e.2 (b _ Es))⟩
end
theorem walk_TopFinds(w:World)(hT:BitTab w)(a0:Option Addr)(c0:Nat)(z0:List Stp)(w0:ArgS w a0 c0 z0)(x1:Int)(w1:(Lit.int .i64 x1).wf=true)(x2:Int)(I:(Lit.int .i64 x2).wf=true):Calls prog 5 #[.slice a0 z0.length c0,x1,x2] w λe w'=>e= .returned (.bool true)/\Below w w w':=by
 have HN:=θ (rK (most:=80) (ra:=5) E E E E w);have HA:=θ w0;have R:=θ hT.lt;have g8:=aV4 w0.le w0.max;have HT:=θ hT;have e2:Hid (∀w1,Below w w w1->Calls prog 9 #[] w1 λe w'=>e= .returned (.bool true)/\Below w1 w1 w'):=θ (λw1 hb=>zT w1 (hT.below' hb));clear w0 w1 I hT;go_in;go_wp2_with fail;refine HN.o.mono ?_;rintro e w1 ⟨q,rfl,g7,d1⟩;have b3:=θ (Rx (RdS.below HA.o.reads d1) g8 25 (cap:=c0));have Z:Hid (FdS w w1 q [] 1):=θ ⟨g7,d1⟩;clear g7 d1 HN;go_wp2_with fail;refine Cq b3.o ?_;clear b3;cases hfw:tK z0 25 with
 | false=>
  clear hfw;go_wp2_with fail;refine(e2.o _ Z.o.2).mono ?_;rintro e I ⟨rfl,B⟩;have h2:=θ (Z.o.2.trans (B.mono Z.o.2.size));clear B;go_wp2;go_ret;exact⟨rfl,h2.o⟩
 | true=>
  have Q:=hfw;unfold tK at Q;have b3:=θ hfw;clear hfw;go_wp2_with fail;have a3:z0.length<=25/\∀s∈z0,s.r.l.length<=60:=by
   rw[aJ7,bc3,List.all_eq_true]at Q;exact⟨E,λs hs=>bd6 (Q.1 s hs)⟩
  have HK:=θ a3;have j4:=a3.1;clear a3 Q b3 g8;go_loopw [9,10] (λn v wr=>∃(k:Nat) (t:List Int) (C:Nat),k<=z0.length/\n= .int .i64 t.length/\v= .int .i64 k/\t.length<=80/\aS t/\C<=1+k*9000/\FdS w wr q t C) (λ_ v _=>z0.length-(intOf v).toNat);exact⟨0,[],1,aY1 _,rfl,rfl,aY1 _,(λx O=>nomatch O),aV3 _,Z.o⟩;as_aux_lemma=>
   clear Z;obtain⟨k,t,C,hk,rfl,rfl,G,b7,hC,hS⟩:=hrel;by_cases a5:k<z0.length
   ·obtain⟨s,hs⟩:∃s,z0[k]? =some s:=⟨_,aO0 a5⟩;have d9:=HA.o.wf k a5;obtain⟨b0,a9,rfl,M,P⟩:=HA.o.reads k a5;obtain⟨s0,s1,s2,s3⟩:=P k a5;rw[hs]at s0 s1 s2 s3 d9;simp only[aY3]at s0 s1 s2 s3 d9;have c0:=(hS.2.cell (p:=(b0,a9+k*4)) M).trans s0;have c1:=(hS.2.cell (p:=(b0,a9+k*4+1)) M).trans s1;have c2:=(hS.2.cell (p:=(b0,a9+k*4+2)) M).trans s2;have c3:=(hS.2.cell (p:=(b0,a9+k*4+3)) M).trans s3;have g1:=HK.o.2 s (aR5 hs);obtain⟨sk,sp,sn,⟨da,e5,d⟩⟩:=s;obtain⟨_,_,_,b5⟩:=d9;simp only at c0 c1 c2 c3 b5 g1;have U:=θ b5;have g2:=b5.le;have c6:=θ (Lo (k:=sk) (at_:=sp) (n:=sn) (da:=da) (n0:=t.length) (i:=k) wr E E g2 E);have HS:=θ hS;have V:=θ b7;have h7:=θ hC;have k0:(0:Int)<=(k:Int):=E;have k1:(k:Int)<(z0.length:Int):=E;unfold bN at c6;clear hS b7 hC P b5 s0 s1 s2 s3 hs M g2;go_wp2_with fail;refine c6.o.mono ?_;rintro e I ⟨k',a',n',dn,rfl,k7,B⟩;have b9:=HS.o.2.trans (B.mono HS.o.2.size);have a8:=HS.o.1.below B;have d4:(d.take dn).length=dn:=by rw[aQ1];omega
    have i6:=qS G (show (d.take dn).length<=60 by omega) k' n';have F:aS (d.take dn):=jF (Jt U.o) dn;have i7:=h7.o;have b2:=θ (vF (dc:=e5) (at_:=a') a8 (HT.o.below' b9) R.o (k:=k') (n:=n') (tY (U.o.reads.below b9) dn) (λe=>by have :=U.o.nil e;have :=U.o.le;rw[d4];omega) (λh0 ad e O=>by have :=Jv U.o E ad e;have :=O.1;omega) F E G E E);have g5:=Dy (most:=((80:Nat):Int)) k' a' n' V.o F;have i8:=xY (d:=d.take dn) k' a' n' (show (t.length:Int)<=((80:Nat):Int) by omega);have e0:Hid (C+dG t k' n' (d.take dn)+t.length+1<=1+k*9000+8800):=θ E;generalize aV ((80:Nat):Int) t k' a' n' (d.take dn)=o at *;generalize C+dG t k' n' (d.take dn)+t.length+1=C2 at *;rw[d4]at b2;have i0:Hid (FdS w I q t C):=θ ⟨a8,b9⟩;have Y:=θ (And.intro g5 (show o.t.length<=80 by omega));unfold bN at b2;clear b9 a8 d4 i6 F i7 g5 i8 B c6 c0 c1 c2 c3;go_wp2_with fail;refine b2.o.mono ?_;intro e w3 f9;obtain⟨j7,j8,m1,m3,C3,rfl,c9,K⟩:=Yq i0.o f9;have c8:=e0.o;have c4:dG o.t 4 0 []=0:=by unfold dG;rw[bc9 Ed];simp
    have b1:=θ (vF (da:=none) (dc:=0) (d:=[]) (at_:=0) K.1 (HT.o.below' K.2) R.o (k:=4) (n:=0) Reads.nil (λ_=>⟨rfl,rfl⟩) (λh0=>absurd h0 Es) (λx O=>nomatch O) E Y.o.2 Es (by rw[c4];have :=Y.o.2;simp;omega));rw[c4,show aV ((80:Nat):Int) o.t 4 0 0 []=⟨o.t,0,o.t.length,[],[]⟩from rfl]at b1;have i1:=θ K;have h4:Hid (C3+0+o.t.length+1<=1+(k+1)*9000):=θ (by have :=Y.o.2;omega);have k8:∀(w:World) (x0 x1 x2 x3:Value),(Instr.field 38 (.agg #[x0,x1,x2,x3]) 1).run prog w= .ok x1 w:=λw x0 x1 x2 x3=>Ek;unfold bN at b1;generalize C3+0+o.t.length+1=C4 at *;clear f9 c9 c8 K c4 b2 e0;go_wp2_with fail;refine b1.o.mono ?_;intro e J g0;obtain⟨b,f,g,m,C5,rfl,b6,a1⟩:=Yq i1.o g0;have HF:Hid (C5<=1+(k+1)*9000/\FdS w J q o.t C5):=θ ⟨aV4 b6 h4.o,a1⟩;clear g0 b6 a1 b1;go_wp2_with fail;exact⟨⟨k+1,o.t,C5,E,rfl,by first | rfl | go_num,Y.o.2,Y.o.1,HF.o.1,HF.o.2⟩,by simp[intOf];omega⟩
   ·obtain rfl:k=z0.length:=E;obtain⟨u,i9,l3,hu⟩:=Gd x1;obtain⟨v,j0,l4,hv⟩:=Gd x2;obtain⟨x,O,m0⟩:∃x:Nat,u%((t.length:Int)+1)=(x:Int)/\x<=t.length:=⟨(u%((t.length:Int)+1)).toNat,by have :=Int.emod_nonneg u (show (t.length:Int)+1≠0 by omega);omega,by have :=Int.emod_lt_of_pos u (show (0:Int)<(t.length:Int)+1 by omega);omega⟩;obtain⟨s,hs,c4⟩:∃s:Nat,v%6=(s:Int)/\s<6:=⟨(v%6).toNat,E,E⟩;have l5:IntKind.i64.wrap ((t.length:Int)+1)=(t.length:Int)+1:=aK8 _ E;have l6:IntKind.u64.wrap ((t.length:Int)+1)=(t.length:Int)+1:=by rw[aK7];omega
    have l7:u.tmod ((t.length:Int)+1)=(x:Int):=by rw[aK4 i9,O]
    have l8:IntKind.u64.wrap (x:Int)=(x:Int):=by rw[aK7];omega
    have l9:IntKind.i64.wrap (x:Int)=(x:Int):=aK8 _ E;have l2:v.tmod 6=(s:Int):=by rw[aK4 j0,hs]
    have l1:((t.length:Int)+1==0)=false:=by rw[bb6];omega
    have j3:((t.length:Int)+1=0)=False:=eq_false E;obtain⟨y,hy,j1⟩:∃y:Nat,min (s:Int) ((t.length:Int)-(x:Int))=(y:Int)/\x+y<=t.length:=⟨min s (t.length-x),E,E⟩;have j9:C<=250000:=E;have HS:=θ hS;have V:=θ b7;have HP:=θ (xW (da:=none) (dn:=0) (dc:=0) hS.1 (HT.o.below' hS.2) R.o j1);unfold bN at HP;clear hS b7 hC HA HK a5 hk;go_wp2_with fail;refine HP.o.mono ?_;intro e I hd;obtain⟨⟨da,D,pa,pc,rfl,hr,_,⟨C2,c8,e8⟩,a,hv⟩,g4⟩:=hd;have a6:da=none->((t.drop x).take y).length=0/\D=0:=λe=>by
     subst e;refine⟨?_,g4 _ _ _ _ _ rfl⟩;rcases aV0 ((t.drop x).take y).length with h | h
     ·exact h
     ·obtain⟨_,_,e,_⟩:=hr.some h;cases e
    have a2:((t.drop x).take y).length=y:=by rw[aQ1,aP5];omega
    have F:aS ((t.drop x).take y):=jF (oS V.o x) y;have d5:(x:Int)∈lP t ((t.drop x).take y):=(Sy V.o F).2 ⟨x,rfl,E,by rw[a2]⟩;obtain⟨d,hd⟩:=Ey ((t.drop x).take y);rw[hd]at hr a6 a2 F d5⊢;have B:=HS.o.2.trans (bZ a HS.o.2.size);have b8:=aB I (.cells #[.int .i64 0, .int .i64 0, .slice da d.length D, .slice pa 0 pc] 38);have f6:=B.trans (b8.mono B.size);have K:StT w (λj=>bM da j\/j=I.heap.size) (I.alloc (.cells #[.int .i64 0, .int .i64 0, .slice da d.length D, .slice pa 0 pc] 38)) q 5 ((80:Nat):Int) t C2:=e8.less b8 (λj e=>e.elim (λe=>Ei (Ej (Ei e))) (λe=>Ej (by subst e;simp)));have h9:=θ d5;have W:=θ (And.intro F a2);have H3:Hid (StT w (λj=>bM da j\/j=I.heap.size) (I.alloc (.cells #[.int .i64 0, .int .i64 0, .slice da d.length D, .slice pa 0 pc] 38)) q 5 ((80:Nat):Int) t C2/\Below w w (I.alloc (.cells #[.int .i64 0, .int .i64 0, .slice da d.length D, .slice pa 0 pc] 38))/\Reads (I.alloc (.cells #[.int .i64 0, .int .i64 0, .slice da d.length D, .slice pa 0 pc] 38)) .u8 da d/\(I.alloc (.cells #[.int .i64 0, .int .i64 0, .slice da d.length D, .slice pa 0 pc] 38)).heap[I.heap.size]? =some (.cells #[.int .i64 0, .int .i64 0, .slice da d.length D, .slice pa 0 pc] 38 (0,0))):=θ ⟨K,f6,hr.below b8,bc6 I _⟩;have e1:=θ a6;have e6:C2<=250000:=E;clear hr g4 a hv e8 a6 F d5 hd B b8 f6 K c8 a2 HP HS;have HK:=θ (vF (da:=da) (dc:=D) (d:=d) (at_:=0) H3.o.1 (HT.o.below' H3.o.2.1) R.o (k:=6) (n:=0) H3.o.2.2.1 e1.o (λ_ ad e O=>O.2 (Ei ⟨ad,e,rfl⟩)) W.o.1 E G (by have :=W.o.2;omega) (by have :=W.o.2;have :=qS G (show d.length<=60 by omega) 6 0;omega));rw[show aV ((80:Nat):Int) t 6 0 0 d=⟨t,0,(lP t d).length,[],[]⟩from rfl]at HK;have c9:C2+dG t 6 0 d+t.length+1<=260000:=by have :=W.o.2;have :=qS G (show d.length<=60 by omega) 6 0;omega
    generalize C2+dG t 6 0 d+t.length+1=C3 at *;generalize hL:lP t d=L at *;have k6:L.length<=81:=by rw[<-hL];exact aV4 (aE6 t d) E
    have HL:=θ hL;clear hL;unfold bN at HK;go_wp2_with fail;generalize f3:I.heap.size=b13 at *;generalize I.alloc (.cells #[.int .i64 0, .int .i64 0, .slice da d.length D, .slice pa 0 pc] 38)=w3 at *;clear f3;refine HK.o.mono ?_;intro e J hd;obtain⟨b,f,g,m,rfl,_,_,⟨C4,i3,e9⟩,a,_⟩:=hd;have d2:=H3.o.2.1.trans (bZ a H3.o.2.1.size);have a4:=aB J (.cells #[.int .i64 0,L.length, .slice b 0 f, .slice g 0 m] 38);have a1:StT w (λj=>(bM da j\/j=b13)\/j=J.heap.size) (J.alloc (.cells #[.int .i64 0,L.length, .slice b 0 f, .slice g 0 m] 38)) q 5 ((80:Nat):Int) t C4:=e9.less a4 (λj e=>e.elim (λe=>Ei (Ei e)) (λe=>Ej (by subst e;simp)));have H5:Hid (StT w (λj=>(bM da j\/j=b13)\/j=J.heap.size) (J.alloc (.cells #[.int .i64 0,L.length, .slice b 0 f, .slice g 0 m] 38)) q 5 ((80:Nat):Int) t C4/\Below w w (J.alloc (.cells #[.int .i64 0,L.length, .slice b 0 f, .slice g 0 m] 38))/\Reads (J.alloc (.cells #[.int .i64 0,L.length, .slice b 0 f, .slice g 0 m] 38)) .u8 da d/\
      (J.alloc (.cells #[.int .i64 0,L.length, .slice b 0 f, .slice g 0 m] 38)).heap[b13]? =some (.cells #[.int .i64 0, .int .i64 0, .slice da d.length D, .slice pa 0 pc] 38 (0,0))/\(J.alloc (.cells #[.int .i64 0,L.length, .slice b 0 f, .slice g 0 m] 38)).heap[J.heap.size]? =some (.cells #[.int .i64 0,L.length, .slice b 0 f, .slice g 0 m] 38 (0,0))):=
     θ ⟨a1,d2.trans (a4.mono d2.size),(a.reads H3.o.2.2.1 (λad e O=>O.2 (Ei ⟨ad,e,rfl⟩))).below a4,aT a4 (a.heap H3.o.2.2.2 (λe=>e.2 (Ej rfl))),bc6 J _⟩
    have m2:(J.alloc (.cells #[.int .i64 0,L.length, .slice b 0 f, .slice g 0 m] 38)).cell? (b13,2)=some (.slice da d.length D):=bb8 _ b13 2 _ _ _ H5.o.2.2.2.1;have e7:C4<=260000:=E;clear d2 a4 a1 e9 a i3 c9 e6 HK;have HW:=θ (vF (da:=da) (dc:=D) (d:=d) (at_:=0) H5.o.1 (HT.o.below' H5.o.2.1) R.o (k:=7) (n:=0) H5.o.2.2.1 e1.o (λ_ ad e O=>O.2 (Ei (Ei ⟨ad,e,rfl⟩))) W.o.1 E G (by have :=W.o.2;omega) (by have :=W.o.2;have :=qS G (show d.length<=60 by omega) 7 0;omega));rw[show aV ((80:Nat):Int) t 7 0 0 d=⟨t,0,(lP t d).length,[],lP t d⟩from rfl,HL.o]at HW;have b6:C4+dG t 7 0 d+t.length+1<=270000:=by have :=W.o.2;have :=qS G (show d.length<=60 by omega) 7 0;omega
    generalize C4+dG t 7 0 d+t.length+1=C5 at *;unfold bN at HW;go_wp2_with fail;generalize f4:J.heap.size=b14 at *;generalize J.alloc (.cells #[.int .i64 0,L.length, .slice b 0 f, .slice g 0 m] 38)=w5 at *;clear f4;refine HW.o.mono ?_;intro e w6 hd;obtain⟨S,T,pl,H,rfl,_,a7,⟨C6,i4,f0⟩,a,_⟩:=hd;have d3:=H5.o.2.1.trans (bZ a H5.o.2.1.size);have N:=aB w6 (.cells #[.int .i64 0,L.length, .slice S 0 T, .slice pl L.length H] 38);obtain⟨X,hX⟩:∃X:Nat->Prop,(λj=>(((bM da j\/j=b13)\/j=b14)\/bM pl j)\/j=w6.heap.size)=X:=⟨_,rfl⟩;have f1:StT w X (w6.alloc (.cells #[.int .i64 0,L.length, .slice S 0 T, .slice pl L.length H] 38)) q 5 ((80:Nat):Int) t C6:=f0.less N (λj e=>by rw[<-hX]at e;exact e.elim (λe=>Ei (e.elim Ei (λe=>Ej (Ej e)))) (λe=>Ej (by subst e;simp)));have H7:Hid (FdF w (w6.alloc (.cells #[.int .i64 0,L.length, .slice S 0 T, .slice pl L.length H] 38)) X q t C6 da d pl L b13 b14 w6 #[.int .i64 0, .int .i64 0, .slice da d.length D, .slice pa 0 pc] #[.int .i64 0,L.length, .slice b 0 f, .slice g 0 m] #[.int .i64 0,L.length, .slice S 0 T, .slice pl L.length H]):=
     θ ⟨f1,d3.trans (N.mono d3.size),(a.reads H5.o.2.2.1 (λad e O=>O.2 (Ei (Ei ⟨ad,e,rfl⟩)))).below N,a7.below N,aT N (a.heap H5.o.2.2.2.1 (λe=>e.2 (Ei (Ej rfl)))),aT N (a.heap H5.o.2.2.2.2 (λe=>e.2 (Ej rfl))),bc6 w6 _⟩
    have HX:Hid (∀j,bM da j\/bM pl j\/j=b13\/j=b14\/j=w6.heap.size->X j):=θ (λj e=>by
     rw[<-hX]
     rcases e with e | e | e | e | e
     ·exact Ei (Ei (Ei (Ei e)))
     ·exact Ei (Ej e)
     ·exact Ei (Ei (Ei (Ej e)))
     ·exact Ei (Ei (Ej e))
     ·exact Ej e)
    have j2:C6<=270000:=E;clear d3 N f1 f0 a a7 i4 b6 e7 hX m2 HW;go_wp2_with fail;generalize f5:w6.heap.size=b15 at *;generalize w6.alloc (.cells #[.int .i64 0,L.length, .slice S 0 T, .slice pl L.length H] 38)=w7 at *;clear f5;go_loopw [16,17] (λi v wx=>∃(j C7:Nat),j<=L.length/\v= .int .i64 j/\i= .bool ((L.take j).any (λz=>z==(x:Int)))/\C7<=270000+j*100/\FdF w wx X q t C7 da d pl L b13 b14 b15 #[.int .i64 0, .int .i64 0, .slice da d.length D, .slice pa 0 pc] #[.int .i64 0,L.length, .slice b 0 f, .slice g 0 m] #[.int .i64 0,L.length, .slice S 0 T, .slice pl L.length H]) (λ_ v _=>L.length-(intOf v).toNat);exact⟨0,C6,aY1 _,rfl,rfl,E,H7.o⟩;as_aux_lemma=>
     obtain⟨j,C7,hj,rfl,rfl,d0,hF⟩:=hrel;have n3:wr.cell? (b15,3)=some (.slice pl L.length H):=bb8 wr b15 3 _ _ _ hF.h15;have HF:=θ hF;by_cases g3:j<L.length
     ·obtain⟨z,hz⟩:∃z,L[j]? =some z:=⟨_,aO0 g3⟩;obtain⟨p,rfl,d7,d8⟩:=(Sy V.o W.o.1).1 (show z∈lP t d by rw[HL.o];exact aR5 hz);rw[W.o.2]at d7 d8;have a7:=hF.rl;obtain⟨bl,a9,rfl,M,f8⟩:=a7.some E;have cz:=f8 j g3;rw[hz,aY3]at cz;have i2:Hid ((L.take (j+1)).any (λz=>z==(x:Int))=((L.take j).any (λz=>z==(x:Int))||((p:Int)==(x:Int)))):=θ (by rw[aT5,hz,List.any_append];simp);have b4:=θ (xW (da:=none) (dn:=0) (dc:=0) hF.st (HT.o.below' hF.bl) R.o d7);rw[d8]at b4;have k9:(0:Int)<=(j:Int):=E;have l0:(j:Int)<(L.length:Int):=E;have h5:=θ d0;unfold bN at b4;clear hF a7 f8 hz M d0 d7 d8 H7 H5 H3;generalize (L.take j).any (λz=>z==(x:Int))=bv at *;go_upto_region 21 with fail
      go_cut [16]from 82 to 119 (λv wx=>v= .bool (bv||((p:Int)==(x:Int)))/\wr=wx)
      case first=>as_aux_lemma=>
       cases bv with
       | false=>
        go_wp2_with fail;go_meet;case rel=>exact⟨Es,rfl⟩
       | true=>
        go_wp2_with fail;go_meet;case rel=>exact⟨Es,rfl⟩
      case rest=>as_aux_lemma=>
       obtain⟨rfl,rfl⟩:=hcut;go_wp2_with fail;refine b4.o.mono ?_;intro e w9 hd;obtain⟨⟨e4,c7,g9,h1,rfl,g6,_,⟨C9,i5,f2⟩,a,_⟩,_⟩:=hd;have d6:=aB w9 (.cells #[.int .i64 0, .int .i64 0, .slice e4 d.length c7, .slice g9 0 h1] 38);have A:=(HF.o.go (f2.mono (X':=X) (λj e=>Ei e)) a HX.o).below d6;have m2:(w9.alloc (.cells #[.int .i64 0, .int .i64 0, .slice e4 d.length c7, .slice g9 0 h1] 38)).cell? (b13,2)=some (.slice da d.length D):=bb8 _ b13 2 _ _ _ A.h13;have j5:=sJ (c:=c7) (g6.below d6);have j6:=sJ (c:=D) A.rd;have h8:=θ A;have h6:Hid (C9<=270000+(j+1)*100):=θ (by have :=h5.o;omega);clear g6 i5 f2 a d6 A b4 HF n3 cz;generalize strOfNums d=sd at *;go_wp2_with fail;exact⟨⟨j+1,C9,E,by first | rfl | go_num,by rw[i2.o],h6.o,h8.o⟩,by simp[intOf];omega⟩
     ·obtain rfl:j=L.length:=E;have c5:(L.take L.length).any (λz=>z==(x:Int))=true:=by rw[aT8];exact aL0.2 ⟨_,h9.o,Es⟩
      rw[c5];have e3:=θ (e2.o wr hF.bl);have a2:=W.o.2;clear hF d0 c5;go_wp2_with fail;refine e3.o.mono ?_;rintro e w9 ⟨rfl,f7⟩;have A:=HF.o.below f7;have k0:w9.cell? b13=some (.int .i64 0):=bb8 _ b13 0 _ _ _ A.h13;have k2:w9.cell? (b13,2)=some (.slice da d.length D):=bb8 _ b13 2 _ _ _ A.h13;have k3:w9.cell? (b14,1)=L.length:=bb8 _ b14 1 _ _ _ A.h14;have k4:w9.cell? (b15,1)=L.length:=bb8 _ b15 1 _ _ _ A.h15;have k5:w9.cell? (b15,3)=some (.slice pl L.length H):=bb8 _ b15 3 _ _ _ A.h15;have h3:=θ A.bl;clear A f7 HF e3 n3;go_wp2;go_ret;exact⟨rfl,h3.o⟩
end
end Go.Proofs.YtchinbgemenenaaGreatDoor
