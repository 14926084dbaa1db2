/- Lemmas and contracts under the claims of this seat. No condition. -/
import Derived.Lib.ConvBytes
import Derived.Test.YtchinbgemenenaaGreatDoorZs16
import Derived.Test.YtchinbgemenenaaGreatDoorZs18
import Derived.Test.YtchinbgemenenaaGreatDoorZs19
namespace Go.Proofs.YtchinbgemenenaaGreatDoor
open Go.Proofs.Tryz
set_option linter.unusedVariables false
set_option linter.unusedSimpArgs false
set_option maxRecDepth 100000
set_option maxHeartbeats 12800000
section
open Go.RowKit
theorem Mq(a:Option Addr)(c n:Nat)(l:List Int)(w:World)(m:n=l.length)(o:Reads w .i64 a l)(t:l.length<=1000000)(p:∀x∈l,0<=x/\x<257):Calls prog 73 #[.slice a n c] w λe r=>e= .returned (.bool true)/\w=r:=by
 subst m;go_in;go_wp2;go_loop [3] (λi=>∃j:Nat,j<=l.length/\i= .int .i64 j) (λi=>l.length-(intOf i).toNat);exact⟨0,aY1 _,rfl⟩;case round=>
  obtain⟨j,k,rfl⟩:=hrel;by_cases d:j<l.length
  ·obtain⟨b,q,rfl,_,f⟩:=o.some E;have h:=f j d;have g:=p _ (aP0 d);rw[aO0 d,aY3]at h;clear f;generalize l[j]=y at *;have s:=dD g.1 g.2;go_wp2_with (go_at_call 134;refine Cq (ad2 _ _) ?_);go_round;exact⟨j+1,E,by go_num⟩;simp[intOf];omega
  ·obtain rfl:j=l.length:=E;go_wp2;go_ret;exact Er
theorem bf2{s p:ByteArray}{a:Nat}(h:¬a+p.size<=s.size):vQ s p a=false:=by unfold vQ;rw[bc0 h];rfl
theorem bf1(s p:ByteArray)(a:Nat)(w:World)(j:s.size<=1000000)(i:p.size<=1000000)(g:a<=1000000):Calls prog 64 #[.string s,a, .string p] w λe f=>e= .returned (.bool (vQ s p a))/\w=f:=by
 by_cases h:a+p.size<=s.size
 ·have d:decide ((a:Int)+(p.size:Int)<=(s.size:Int))=true:=bc2 E;have c:∀w:World,(Instr.slice 9 (.string s) (some (.int .i64 (a:Int))) (some (.int .i64 ((a:Int)+(p.size:Int)))) none).run prog w= .ok (.string (s.extract a (a+p.size))) w:=λw=>by
   have :=run_slice_string (P:=prog) w 9 s .i64 .i64 (a:Int) ((a:Int)+(p.size:Int)) ba3 E E E;rw[aK5,show ((a:Int)+(p.size:Int)).toNat=a+p.size by omega]at this;exact this
  have b:vQ s p a=((s.extract a (a+p.size)).toList==p.toList):=by unfold vQ;rw[bc2 h,Bool.true_and]
  rw[b];generalize s.extract a (a+p.size)=x at *;clear b h;go_in;go_wp2;go_ret;exact Er
 ·have d:decide ((a:Int)+(p.size:Int)<=(s.size:Int))=false:=bc0 E;rw[bf2 h];clear h;go_in;go_wp2;go_ret;exact Er
theorem bi6(s p:ByteArray)(k:Nat):(be6 s p k).length<=k:=by
 unfold be6;rw[gE];have :=aP6 (vQ s p) (List.range k);rwa[List.length_range]at this
theorem bf0(s p:ByteArray)(k:Nat):be6 s p (k+1)=be6 s p k++if vQ s p k then [(k:Int)]else []:=by
 unfold be6 bX;rw[aS9,aN0,aQ2];congr 1;by_cases h:vQ s p k=true<;>simp[h]
theorem bi3{s p:ByteArray}{k:Nat}(b:k<=s.size+1)(h:¬k+p.size<=s.size):be8 s p=be6 s p k:=by
 obtain⟨d,a⟩:∃d,s.size+1=k+d:=⟨s.size+1-k,E⟩;unfold be8;rw[a];clear a b;induction d with
 | zero=>rfl
 | succ d c=>rw[<-aU3,bf0,c,bf2 E];simp
theorem be7(s p:ByteArray)(w:World)(O:s.size<=100000)(N:p.size<=100000):Calls prog 28 #[.string s, .string p] w λe D=>∃a c,e= .returned (.slice a (be8 s p).length c)/\D.ownsRow w 3 1 (.slice a (be8 s p).length c) (be8 s p).length ((be8 s p).map (Value.int .i64))/\Below w w D:=by
 go_in;go_wp2;go_loopw [5,6] (λv i wr=>∃(k:Nat) (b:List Int),k<=s.size+1/\i= .int .i64 k/\b=be6 s p k/\wr.ownsRow w 3 1 v b.length (b.map (Value.int .i64))/\Below w w wr) (λ_ i _=>s.size+1-(intOf i).toNat);exact⟨0,[],aY1 _,rfl,rfl,bb2 _ _ _ _,aJ6 _ _⟩;as_aux_lemma=>
  obtain⟨k,b,J,rfl,q,h,A⟩:=hrel;have C:=A.size;have t:=θ h;have x:=θ A;have L:b.length<=k:=by rw[q];exact bi6 s p k
  have n:=θ q;clear h A q;by_cases B:k+p.size<=s.size
  ·have d:decide ((k:Int)+(p.size:Int)<=(s.size:Int))=true:=bc2 E;have m:=θ (bf0 s p k);have r:=θ (bf1 s p k wr E E E);obtain⟨H,u⟩:=Ey (vQ s p k);rw[u]at m r;clear u;go_wp2_with fail;refine Cq r.o ?_;cases H
   ·have l:Hid (b=be6 s p (k+1)):=θ (by rw[m.o,n.o];simp);go_wp2;go_roundw;exact⟨k+1,b,E,by go_num,l.o,t.o,x.o⟩;simp[intOf];omega
   ·have l:Hid (b++[(k:Int)]=be6 s p (k+1)):=θ (by rw[m.o,<-n.o];simp);go_wp2_with (at_builtin;refine fM rfl _ _ 36 rfl w 3 Tryz.infoIntG ba0 rfl _ _ _ rfl t.o rfl rfl ?c1 ?c2 ?c3 ?_);case c1=>unfold maxLen;omega
    case c2=>omega
    case c3=>omega
    intro M F g f;have y:Hid (Below w w F):=θ (x.o.grown f C (λj I=>(t.o.lt j I).1));have z:Hid (F.ownsRow w 3 1 M (b++[(k:Int)]).length ((b++[(k:Int)]).map (Value.int .i64))):=θ (by
     rw[aP3,aQ2];exact g)
    clear g f;go_wp2;go_roundw;exact⟨k+1,b++[(k:Int)],E,by go_num,l.o,z.o,y.o⟩;simp[intOf];omega
  ·have d:decide ((k:Int)+(p.size:Int)<=(s.size:Int))=false:=bc0 E;have G:=θ (bi3 J B);obtain⟨a,c,rfl,_,_⟩:=aD t.o;go_wp2;go_ret;have K:b=be8 s p:=n.o.trans G.o.symm;rw[<-K];exact⟨a,c,rfl,t.o,x.o⟩
def MdT(w:World)(b:Nat)(most:Int)(t:List Int):Prop:=w.heap[b]? =some (.cells #[.string (strOfNums t),most] 31 (0,0))
def MoR(w:World)(b:Nat)(most:Int)(t:List Int)(code n:Int)(d l:List Int)(e:Ending)(w':World):Prop:=
 ∃da dc pa pc,e= .returned (.agg #[code,n, .slice da d.length dc, .slice pa l.length pc])/\Reads w' .u8 da d/\Reads w' .i64 pa l/\MdT w' b most t/\Chg (λj=>j=b) w w'
section
variable {w w':World}{b:Nat}{most:Int}{t:List Int}
theorem MdT.lt (h:MdT w b most t):b<w:=(aJ2.1 h).1
theorem MdT.chg {S:Nat->Prop}(h:MdT w b most t)(a:Chg S w w')(c:¬S b):MdT w' b most t:=a.heap h c
theorem MdT.below (h:MdT w b most t)(a:Below w w w'):MdT w' b most t:=h.chg (S:=λ_=>False) (Chg.of_below a) (λe=>e)
theorem MdT.cells (h:MdT w b most t):w.cell? b=some (.string (strOfNums t))/\w.cell? (b,1)=most:=⟨bb8 w b 0 _ _ _ h,bb8 w b 1 _ _ _ h⟩
theorem be4(w:World)(k a n:Int)(c:Option Addr)(dn d:Nat):(doW w k a n c dn d).heap[w.heap.size]? =some (.cells #[k,a,n, .slice c dn d] 34 (0,0))/\(doW w k a n c dn d).heap[w.heap.size+1]? =some (.cells #[.int .i64 0, .int .i64 0, .slice none 0 0, .slice none 0 0] 38 (0,0))/\Below w w (doW w k a n c dn d)/\(doW w k a n c dn d).heap.size=w.heap.size+2:=by
 refine⟨?_,?_,((Below.refl _ _).alloc (Nat.le_refl _) _).alloc Es _,by unfold doW;simp⟩
 ·unfold doW;rw[yN _ _ Es];exact bc6 w _
 ·have :=bc6 (w.alloc (.cells #[k,a,n, .slice c dn d] 34)) (.cells #[.int .i64 0, .int .i64 0, .slice none 0 0, .slice none 0 0] 38);rw[bb3]at this;exact this
theorem moFin{c:Nat}{f g h i:Value}{a:Act}{e:Ending->World->Prop}(n:a.tmps[4]?.getD undef= .pointer c)(p:a.defers=[])(d:w.heap[c]? =some (.cells #[f,g,h,i] 38 (0,0)))(o:e (.returned (.agg #[f,g,h,i])) w):bodyPost prog Tryz.f12 e .ret a w:=by
 have j:=bb8 w c 0 _ _ _ d;have k:=bb8 w c 1 _ _ _ d;have l:=bb8 w c 2 _ _ _ d;have m:=bb8 w c 3 _ _ _ d;show a.defers=[]/\∃v,(results Tryz.f12 a.tmps).run prog w= .ok v w/\e (.returned v) w;refine⟨p,_,?_,o⟩;simp[results,Tryz.f12,go_sem,n,j,k,l,m]
theorem be5(h:MdT w b most t)(o:Obj)(c n:Int){a:Act}(g:a.tmps[4]?.getD undef= .pointer (w.heap.size+1,0))(e:a.defers=[]):bodyPost prog Tryz.f12 (MoR w b most t c n [] []) .ret a ((w.alloc o).alloc (.cells #[c,n, .slice none 0 0, .slice none 0 0] 38)):=by
 have d:Below w w ((w.alloc o).alloc (.cells #[c,n, .slice none 0 0, .slice none 0 0] 38)):=((aJ6 _ _).alloc (aV3 _) _).alloc Es _;have f:=bc6 (w.alloc o) (.cells #[c,n, .slice none 0 0, .slice none 0 0] 38);rw[bb3]at f;exact moFin g e f ⟨none,0,none,0,rfl,Reads.nil,Reads.nil,h.below d,Chg.of_below d⟩
theorem moEnd{m o:World}(C:Below w w m)(I:m.heap.size=w.heap.size+2){h k:Option Addr}(B:MdT o b most t)(D:b<w)(i:Chg (λj=>j=b) m o)(H:m.heap[w.heap.size+1]? =some (.cells #[.int .i64 0, .int .i64 0, .slice none 0 0, .slice none 0 0] 38 (0,0))){d l:List Int}(F:Reads o .u8 h d)(G:Reads o .i64 k l)(v:∀j,bM h j\/bM k j->m.heap.size<=j)(c n:Int)(p pc:Nat){x y:Nat}(s:d.length=x)(u:l.length=y){a:Act}(A:a.tmps[4]?.getD undef= .pointer (w.heap.size+1,0))(r:a.defers=[]):bodyPost prog Tryz.f12 (MoR w b most t c n d l) .ret a ((((o.setCell (w.heap.size+1,0) c).setCell (w.heap.size+1,1) n).setCell (w.heap.size+1,2) (.slice h x p)).setCell (w.heap.size+1,3) (.slice k y pc)):=by
 subst s u;obtain⟨q,f⟩:=xT (i.heap H (λe=>by have e:w.heap.size+1=b:=e;omega)) (.int .i64 c) (.int .i64 n) (.slice h d.length p) (.slice k l.length pc);refine moFin A r q ⟨h,p,k,pc,rfl,f.reads F (λg e z=>?_),f.reads G (λg e z=>?_),B.chg f (λe=>E),((Chg.of_below C).trans i (λb e=>Ei e)).trans f (λb e=>Ej E)⟩
 ·have :=v g.block (Ei ⟨g,e,rfl⟩);omega
 ·have :=v g.block (Ej ⟨g,e,rfl⟩);omega
theorem bg6(h:MdT w b most t){k a n:Int}{f:Option Addr}{dn g:Nat}(i:¬(1<=k/\k<=8)):Calls prog 12 #[.pointer b,bN k a n f dn g] w (MoR w b most t 1 0 [] []):=by
 obtain⟨d,_,c,_⟩:=be4 w k a n f dn g;have e:=(h.below c).cells.1;have H:=θ h;unfold doW at e;clear h d c;unfold bN;have j:(k==1)=false:=by simp;omega
 have l:(k==2)=false:=by simp;omega
 have m:(k==3)=false:=by simp;omega
 have p:(k==4)=false:=by simp;omega
 have q:(k==5)=false:=by simp;omega
 have r:(k==6)=false:=by simp;omega
 have s:(k==7)=false:=by simp;omega
 have u:(k==8)=false:=by simp;omega
 clear i;go_in;go_wp2_with fail;exact be5 H.o _ _ _ rfl rfl
theorem bg7(h:MdT w b most t){a n:Int}{f:Option Addr}{dn g:Nat}:Calls prog 12 #[.pointer b,bN 4 a n f dn g] w (MoR w b most t 0 t.length [] []):=by
 obtain⟨d,_,c,_⟩:=be4 w 4 a n f dn g;have e:=(h.below c).cells.1;have H:=θ h;have j:=be1 t;unfold doW at e;clear h d c;unfold bN;generalize i:strOfNums t=st at *;go_in;go_wp2_with fail;exact be5 H.o _ _ _ rfl rfl
theorem bf9(h:MdT w b most t){a n:Int}{f:Option Addr}{dn g:Nat}:Calls prog 12 #[.pointer b,bN 8 a n f dn g] w (MoR w b most t 0 0 [] []):=by
 obtain⟨d,_,c,_⟩:=be4 w 8 a n f dn g;have e:=(h.below c).cells.1;have H:=θ h;unfold doW at e;clear h d c;unfold bN;go_in;go_wp2_with fail;exact be5 H.o _ _ _ rfl rfl
theorem bg8(h:MdT w b most t)(p:t.length<=1000000){a n:Int}{g:Option Addr}{dn i:Nat}(d:fT t a 0=false):Calls prog 12 #[.pointer b,bN 1 a n g dn i] w (MoR w b most t 2 0 [] []):=by
 obtain⟨e,_,c,_⟩:=be4 w 1 a n g dn i;have f:=(h.below c).cells.1;have H:=θ h;have q:=be1 t;have j:=of_decide_eq_false d;unfold doW at f;clear h e c d;unfold bN;generalize k:strOfNums t=st at *;by_cases l:a<0
 ·go_in;go_wp2_with fail;exact be5 H.o _ _ _ rfl rfl
 ·have m:(t.length:Int)<a:=E;go_in;go_wp2_with fail;exact be5 H.o _ _ _ rfl rfl
theorem bg9(h:MdT w b most t)(r:t.length<=1000000){a n:Int}{g:Option Addr}{dn i:Nat}(d:fT t a n=false):Calls prog 12 #[.pointer b,bN 2 a n g dn i] w (MoR w b most t 2 0 [] []):=by
 obtain⟨e,_,c,_⟩:=be4 w 2 a n g dn i;have f:=(h.below c).cells.1;have H:=θ h;have s:=be1 t;have j:=of_decide_eq_false d;unfold doW at f;clear h e c d;unfold bN;generalize k:strOfNums t=st at *;by_cases l:a<0
 ·go_in;go_wp2_with fail;exact be5 H.o _ _ _ rfl rfl
 ·by_cases m:n<0
  ·go_in;go_wp2_with fail;exact be5 H.o _ _ _ rfl rfl
  ·by_cases p:(t.length:Int)<a
   ·go_in;go_wp2_with fail;exact be5 H.o _ _ _ rfl rfl
   ·have u:IntKind.i64.wrap ((t.length:Int)-a)=(t.length:Int)-a:=aK8 _ E;have q:(t.length:Int)-a<n:=E;go_in;go_wp2_with fail;exact be5 H.o _ _ _ rfl rfl
theorem bi1(h:MdT w b most t)(r:t.length<=1000000){a n:Int}{g:Option Addr}{dn i:Nat}(d:fT t a n=false):Calls prog 12 #[.pointer b,bN 5 a n g dn i] w (MoR w b most t 2 0 [] []):=by
 obtain⟨e,_,c,_⟩:=be4 w 5 a n g dn i;have f:=(h.below c).cells.1;have H:=θ h;have s:=be1 t;have j:=of_decide_eq_false d;unfold doW at f;clear h e c d;unfold bN;generalize k:strOfNums t=st at *;by_cases l:a<0
 ·go_in;go_wp2_with fail;exact be5 H.o _ _ _ rfl rfl
 ·by_cases m:n<0
  ·go_in;go_wp2_with fail;exact be5 H.o _ _ _ rfl rfl
  ·by_cases p:(t.length:Int)<a
   ·go_in;go_wp2_with fail;exact be5 H.o _ _ _ rfl rfl
   ·have u:IntKind.i64.wrap ((t.length:Int)-a)=(t.length:Int)-a:=aK8 _ E;have q:(t.length:Int)-a<n:=E;go_in;go_wp2_with fail;exact be5 H.o _ _ _ rfl rfl
theorem bi0(h:MdT w b most t)(q:t.length<=1000000){a n:Int}{g:Option Addr}{dn i:Nat}(d:fT t a (dn:Int)=false):Calls prog 12 #[.pointer b,bN 3 a n g dn i] w (MoR w b most t 2 0 [] []):=by
 obtain⟨e,_,c,_⟩:=be4 w 3 a n g dn i;have f:=(h.below c).cells.1;have H:=θ h;have r:=be1 t;have j:=of_decide_eq_false d;unfold doW at f;clear h e c d;unfold bN;generalize k:strOfNums t=st at *;by_cases l:a<0
 ·go_in;go_wp2_with fail;exact be5 H.o _ _ _ rfl rfl
 ·by_cases m:(t.length:Int)<a
  ·go_in;go_wp2_with fail;exact be5 H.o _ _ _ rfl rfl
  ·have s:IntKind.i64.wrap ((t.length:Int)-a)=(t.length:Int)-a:=aK8 _ E;have p:(t.length:Int)-a<(dn:Int):=E;go_in;go_wp2_with fail;exact be5 H.o _ _ _ rfl rfl
end
theorem bg1{a b:ByteArray}(h:a.data.toList=b.data.toList):a=b:=by
 cases a;cases b;simp only at h;rw[Array.toList_inj]at h;rw[h]
theorem be9(t:List Int)(k m:Nat):(strOfNums t).extract k m=strOfNums ((t.drop k).take (m-k)):=by
 apply bg1;rw[vY,be0,be0,aQ8,aQ5]
theorem str_to(t:List Int)(k:Nat):(strOfNums t).extract 0 k=strOfNums (t.take k):=by
 rw[be9,bi7,aX0]
theorem bi4(t:List Int)(k:Nat):(strOfNums t).extract k (strOfNums t).size=strOfNums (t.drop k):=by
 rw[be9,be1,aT9 (by rw[aP5];omega)]
theorem slTo{t:List Int}{k:Nat}(a:k<=t.length)(w:World):(Instr.slice 9 (.string (strOfNums t)) none (some (.int .i64 (k:Int))) none).run prog w= .ok (.string (strOfNums (t.take k))) w:=by
 have h:=run_slice_string_to_if (P:=prog) w 9 (strOfNums t) .i64 (k:Int) ba3;rw[bd0 (by rw[be1];omega),aK5,str_to]at h;exact h
theorem bf5{t:List Int}{k:Nat}(a:k<=t.length)(w:World):(Instr.slice 9 (.string (strOfNums t)) (some (.int .i64 (k:Int))) none none).run prog w= .ok (.string (strOfNums (t.drop k))) w:=by
 have h:=run_slice_string_from_if (P:=prog) w 9 (strOfNums t) .i64 (k:Int) ba3;rw[bd0 (by rw[be1];omega),aK5,bi4]at h;exact h
theorem slMid{t:List Int}{k m:Nat}(a:k<=m)(c:m<=t.length)(w:World):(Instr.slice 9 (.string (strOfNums t)) (some (.int .i64 (k:Int))) (some (.int .i64 (m:Int))) none).run prog w= .ok (.string (strOfNums ((t.drop k).take (m-k)))) w:=by
 have h:=run_slice_string (P:=prog) w 9 (strOfNums t) .i64 .i64 (k:Int) (m:Int) ba3 E E (by rw[be1];omega);rw[aK5,aK5,be9]at h;exact h
theorem lD{x y:List Int}(h:x.length+y.length<=10000000)(w:World):(Op.stringOp .add (strOfNums x) (strOfNums y)).run prog w= .ok (.string (strOfNums (x++y))) w:=by
 rw[run_string_add_sum w _ _ (by rw[be1,be1];omega),Bl]
section
variable {w w':World}{b:Nat}{most:Int}{t:List Int}
structure MoW (w w1:World) (b:Nat) (most:Int) (t:List Int) (k at_ n:Int) (da:Option Addr) (dn dc:Nat):Prop where
 md:MdT w1 b most t
 bl:b<w
 be:Below w w w1
 sz:w1.heap.size=w.heap.size+2
 bx:w1.heap[w.heap.size]? =some (.cells #[k,at_,n, .slice da dn dc] 34 (0,0))
 rx:w1.heap[w.heap.size+1]? =some (.cells #[.int .i64 0, .int .i64 0, .slice none 0 0, .slice none 0 0] 38 (0,0))
theorem moW(h:MdT w b most t)(k a n:Int)(d:Option Addr)(dn e:Nat)(m:Nat):MoW w ((doW w k a n d dn e).drewN m) b most t k a n d dn e:=by
 obtain⟨f,g,c,i⟩:=be4 w k a n d dn e;exact⟨h.below (bb5 c m),h.lt,bb5 c m,i,f,g⟩
theorem MoW.box {a:World}{k c n:Int}{d:Option Addr}{dn e:Nat}(h:MoW w a b most t k c n d dn e):a.cell? w=k/\a.cell? (w,1)=c/\a.cell? (w,2)=n/\a.cell? (w,3)=some (.slice d dn e):=
 ⟨bb8 a _ 0 _ _ _ h.bx,bb8 a _ 1 _ _ _ h.bx,bb8 a _ 2 _ _ _ h.bx,bb8 a _ 3 _ _ _ h.bx⟩
theorem MoW.store {a:World}{k c n:Int}{e:Option Addr}{dn f:Nat}(h:MoW w a b most t k c n e dn f)(d:List Int):MdT (a.setCell b (.string (strOfNums d))) b most d/\Chg (λj=>j=b) a (a.setCell b (.string (strOfNums d))):=
 ⟨bD h.md 0 _,(Chg.refl (S:=λj=>j=b) (w:=a)).setCell b (Ei rfl) _⟩
theorem xM{a:World}{x:Nat}(h:a.heap[x]? =some (.cells #[.int .i64 0, .int .i64 0, .slice none 0 0, .slice none 0 0] 38 (0,0))):(a.cell? x=some (.int .i64 0)/\a.cell? (x,1)=some (.int .i64 0)/\a.cell? (x,2)=some (.slice none 0 0)/\a.cell? (x,3)=some (.slice none 0 0))/\(a.frozen? x=false/\a.frozen? (x,1)=false/\a.frozen? (x,2)=false/\a.frozen? (x,3)=false):=
 ⟨⟨bb8 a _ 0 _ _ _ h,bb8 a _ 1 _ _ _ h,bb8 a _ 2 _ _ _ h,bb8 a _ 3 _ _ _ h⟩,bc4 a _ 0 _ _ h,bc4 a _ 1 _ _ h,bc4 a _ 2 _ _ h,bc4 a _ 3 _ _ h⟩
theorem MoW.drewN {e:World}{k a n:Int}{c:Option Addr}{dn d:Nat}(h:MoW w e b most t k a n c dn d)(m:Nat):MoW w (e.drewN m) b most t k a n c dn d:=⟨h.md,h.bl,bb5 h.be m,h.sz,h.bx,h.rx⟩
theorem MoW.kept {d:World}{k a n:Int}{g:Option Addr}{dn i:Nat}(h:MoW w d b most t k a n g dn i)(c:List Int):((d.setCell b (.string (strOfNums c))).cell? (w,1)=a/\(d.setCell b (.string (strOfNums c))).cell? (w,2)=n/\(d.setCell b (.string (strOfNums c))).cell? (w,3)=some (.slice g dn i))/\(d.setCell b (.string (strOfNums c))).heap[w.heap.size+1]? =some (.cells #[.int .i64 0, .int .i64 0, .slice none 0 0, .slice none 0 0] 38 (0,0)):=by
 obtain⟨j,f⟩:=h.store c;have l:=h.bl;exact⟨⟨f.cell h.box.2.1 (λe=>by have e:w.heap.size=b:=e;omega),f.cell h.box.2.2.1 (λe=>by have e:w.heap.size=b:=e;omega),f.cell h.box.2.2.2 (λe=>by have e:w.heap.size=b:=e;omega)⟩,f.heap h.rx (λe=>by have e:w.heap.size+1=b:=e;omega)⟩
theorem MoW.fin {o:World}{k i n:Int}{p:Option Addr}{dn q:Nat}(h:MoW w o b most t k i n p dn q)(c:List Int):∃W,W=o.setCell b (.string (strOfNums c))/\(W.cell? (w.heap.size+1,0)=some (.int .i64 0)/\W.cell? (w.heap.size+1,1)=some (.int .i64 0)/\W.cell? (w.heap.size+1,2)=some (.slice none 0 0)/\W.cell? (w.heap.size+1,3)=some (.slice none 0 0))/\(W.frozen? (w.heap.size+1,0)=false/\W.frozen? (w.heap.size+1,1)=false/\W.frozen? (w.heap.size+1,2)=false/\W.frozen? (w.heap.size+1,3)=false)/\Hid (∀a:Act,a.tmps[4]?.getD undef= .pointer (w.heap.size+1,0)->a.defers=[]->bodyPost prog Tryz.f12 (MoR w b most c 0 0 [] []) .ret a ((((W.setCell (w.heap.size+1,0) (.int .i64 0)).setCell (w.heap.size+1,1) (.int .i64 0)).setCell (w.heap.size+1,2) (.slice none 0 0)).setCell (w.heap.size+1,3) (.slice none 0 0))):=by
 obtain⟨r,s⟩:=h.store c;obtain⟨g,f⟩:=xM (h.kept c).2;exact⟨_,rfl,g,f,θ (λa u m=>moEnd (d:=[]) (l:=[]) h.be h.sz r h.bl s h.rx Reads.nil Reads.nil (λj e=>(e.elim aZ aZ).elim) 0 0 0 0 rfl rfl u m)⟩
theorem bg2{S:Nat->Prop}{w w':World}{k:IntKind}{a:Option Addr}{c:List Int}(h:Chg S w w')(g:Reads w k a c)(f:0<c.length->∀d,a=some d->¬S d.block):Reads w' k a c:=λi e=>h.reads g (f E) i e
theorem bf7(h:MdT w b most t)(hl:t.length<=1000000){k:Nat}{n:Int}{c:Option Addr}{f:Nat}{d:List Int}(s:Reads w .u8 c d)(r:0<d.length->∀F,c=some F->F.block≠b)(j:k<=t.length)(K:0<=most)(L:most<=2147483648)(l:(d.length:Int)<=most-t.length)(M:d.length<=1000000):Calls prog 12 #[.pointer b,bN 1 k n c d.length f] w (MoR w b most (oN t k d) 0 0 [] []):=by
 have H:=θ (λm=>moW h 1 k n c d.length f m);have O:=(h.below (be4 w 1 k n c d.length f).2.2.1).cells.1;have B:=(h.below (be4 w 1 k n c d.length f).2.2.1).cells.2;have z:=θ s;have I:=θ r;have hs:=be1 t;have l1:=λw=>slTo j w;have l2:=λw=>bf5 j w;have l3:=λw=>lD (x:=t.take k) (y:=d) (by rw[aQ1];omega) w;have l4:=λw=>lD (x:=t.take k++d) (y:=t.drop k) (by rw[aP3,aQ1,aP5];omega) w;have hw:IntKind.i64.wrap (most-(t.length:Int))=most-(t.length:Int):=aK8 _ E;have R:decide (most-(t.length:Int)<(d.length:Int))=false:=bc0 E;have S:¬((k:Int)<0):=E;have T:¬((t.length:Int)<(k:Int)):=E;have U:decide (t.length<k)=false:=bc0 E;clear h s r j K L l;unfold doW at O B;unfold bN;have v:Hid (∀g:World,Reads g .u8 c d->(convert 32 9 (.slice c d.length f)).run prog g= .ok (.string (strOfNums d)) g):=θ (λg h=>sJ h);have A:Hid (strOfNums (t.take k++d++t.drop k)=strOfNums (oN t k d)):=rfl;generalize C:strOfNums t=st at *;generalize strOfNums (t.take k)=s1 at *;generalize strOfNums (t.drop k)=s2 at *;generalize strOfNums (t.take k++d)=s3 at *;generalize strOfNums (t.take k++d++t.drop k)=s4 at *;generalize P:strOfNums d=sd at *;go_in;go_wp2;go_quiet (fail);obtain⟨D,rfl⟩:=Ez nq;go_wp2_with fail;change Code.wp _ _ _ _ ((doW w 1 k n c d.length f).drewN D);have J:=θ (H.o D);generalize (doW w 1 k n c d.length f).drewN D=g at *;have e:Hid (MoW w g.drew b most t 1 k n c d.length f):=θ (J.o.drewN 1);have q:=e.o.md.cells.1;rw[C]at q;have i:Hid (g.drew.cell? (w,1)=k/\g.drew.cell? (w,3)=some (.slice c d.length f)/\(convert 32 9 (.slice c d.length f)).run prog g.drew= .ok (.string sd) g.drew):=θ ⟨e.o.box.2.1,e.o.box.2.2.2,v.o _ (z.o.below e.o.be)⟩;have N:=bc4 g.drew b 0 _ _ e.o.md;refine as7 (λw'=>w'.cell? (w,1)=k/\w'.cell? (w,3)=some (.slice c d.length f)/\(convert 32 9 (.slice c d.length f)).run prog w'= .ok (.string sd) w'/\w'.cell? b=some (.string st)) 22 Ek (⟨i.o.1,i.o.2.1,i.o.2.2,q⟩) (λa=>?_);refine rl 0 a ?_;refine rl 1 a ?_;refine rl 2 a ?_;refine rl 3 a ?_;refine rl 4 a ?_;refine rl 5 a ?_;refine rl 6 a ?_;refine rl 7 a ?_;refine rl 8 a ?_;refine rl 9 a ?_;refine rl 10 a ?_;refine rl 11 a ?_;refine rl 12 a ?_;refine rl 13 a ?_;refine rl 14 a ?_;refine rl 15 a ?_;refine rl 16 a ?_;refine rl 17 a ?_;refine rl 18 a ?_;refine rl 19 a ?_;refine rl 20 a ?_;refine rl 21 a ?_;refine aF5 rfl Ek Ek rfl ?_;clear a;go_simp;obtain⟨Q,u,⟨Z,g1,g2,g3⟩,⟨V,W,X,Y⟩,p⟩:=e.o.fin (oN t k d);have G:(g.setCell b (.string (strOfNums (oN t k d)))).drew=Q:=u.symm;rw[A.o,G];clear u G;go_wp2_with fail;exact p.o _ rfl rfl
theorem bf6(h:MdT w b most t)(U:t.length<=1000000){k n:Nat}{d:Option Addr}{dn e:Nat}(z:k+n<=t.length):Calls prog 12 #[.pointer b,bN 2 k n d dn e] w (MoR w b most (jW t k n) 0 0 [] []):=by
 have r:=θ (λm=>moW h 2 k n d dn e m);obtain⟨m,A⟩:=Ey (k+n);have v:(k:Int)+(n:Int)=(m:Int):=E;have D:IntKind.i64.wrap (m:Int)=(m:Int):=aK8 _ E;have B:=(h.below (be4 w 2 k n d dn e).2.2.1).cells.1;have V:=be1 t;have X:=λw=>slTo (k:=k) (t:=t) E w;have Y:=λw=>bf5 (k:=m) (t:=t) E w;have Z:=λw=>lD (x:=t.take k) (y:=t.drop m) (by rw[aQ1,aP5];omega) w;have W:IntKind.i64.wrap ((t.length:Int)-(k:Int))=(t.length:Int)-(k:Int):=aK8 _ E;have C:IntKind.i64.wrap ((k:Int)+(n:Int))=(m:Int):=by rw[aK8 _ E];omega
 have G:decide ((t.length:Int)-(k:Int)<(n:Int))=false:=bc0 E;have K:¬((t.length:Int)-(k:Int)<(n:Int)):=E;have L:¬((n:Int)<0):=E;have H:¬((k:Int)<0):=E;have I:¬((t.length:Int)<(k:Int)):=E;have J:decide (t.length<k)=false:=bc0 E;clear h;unfold doW at B;unfold bN;have l:Hid (strOfNums (t.take k++t.drop m)=strOfNums (jW t k n)):=θ (by rw[<-A];rfl);generalize p:strOfNums t=st at *;generalize strOfNums (t.take k)=s1 at *;generalize strOfNums (t.drop m)=s2 at *;generalize strOfNums (t.take k++t.drop m)=s4 at *;go_in;go_wp2_with fail;change Code.wp _ _ _ _ ((doW w 2 k n d dn e).drewN 0);have s:=θ (r.o 0);generalize (doW w 2 k n d dn e).drewN 0=w1 at *;have c:Hid (MoW w w1.drew b most t 2 k n d dn e):=θ (s.o.drewN 1);have i:=c.o.md.cells.1;rw[p]at i;have g:Hid (w1.drew.cell? (w,1)=k/\w1.drew.cell? (w,2)=n):=θ ⟨c.o.box.2.1,c.o.box.2.2.1⟩;have u:=bc4 w1.drew b 0 _ _ c.o.md;refine as7 (λw'=>w'.cell? (w,1)=k/\w'.cell? (w,2)=n/\w'.cell? b=some (.string st)) 21 Ek (⟨g.o.1,g.o.2,i⟩) (λa=>?_);refine rl 0 a ?_;refine rl 1 a ?_;refine rl 2 a ?_;refine rl 3 a ?_;refine rl 4 a ?_;refine rl 5 a ?_;refine rl 6 a ?_;refine rl 7 a ?_;refine rl 8 a ?_;refine rl 9 a ?_;refine rl 10 a ?_;refine rl 11 a ?_;refine rl 12 a ?_;refine rl 13 a ?_;refine rl 14 a ?_;refine rl 15 a ?_;refine rl 16 a ?_;refine rl 17 a ?_;refine rl 18 a ?_;refine rl 19 a ?_;refine rl 20 a ?_;refine aF5 rfl Ek Ek rfl ?_;clear a;go_simp;obtain⟨F,j,⟨Q,R,S,T⟩,⟨M,N,O,P⟩,f⟩:=c.o.fin (jW t k n);have q:(w1.setCell b (.string (strOfNums (jW t k n)))).drew=F:=j.symm;rw[l.o,q];clear j q;go_wp2_with fail;exact f.o _ rfl rfl
theorem bi2(h:MdT w b most t)(hl:t.length<=1000000){k:Nat}{n:Int}{c:Option Addr}{g:Nat}{d:List Int}(q:Reads w .u8 c d)(p:0<d.length->∀A,c=some A->A.block≠b)(I:k+d.length<=t.length):Calls prog 12 #[.pointer b,bN 3 k n c d.length g] w (MoR w b most (iJ t k d) 0 0 [] []):=by
 have C:=θ (λm=>moW h 3 k n c d.length g m);obtain⟨m,J⟩:=Ey (k+d.length);have H:(k:Int)+(d.length:Int)=(m:Int):=E;have N:IntKind.i64.wrap (m:Int)=(m:Int):=aK8 _ E;have K:=(h.below (be4 w 3 k n c d.length g).2.2.1).cells.1;have u:=θ q;have D:=θ p;have hs:=be1 t;have l1:=λw=>slTo (k:=k) (t:=t) E w;have l2:=λw=>bf5 (k:=m) (t:=t) E w;have l3:=λw=>lD (x:=t.take k) (y:=d) (by rw[aQ1];omega) w;have l4:=λw=>lD (x:=t.take k++d) (y:=t.drop m) (by rw[aP3,aQ1,aP5];omega) w;have hw:IntKind.i64.wrap ((t.length:Int)-(k:Int))=(t.length:Int)-(k:Int):=aK8 _ E;have M:IntKind.i64.wrap ((k:Int)+(d.length:Int))=(m:Int):=by rw[aK8 _ E];omega
 have T:¬((t.length:Int)-(k:Int)<(d.length:Int)):=E;have P:decide ((t.length:Int)-(k:Int)<(d.length:Int))=false:=bc0 E;have Q:¬((k:Int)<0):=E;have R:¬((t.length:Int)<(k:Int)):=E;have S:decide (t.length<k)=false:=bc0 E;clear h q p;unfold doW at K;unfold bN;have s:Hid (∀f:World,Reads f .u8 c d->(convert 32 9 (.slice c d.length g)).run prog f= .ok (.string (strOfNums d)) f):=θ (λf h=>sJ h);have v:Hid (strOfNums (t.take k++d++t.drop m)=strOfNums (iJ t k d)):=θ (by rw[<-J];rfl);generalize z:strOfNums t=st at *;generalize strOfNums (t.take k)=s1 at *;generalize strOfNums (t.drop m)=s2 at *;generalize strOfNums (t.take k++d)=s3 at *;generalize strOfNums (t.take k++d++t.drop m)=s4 at *;generalize L:strOfNums d=sd at *;go_in;go_wp2_with fail;change Code.wp _ _ _ _ ((doW w 3 k n c d.length g).drewN 0);have F:=θ (C.o 0);generalize (doW w 3 k n c d.length g).drewN 0=f at *;have e:Hid (MoW w f.drew b most t 3 k n c d.length g):=θ (F.o.drewN 1);have l:=e.o.md.cells.1;rw[z]at l;have i:Hid (f.drew.cell? (w,1)=k/\f.drew.cell? (w,3)=some (.slice c d.length g)/\(convert 32 9 (.slice c d.length g)).run prog f.drew= .ok (.string sd) f.drew):=θ ⟨e.o.box.2.1,e.o.box.2.2.2,s.o _ (u.o.below e.o.be)⟩;have G:=bc4 f.drew b 0 _ _ e.o.md;refine as7 (λw'=>w'.cell? (w,1)=k/\w'.cell? (w,3)=some (.slice c d.length g)/\(convert 32 9 (.slice c d.length g)).run prog w'= .ok (.string sd) w'/\w'.cell? b=some (.string st)) 26 Ek (⟨i.o.1,i.o.2.1,i.o.2.2,l⟩) (λa=>?_);refine rl 0 a ?_;refine rl 1 a ?_;refine rl 2 a ?_;refine rl 3 a ?_;refine rl 4 a ?_;refine rl 5 a ?_;refine rl 6 a ?_;refine rl 7 a ?_;refine rl 8 a ?_;refine rl 9 a ?_;refine rl 10 a ?_;refine rl 11 a ?_;refine rl 12 a ?_;refine rl 13 a ?_;refine rl 14 a ?_;refine rl 15 a ?_;refine rl 16 a ?_;refine rl 17 a ?_;refine rl 18 a ?_;refine rl 19 a ?_;refine rl 20 a ?_;refine rl 21 a ?_;refine rl 22 a ?_;refine rl 23 a ?_;refine rl 24 a ?_;refine rl 25 a ?_;refine aF5 rfl Ek Ek rfl ?_;clear a;go_simp;obtain⟨O,r,⟨Y,Z,g2,g3⟩,⟨U,V,W,X⟩,j⟩:=e.o.fin (iJ t k d);have B:(f.setCell b (.string (strOfNums (iJ t k d)))).drew=O:=r.symm;rw[v.o,B];clear r B;go_wp2_with fail;exact j.o _ rfl rfl
end
def zB(Z:Nat->Prop)(b:Nat)(j:Nat):Prop:=Z j\/j=b
section
variable {B:Nat}{Z Z':Nat->Prop}{w0 w w':World}{q b ra:Nat}{most:Int}{ts t:List Int}{C C':Nat}
end
def StepAt(w:World)(x:Nat)(k at_ n:Int)(da:Option Addr)(dn dc:Nat):Prop:=w.heap[x]? =some (.cells #[k,at_,n, .slice da dn dc] 34 (0,0))
theorem StepAt.cells {w:World}{x:Nat}{k a n:Int}{c:Option Addr}{dn d:Nat}(h:StepAt w x k a n c dn d):w.cell? x=k/\w.cell? (x,1)=a/\w.cell? (x,2)=n/\w.cell? (x,3)=some (.slice c dn d):=
 ⟨bb8 w _ 0 _ _ _ h,bb8 w _ 1 _ _ _ h,bb8 w _ 2 _ _ _ h,bb8 w _ 3 _ _ _ h⟩
section
variable {B:Nat}{Z:Nat->Prop}{w0 w w':World}{q b ra:Nat}{most:Int}{ts t:List Int}{C:Nat}
end
theorem bj2{w W:World}(h:Below w.drew.heap.size w.drew W):Below w w W:=⟨h.os,h.tape,h.output,h.size,h.block⟩
theorem bj3{w:World}(o:Obj):Below w w (w.drew.alloc o):=bj2 (aB _ _)
theorem bf3(w:World)(e:TypeId)(s:ByteArray):Below w w (Lib.bytesWorld w e s):=⟨rfl,rfl,rfl,by rw[Lib.bytesWorld_size];omega,λj a=>Lib.bytesWorld_at_old w e s j a⟩
theorem bf4(w:World)(e:TypeId){t:List Int}(f:aS t):Reads (Lib.bytesWorld w e (strOfNums t)) .u8 (some (w,0)) t:=λi g=>by
 refine⟨_,_,rfl,by rw[Lib.bytesWorld_size];omega,λj c=>?_⟩;rw[aY0,Lib.bytesWorld_cell w e _ j (by rw[be1];exact c)];have h:=mN f;unfold bY at h;have d:=bb9 (λl=>l[j]?.getD 0) h;rw[<-d,aO3,aN4];have a:j<(strOfNums t).data.toList.length:=by rw[be0,aP7];exact c
 rw[aO0 a];rfl
theorem bi5{w:World}(s:ByteArray):(convert 9 32 (.string s)).run prog w= .ok (.slice w s.size (grownCap w s.size 0 5)) (Lib.bytesWorld w 5 s):=Lib.run_convert_string_bytes w 9 32 5 s ba3 aZ9 ba2
section
variable {w w':World}{b:Nat}{most:Int}{t:List Int}
theorem MoW.cell {f a:World}{k c n:Int}{g:Option Addr}{dn i:Nat}(h:MoW w f b most t k c n g dn i)(d:Below f f a):(a.cell? (w,1)=c/\a.cell? (w,2)=n/\a.cell? (w,3)=some (.slice g dn i))/\a.cell? b=some (.string (strOfNums t))/\(a.frozen? (w.heap.size+1,0)=false/\a.frozen? (w.heap.size+1,1)=false/\a.frozen? (w.heap.size+1,2)=false/\a.frozen? (w.heap.size+1,3)=false)/\(a.cell? (w.heap.size+1,0)=some (.int .i64 0)/\a.cell? (w.heap.size+1,1)=some (.int .i64 0)/\a.cell? (w.heap.size+1,2)=some (.slice none 0 0)/\a.cell? (w.heap.size+1,3)=some (.slice none 0 0)):=by
 have e:=aT d h.bx;have j:=aT d h.rx;exact⟨⟨bb8 a _ 1 _ _ _ e,bb8 a _ 2 _ _ _ e,bb8 a _ 3 _ _ _ e⟩,(h.md.below d).cells.1,(xM j).2,(xM j).1⟩
theorem MoW.tell {f g:World}{k i n:Int}{y:Option Addr}{dn z:Nat}(h:MoW w f b most t k i n y dn z)(u:Below f f g){o s:Option Addr}{d l:List Int}(B:Reads g .u8 o d)(C:Reads g .i64 s l)(D:∀j,bM o j\/bM s j->f.heap.size<=j)(c m:Int)(e pc:Nat){v x:Nat}(q:d.length=v)(r:l.length=x){a:Act}(A:a.tmps[4]?.getD undef= .pointer (w.heap.size+1,0))(p:a.defers=[]):bodyPost prog Tryz.f12 (MoR w b most t c m d l) .ret a ((((g.setCell (w.heap.size+1,0) c).setCell (w.heap.size+1,1) m).setCell (w.heap.size+1,2) (.slice o v e)).setCell (w.heap.size+1,3) (.slice s x pc)):=
 moEnd h.be h.sz (h.md.below u) h.bl (Chg.of_below u) h.rx B C D c m e pc q r A p
theorem bg4(h:MdT w b most t)(v:aS t)(hl:t.length<=1000000){k n:Nat}{q:Option Addr}{dn r:Nat}(J:k+n<=t.length):Calls prog 12 #[.pointer b,bN 5 k n q dn r] w (MoR w b most t 0 0 ((t.drop k).take n) []):=by
 have C:=θ (λm=>moW h 5 k n q dn r m);obtain⟨m,hm⟩:=Ey (k+n);have I:(k:Int)+(n:Int)=(m:Int):=E;have M:IntKind.i64.wrap (m:Int)=(m:Int):=aK8 _ E;have K:=(h.below (be4 w 5 k n q dn r).2.2.1).cells.1;have hs:=be1 t;have N:=λw=>slMid (k:=k) (m:=m) (t:=t) E E w;rw[show m-k=n by omega]at N;have hw:IntKind.i64.wrap ((t.length:Int)-(k:Int))=(t.length:Int)-(k:Int):=aK8 _ E;have L:IntKind.i64.wrap ((k:Int)+(n:Int))=(m:Int):=by rw[aK8 _ E];omega
 have R:decide ((t.length:Int)-(k:Int)<(n:Int))=false:=bc0 E;have V:¬((t.length:Int)-(k:Int)<(n:Int)):=E;have W:¬((n:Int)<0):=E;have S:¬((k:Int)<0):=E;have T:¬((t.length:Int)<(k:Int)):=E;have U:decide (t.length<k)=false:=bc0 E;have u:aS ((t.drop k).take n):=jF (oS v k) n;have i:((t.drop k).take n).length=n:=by rw[aQ1,aP5];omega
 clear h;unfold doW at K;unfold bN;generalize H:(t.drop k).take n=d at *;have s:Hid (∀c:World,Reads (Lib.bytesWorld c 5 (strOfNums d)) .u8 (some (c,0)) d/\Below c c (Lib.bytesWorld c 5 (strOfNums d))):=θ (λc=>⟨bf4 c _ u,bf3 c _ _⟩);have O:=λw:World=>bi5 (w:=w) (strOfNums d);have y:(strOfNums d).size=n:=by rw[be1,i]
 rw[y]at O;have z:=θ i;generalize p:strOfNums t=st at *;generalize strOfNums d=sd at *;clear u v i H y;go_in;go_wp2_with fail;change Code.wp _ _ _ _ ((doW w 5 k n q dn r).drewN 0);have F:=θ (C.o 0);generalize (doW w 5 k n q dn r).drewN 0=c at *;have a:Hid (MoW w c.drew b most t 5 k n q dn r):=θ (F.o.drewN 1);have x:=a.o.md.cells.1;rw[p]at x;refine aG (λw'=>w'.cell? (w,1)=k/\w'.cell? (w,2)=n/\w'.cell? b=some (.string st)) Ek (⟨a.o.box.2.1,a.o.box.2.2.1,x⟩) (λl=>?_);refine rV 0 1 2 3 l ?_;refine rV 4 5 6 7 l ?_;refine rV 8 9 10 11 l ?_;refine rg 12 λP B=>?_;go_simp;have f:=θ (s.o c.drew).2;have D:=a.o.cell f.o;obtain⟨_,_,⟨X,Y,Z,f3⟩,⟨g0,g1,g2,g3⟩⟩:=D;refine B.out _ _ (⟨(a.o.cell f.o).1.1,(a.o.cell f.o).1.2.1,(a.o.cell f.o).2.1.trans (by rw[p])⟩) ?_;intro l;try simp only[pt]
 refine rt 13 l ?_;refine rg 14 λP B=>?_;go_simp;refine B.out _ _ (by have g:=(xT (aT f.o a.o.rx) (.int .i64 0) (.int .i64 0) (.slice c.drew n (grownCap c.drew n 0 5)) (.slice none 0 0)).2;exact⟨g.cell (a.o.cell f.o).1.1 (λe=>by have e:w.heap.size=w.heap.size+1:=e;omega),g.cell (a.o.cell f.o).1.2.1 (λe=>by have e:w.heap.size=w.heap.size+1:=e;omega),g.cell ((a.o.cell f.o).2.1.trans (by rw[p])) (λe=>by have e:b=w.heap.size+1:=e;have :=a.o.bl;omega)⟩) ?_;intro l;try simp only[pt]
 refine rz ?_;clear l;go_wp2_with fail;exact a.o.tell f.o (s.o c.drew).1 Reads.nil (λj e=>e.elim (λ⟨Q,A,G⟩=>by injection A with A;subst A;exact Nat.le_of_eq G) (λe=>(aZ e).elim)) 0 0 _ 0 z.o rfl rfl rfl
theorem bg3(h:MdT w b most t)(K:t.length<=1000000){k:Nat}{n:Int}{a:Option Addr}{dn c:Nat}(g:k<=t.length)(r:0<=most)(s:most<=2147483648)(d:most-t.length<(dn:Int)):Calls prog 12 #[.pointer b,bN 1 k n a dn c] w (MoR w b most t 3 0 [] []):=by
 have p:=θ (λm=>moW h 1 k n a dn c m);have u:=(h.below (be4 w 1 k n a dn c).2.2.1).cells.1;have i:=(h.below (be4 w 1 k n a dn c).2.2.1).cells.2;have L:=be1 t;have M:IntKind.i64.wrap (most-(t.length:Int))=most-(t.length:Int):=aK8 _ E;have x:decide (most-(t.length:Int)<(dn:Int))=true:=bc2 E;have y:¬((k:Int)<0):=E;have z:¬((t.length:Int)<(k:Int)):=E;have A:decide (t.length<k)=false:=bc0 E;clear h g r s d;unfold doW at u i;unfold bN;generalize v:strOfNums t=st at *;go_in;go_wp2;go_quiet (fail);obtain⟨f,rfl⟩:=Ez nq;rw[show ((w.alloc (.cells #[.int .i64 1,k,n, .slice a dn c] 34)).alloc (.cells #[.int .i64 0, .int .i64 0, .slice none 0 0, .slice none 0 0] 38)).drewN f=(doW w 1 k n a dn c).drewN f from rfl];have l:=θ (p.o f);generalize (doW w 1 k n a dn c).drewN f=w1 at *;have q:=l.o.cell (aJ6 _ _);obtain⟨_,_,⟨B,C,D,F⟩,⟨G,H,I,J⟩⟩:=q;go_wp2_with fail;exact l.o.tell (aJ6 _ _) Reads.nil Reads.nil (λj e=>(e.elim aZ aZ).elim) 3 0 0 0 rfl rfl rfl rfl
theorem bg0(h:MdT w b most t)(hl:t.length<=90000){g n:Int}{k:Option Addr}{l:Nat}{d:List Int}(v:Reads w .u8 k d)(U:d.length<=90000):Calls prog 12 #[.pointer b,bN 6 g n k d.length l] w (MoR w b most t 0 (lP t d).length [] []):=by
 have N:=θ (λm=>moW h 6 g n k d.length l m);have W:=(h.below (be4 w 6 g n k d.length l).2.2.1).cells.1;have G:Hid (∀i,Calls prog 28 #[.string (strOfNums t), .string (strOfNums d)] i λe w'=>∃a c,e= .returned (.slice a (lP t d).length c)/\Reads w' .i64 a (lP t d)/\(∀j,bM a j->i.heap.size<=j)/\Below i i w'):=θ (λi=>(be7 (strOfNums t) (strOfNums d) i (by rw[be1];omega) (by rw[be1];omega)).mono (λe w' ⟨a,c,S,M,T⟩=>⟨a,c,S,cB M,λj V=>(M.lt j (qT.1 V)).1,T⟩));have s:=θ v;have F:Hid (0<d.length->∀H,k=some H->H.block=w.heap.size+1->False):=θ (λR H e K=>by obtain⟨x,y,Q,h4,_⟩:=v.some R;rw[Q]at e;injection e with e;subst e;have K:x=w.heap.size+1:=K;omega);have hs:=be1 t;clear h v;unfold doW at W;unfold bN;have r:Hid (∀i:World,Reads i .u8 k d->(convert 32 9 (.slice k d.length l)).run prog i= .ok (.string (strOfNums d)) i):=θ (λi h=>sJ h);generalize C:strOfNums t=st at *;generalize X:strOfNums d=sd at *;generalize lP t d=L at *;go_in;go_wp2_with fail;change Code.wp _ _ _ _ ((doW w 6 g n k d.length l).drewN 0);have P:=θ (N.o 0);generalize (doW w 6 g n k d.length l).drewN 0=i at *;have f:Hid (MoW w i.drew b most t 6 g n k d.length l):=θ (P.o.drewN 1);have A:=f.o.md.cells.1;rw[C]at A;have J:=r.o _ (s.o.below f.o.be);refine aG (λw'=>w'.cell? (w,3)=some (.slice k d.length l)/\(convert 32 9 (.slice k d.length l)).run prog w'= .ok (.string sd) w'/\w'.cell? b=some (.string st)) Ek (⟨f.o.box.2.2.2,J,A⟩) (λp=>?_);refine rV 0 1 2 3 p ?_;refine rU 4 5 p ?_;refine rt 6 p ?_;refine rg 7 λY I=>?_;go_simp;refine(G.o _).mono ?_;rintro e w2 ⟨pa,pc,rfl,B,D,z⟩;have q:=θ z;have Z:=θ (And.intro B D);clear B D z;have O:=f.o.cell q.o;obtain⟨_,_,⟨f0,f1,f2,f3⟩,⟨g0,g1,g2,g3⟩⟩:=O;refine I.out _ _ (⟨(f.o.cell q.o).1.2.2,r.o _ ((s.o.below f.o.be).below q.o),(f.o.cell q.o).2.1.trans (by rw[C])⟩) ?_;intro p;try simp only[pt]
 refine rU 8 9 p ?_;refine rg 10 λY I=>?_;go_simp;refine I.out _ _ (by have u:=(xT (aT q.o f.o.rx) (.int .i64 0) (.int .i64 L.length) (.slice none 0 0) (.slice none 0 0)).2;exact⟨u.cell p.1 (λe=>by have e:w.heap.size=w.heap.size+1:=e;omega),r.o _ (bg2 u ((s.o.below f.o.be).below q.o) F.o),u.cell p.2.2 (λe=>by have e:b=w.heap.size+1:=e;have :=f.o.bl;omega)⟩) ?_;intro p;try simp only[pt]
 refine rz ?_;clear p;go_wp2_with fail;exact f.o.tell q.o Reads.nil Reads.nil (λj e=>(e.elim aZ aZ).elim) 0 _ 0 0 rfl rfl rfl rfl
theorem bf8(h:MdT w b most t)(hl:t.length<=90000){g n:Int}{k:Option Addr}{l:Nat}{d:List Int}(p:Reads w .u8 k d)(U:d.length<=90000):Calls prog 12 #[.pointer b,bN 7 g n k d.length l] w (MoR w b most t 0 (lP t d).length [] (lP t d)):=by
 have K:=θ (λm=>moW h 7 g n k d.length l m);have W:=(h.below (be4 w 7 g n k d.length l).2.2.1).cells.1;have D:Hid (∀i,Calls prog 28 #[.string (strOfNums t), .string (strOfNums d)] i λe w'=>∃a c,e= .returned (.slice a (lP t d).length c)/\Reads w' .i64 a (lP t d)/\(∀j,bM a j->i.heap.size<=j)/\Below i i w'):=θ (λi=>(be7 (strOfNums t) (strOfNums d) i (by rw[be1];omega) (by rw[be1];omega)).mono (λe w' ⟨a,c,R,J,S⟩=>⟨a,c,R,cB J,λj V=>(J.lt j (qT.1 V)).1,S⟩));have u:=θ p;have N:Hid (0<d.length->∀F,k=some F->F.block=w.heap.size+1->False):=θ (λQ F e I=>by obtain⟨x,y,P,h4,_⟩:=p.some Q;rw[P]at e;injection e with e;subst e;have I:x=w.heap.size+1:=I;omega);have hs:=be1 t;clear h p;unfold doW at W;unfold bN;have s:Hid (∀i:World,Reads i .u8 k d->(convert 32 9 (.slice k d.length l)).run prog i= .ok (.string (strOfNums d)) i):=θ (λi h=>sJ h);generalize B:strOfNums t=st at *;generalize X:strOfNums d=sd at *;generalize lP t d=L at *;go_in;go_wp2_with fail;change Code.wp _ _ _ _ ((doW w 7 g n k d.length l).drewN 0);have O:=θ (K.o 0);generalize (doW w 7 g n k d.length l).drewN 0=i at *;have f:Hid (MoW w i.drew b most t 7 g n k d.length l):=θ (O.o.drewN 1);have z:=f.o.md.cells.1;rw[B]at z;have G:=s.o _ (u.o.below f.o.be);refine aG (λw'=>w'.cell? (w,3)=some (.slice k d.length l)/\(convert 32 9 (.slice k d.length l)).run prog w'= .ok (.string sd) w'/\w'.cell? b=some (.string st)) Ek (⟨f.o.box.2.2.2,G,z⟩) (λq=>?_);refine rV 0 1 2 3 q ?_;refine rU 4 5 q ?_;refine rt 6 q ?_;refine rg 7 λκ T=>?_;go_simp;refine(D.o _).mono ?_;rintro e w2 ⟨pa,pc,rfl,A,C,v⟩;have r:=θ v;have H:=θ (And.intro A C);clear A C v;have M:=f.o.cell r.o;obtain⟨_,_,⟨Y,Z,f2,f3⟩,⟨g0,g1,g2,g3⟩⟩:=M;refine T.out _ _ (⟨(f.o.cell r.o).1.2.2,s.o _ ((u.o.below f.o.be).below r.o),(f.o.cell r.o).2.1.trans (by rw[B])⟩) ?_;intro q;try simp only[pt]
 refine rt 8 q ?_;refine rz ?_;clear q;go_wp2_with fail;exact f.o.tell r.o Reads.nil H.o.1 (λj e=>e.elim (λe=>(aZ e).elim) (H.o.2 j)) 0 _ 0 _ rfl rfl rfl rfl
theorem bg5(h:MdT w b most t)(l:aS t)(s:t.length<=90000){k at_ n:Int}{j:Option Addr}{dc:Nat}{d:List Int}(e:Reads w .u8 j d)(g:0<d.length->∀p,j=some p->p.block≠b)(q:0<=most)(r:most<=2147483648)(i:d.length<=90000):∃f m G H,Calls prog 12 #[.pointer b,bN k at_ n j d.length dc] w (MoR w b most (aV most t k at_ n d).t f m G H):=by
 unfold aV;by_cases u:k=1
 ·subst u;rw[bd0 rfl];by_cases a:fT t at_ 0=true
  ·rw[bd0 a];obtain⟨x,y,rfl,I,c⟩:=mB a;by_cases o:(d.length:Int)<=most-t.length
   ·rw[bd0 o];exact⟨_,_,_,_,bf7 h E e g E q r o E⟩
   ·rw[bc9 o];exact⟨_,_,_,_,bg3 h E E q r E⟩
  ·rw[bc9 a];exact⟨_,_,_,_,bg8 h E (by simpa using a)⟩
 rw[bc9 u];by_cases v:k=2
 ·subst v;rw[bd0 rfl];by_cases a:fT t at_ n=true
  ·rw[bd0 a];obtain⟨x,y,rfl,rfl,c⟩:=mB a;exact⟨_,_,_,_,bf6 h E c⟩
  ·rw[bc9 a];exact⟨_,_,_,_,bg9 h E (by simpa using a)⟩
 rw[bc9 v];by_cases z:k=3
 ·subst z;rw[bd0 rfl];by_cases a:fT t at_ d.length=true
  ·rw[bd0 a];obtain⟨x,y,rfl,I,c⟩:=mB a;exact⟨_,_,_,_,bi2 h E e g E⟩
  ·rw[bc9 a];exact⟨_,_,_,_,bi0 h E (by simpa using a)⟩
 rw[bc9 z];by_cases A:k=4
 ·subst A;rw[bd0 rfl];exact⟨_,_,_,_,bg7 h⟩
 rw[bc9 A];by_cases B:k=5
 ·subst B;rw[bd0 rfl];by_cases a:fT t at_ n=true
  ·rw[bd0 a];obtain⟨x,y,rfl,rfl,c⟩:=mB a;exact⟨_,_,_,_,bg4 h l E c⟩
  ·rw[bc9 a];exact⟨_,_,_,_,bi1 h E (by simpa using a)⟩
 rw[bc9 B];by_cases C:k=6
 ·subst C;rw[bd0 rfl];exact⟨_,_,_,_,bg0 h s e i⟩
 rw[bc9 C];by_cases D:k=7
 ·subst D;rw[bd0 rfl];exact⟨_,_,_,_,bf8 h s e i⟩
 rw[bc9 D];by_cases F:k=8
 ·subst F;rw[bd0 rfl];exact⟨_,_,_,_,bf9 h⟩
 rw[bc9 F];exact⟨_,_,_,_,bg6 h E⟩
end
structure Tp2 (B:Nat) (w0 w:World) (s q b ra:Nat) (ts tq t:List Int) (C:Nat) (Z:Nat->Prop):Prop where
 st:∃(X Y:Nat->Prop) (c rq cq:Nat) (mq:Int),c<=C/\StT B X w s ra ((70:Nat):Int) ts c/\StT B Y w q rq mq tq cq/\(∀j,j<w.heap.size->X j\/Y j)/\∀j,zB Z b j->X j/\Y j
 md:MdT w b ((70:Nat):Int) t
 le:B<=b
 bl:Below B w0 w
section
variable {B:Nat}{Z Z':Nat->Prop}{w0 w w':World}{s q b ra:Nat}{ts tq t:List Int}{C C':Nat}
theorem Tp2.size (h:Tp2 B w0 w s q b ra ts tq t C Z):B<=w:=by obtain⟨X,Y,c,f,d,e,_,a,_⟩:=h.st;exact a.le
theorem Tp2.one {X Y l:Nat->Prop}{r o m:Nat}{p:Int}{i:List Int}(h:Tp2 B w0 w s q b ra ts tq t C Z)(y:StT B Y w q r p tq o)(g:∀j,j<w.heap.size->X j\/Y j)(d:∀j,zB Z b j->X j/\Y j)(F:StT B l w' s ra ((70:Nat):Int) i m)(A:m<=C')(n:∀j,X j->l j)(c:Chg (exT B X) w w')(z:∀j,Z' j->Z j\/(l j/\w.heap.size<=j/\j<w'.heap.size)):Tp2 B w0 w' s q b ra i tq t C' Z'/\Chg (exT B (zB Z b)) w w':=by
 have f:Chg (exT B (zB Z b)) w w':=c.mono (λj e=>cJ (λk D=>(d k D).1) e);refine⟨⟨⟨l,_,m,r,o,p,A,F,y.aside c (λj u v x=>(g j v).elim x.2 u.2),λj a=>?_,λj a=>?_⟩,h.md.chg c (λe=>e.2 (d b (Ej rfl)).1),h.le,h.bl.trans (bZ f h.size)⟩,f⟩
 ·by_cases e:j<w.heap.size
  ·exact(g j e).imp (n j) Ei
  ·exact Ej (Ej ⟨E,a⟩)
 ·rcases a with a | a
  ·rcases z j a with e | e
   ·exact⟨n j (d j (Ei e)).1,Ei (d j (Ei e)).2⟩
   ·exact⟨e.1,Ej e.2⟩
  ·exact⟨n j (d j (Ej a)).1,Ei (d j (Ej a)).2⟩
theorem Tp2.two {X Y:Nat->Prop}{c o m:Nat}{n:Int}{g:List Int}(h:Tp2 B w0 w s q b ra ts tq t C Z)(v:StT B X w s ra ((70:Nat):Int) ts c)(x:c<=C)(f:∀j,j<w.heap.size->X j\/Y j)(l:∀j,zB Z b j->X j/\Y j)(z:StT B Y w' q o n g m)(a:Chg (exT B Y) w w'):Tp2 B w0 w' s q b ra ts g t C Z/\Chg (exT B (zB Z b)) w w':=by
 have d:Chg (exT B (zB Z b)) w w':=a.mono (λj e=>cJ (λk y=>(l k y).2) e);refine⟨⟨⟨_,Y,c,o,m,n,x,v.aside a (λj p r u=>(f j r).elim p.2 u.2),z,λj i=>?_,λj i=>⟨Ei (l j i).1,(l j i).2⟩⟩,h.md.chg a (λe=>e.2 (l b (Ej rfl)).2),h.le,h.bl.trans (bZ d h.size)⟩,d⟩;by_cases e:j<w.heap.size
 ·exact(f j e).imp Ei id
 ·exact Ei (Ej ⟨E,i⟩)
theorem Tp2.mono (h:Tp2 B w0 w s q b ra ts tq t C Z)(n:∀j,Z' j->Z j)(u:C<=C'):Tp2 B w0 w s q b ra ts tq t C' Z':=by
 obtain⟨⟨X,Y,c,p,a,o,r,d,e,f,g⟩,i,k,l⟩:=h;exact⟨⟨X,Y,c,p,a,o,E,d,e,f,λj m=>g j (m.imp (n j) id)⟩,i,k,l⟩
theorem Tp2.add (h:Tp2 B w0 w s q b ra ts tq t C Z)(f:Below w w w')(u:∀j,Z' j->Z j\/(w.heap.size<=j/\j<w'.heap.size)):Tp2 B w0 w' s q b ra ts tq t C Z':=by
 have r:=h.size;obtain⟨⟨X,Y,c,x,g,v,i,k,l,m,d⟩,n,o,p⟩:=h;refine⟨⟨_,_,c,x,g,v,i,k.less f (λj e=>e),l.less f (λj e=>e),λj a=>?_,λj a=>?_⟩,n.below f,o,p.trans (f.mono r)⟩
 ·by_cases e:j<w.heap.size
  ·exact(m j e).imp Ei Ei
  ·exact Ej (Ej ⟨E,a⟩)
 ·rcases a with a | a
  ·rcases u j a with e | e
   ·exact⟨Ei (d j (Ei e)).1,Ei (d j (Ei e)).2⟩
   ·exact⟨Ej e,Ej e⟩
  ·exact⟨Ei (d j (Ej a)).1,Ei (d j (Ej a)).2⟩
theorem Tp2.below (h:Tp2 B w0 w s q b ra ts tq t C Z)(a:Below w w w'):Tp2 B w0 w' s q b ra ts tq t C Z:=h.add a (λj e=>Ei e)
theorem Tp2.start {w i a:World}{s q ra n c l:Nat}{m:Int}(h:StT w (λ_=>False) i s ra ((70:Nat):Int) [] c)(r:Below w w i)(g:StT i (λ_=>False) a q n m [] l)(d:Below i i a):Tp2 w w (a.alloc (.cells #[.string (strOfNums []),((70:Nat):Int)] 31)) s q a ra [] [] [] c (λ_=>False):=by
 have f:=aB a (.cells #[.string (strOfNums []),((70:Nat):Int)] 31);have x:=r.size;have D:=d.size;have v:StT w (λj=>j<i) a q n m [] l:=by
  obtain⟨p,u,z,A,y,R,M,h⟩:=g;have F:=h.le;refine⟨p,u,z,A,y,R,M,⟨h.lv.mono (λj e=>⟨e.1,e.2.elim (λo=>by have :=e.1;omega) Ej⟩),E,h.q0,⟨?_,?_⟩⟩⟩
  ·have :=h.qx.1;omega
  ·have :=h.qx.1;intro e;omega
 refine⟨⟨_,_,c,n,l,m,aV3 _,(h.less d (λj e=>e)).less f (λj e=>e),v.less f (λj e=>e),λj k=>?_,λj k=>?_⟩,bc6 a _,E,(r.trans (d.mono x)).trans (f.mono E)⟩
 ·by_cases e:j<i
  ·exact Ej (Ei e)
  ·by_cases o:j<a
   ·exact Ei (Ei (Ej ⟨E,o⟩))
   ·exact Ei (Ej ⟨E,k⟩)
 ·rcases k with k | rfl
  ·exact k.elim
  ·exact⟨Ej ⟨aV3 _,Es⟩,Ej ⟨aV3 _,Es⟩⟩
theorem Tp2.sdo (h:Tp2 B w0 w s q b ra ts tq t C Z)(a:BitTab w)(x:0<B){k at_ n:Int}{i:Option Addr}{dc:Nat}{d:List Int}(r:Reads w .u8 i d)(f:i=none->d.length=0/\dc=0)(p:0<d.length->∀g,i=some g->g.block<B)(l:aS d)(I:ts.length<=70)(o:d.length<=10000)(S:C+dG ts k n d+ts.length+d.length+10<=1000000):Calls prog 11 #[.pointer s,bN k at_ n i d.length dc] w λe w'=>(∃v,e= .returned v)/\Tp2 B w0 w' s q b ra (aV ((70:Nat):Int) ts k at_ n d).t tq t (C+dG ts k n d+ts.length+1) Z/\Chg (exT B (zB Z b)) w w':=by
 have H:=h;obtain⟨⟨X,Y,c,V,L,T,O,z,A,D,F⟩,P,Q,R⟩:=h;refine(vF z a x r f (λy g e J=>by have :=p y g e;have :=J.1;omega) l E I o E).mono ?_;rintro e w' ⟨M,N,U,pc,rfl,_,_,⟨K,G,u⟩,m,_⟩;exact⟨⟨_,rfl⟩,H.one A D F (u.mono (λj e=>Ei e)) E (λj e=>e) m (λj e=>Ei e)⟩
theorem Tp2.mdo (h:Tp2 B w0 w s q b ra ts tq t C Z){k at_ n:Int}{g:Option Addr}{dc:Nat}{d:List Int}(y:Reads w .u8 g d)(u:0<d.length->∀f,g=some f->f.block<B)(r:aS t)(U:t.length<=70)(O:d.length<=10000):Calls prog 12 #[.pointer b,bN k at_ n g d.length dc] w λe w'=>(∃v,e= .returned v)/\Tp2 B w0 w' s q b ra ts tq (aV ((70:Nat):Int) t k at_ n d).t C Z:=by
 have z:=h.size;obtain⟨⟨X,Y,c,Q,F,P,H,I,J,K,i⟩,L,D,M⟩:=h;obtain⟨A,m,R,S,N⟩:=bg5 (dc:=dc) (k:=k) (at_:=at_) (n:=n) L r E y (λG f e=>by have :=u G f e;omega) E E E;refine N.mono ?_;rintro e w' ⟨g,dc,V,pc,rfl,_,_,x,a⟩;have T:=a.size;refine⟨⟨_,rfl⟩,⟨_,_,c,Q,F,P,H,I.aside a (λj o _ p=>o.2 (p▸(i b (Ej rfl)).1)),J.aside a (λj o _ p=>o.2 (p▸(i b (Ej rfl)).2)),λj l=>?_,λj l=>⟨Ei (i j l).1,Ei (i j l).2⟩⟩,x,D,M.trans (a.below (λj e=>by subst e;exact D) z)⟩;by_cases e:j<w
 ·exact(K j e).imp Ei Ei
 ·exact Ej (Ej ⟨E,l⟩)
theorem Tp2.save (h:Tp2 B w0 w s q b ra ts tq t C Z)(A:ts.length<=70):Calls prog 13 #[.pointer s] w λe w'=>∃R g d,IsRows (aA ts) R/\e= .returned (.tuple #[.slice (some ⟨g,0,none⟩) (bI 70 ra ts R).length d, .int .i64 0])/\Reads w' .u8 (some (g,0)) (bI 70 ra ts R)/\(bI 70 ra ts R).length<=d/\d<=9223372036854775807/\Tp2 B w0 w' s q b ra ts tq t C Z:=by
 have H:=h;obtain⟨⟨X,Y,c,L,F,K,n,o,p,r,u⟩,G,I,J⟩:=h;refine(Wo o A E E).mono ?_;rintro e w' ⟨R,a,d,v,rfl,m,x,y⟩;have f:0<(bI 70 ra ts R).length:=by unfold bI zA;rw[aP3,eM];omega
 obtain⟨g,l,D,z,_,k,i,_,_⟩:=cS m f;obtain⟨rfl,-,rfl⟩:=Value.slice.inj D;exact⟨R,g,d,v,rfl,cB m,k,by have :=i;unfold maxLen at this;omega,(H.one p r u (x.mono (λj e=>Ei e)) n (λj e=>e) y (λj e=>Ei e)).1⟩
theorem Tp2.load {g pc:Nat}{R:List Nat}(h:Tp2 B w0 w s q b ra ts tq t C Z)(d:aS ts)(o:IsRows (aA ts) R)(u:Reads w .u8 (some (g,0)) (bI 70 ra ts R))(v:ts.length<=70)(x:1<=ra)(i:ra<=64)(f:(bI 70 ra ts R).length<=pc)(a:pc<=9223372036854775807):Calls prog 15 #[.pointer q, .slice g (bI 70 ra ts R).length pc] w λe w'=>e= .returned (.int .i64 0)/\Tp2 B w0 w' s q b ra ts ts t C Z:=by
 have H:=h;obtain⟨⟨X,Y,c,G,y,F,j,k,l,m,n⟩,z,A,D⟩:=h;refine(Wj l d o u v E E x i f a).mono ?_;rintro e w' ⟨rfl,p,r⟩;exact⟨rfl,(H.two k j m n p r).1⟩
theorem Tp2.fine (h:Tp2 B w0 w s q b ra ts tq t C Z)(a:aS tq)(m:tq.length<=100000):Calls prog 16 #[.pointer q, .string (strOfNums tq)] w λe w'=>e= .returned (.bool true)/\Tp2 B w0 w' s q b ra ts tq t C Z:=by
 have H:=h;obtain⟨⟨X,Y,c,v,n,u,d,f,g,i,j⟩,o,p,r⟩:=h;refine(Kq g (strOfNums tq) (mN a) m).mono ?_;rintro e w' ⟨rfl,k,l⟩;exact⟨rfl,(H.two f d i j k l).1⟩
end
theorem svStep(s:Nat)(b:Bool)(w:World)(h:s<2^32):Calls prog 75 #[.int .u32 s, .bool b] w (λe k=>e= .returned (.int .u32 (dV (s^^^(if b then 1 else 0))))/\w=k):=by
 have c:∀x:Nat,x<2^32->bits .and .u32 (x:Int) 1=((x%2:Nat):Int)/\bits .xor .u32 ((x/2:Nat):Int) 3988292384=((x/2^^^3988292384:Nat):Int):=λx j=>⟨Gi j,yJ (a:=x/2) (b:=3988292384) E E⟩;have l:bits .xor .u32 (s:Int) 1=((s^^^1:Nat):Int):=yJ (a:=s) (b:=1) h Ed;have i:s^^^1<2^32:=Nat.xor_lt_two_pow h Ed;cases b with
 | true=>
  obtain⟨f,g⟩:=c _ i;simp only[bd1];generalize s^^^1=x at *;by_cases d:x%2=1
  ·rw[d]at f;have e:dV x=(x/2)^^^3988292384:=by unfold dV;rw[bd0 d]
   rw[e];clear d e c;go_in;go_wp2;go_ret;exact⟨by rw[<-g];rfl,rfl⟩
  ·rw[show x%2=0 by omega]at f;have e:dV x=x/2:=by unfold dV;rw[bc9 d]
   rw[e];clear d e c;go_in;go_wp2;go_ret;exact⟨by rfl,rfl⟩
 | false=>
  obtain⟨f,g⟩:=c _ h;rw[show s^^^(if false=true then 1 else 0)=s by simp];by_cases d:s%2=1
  ·rw[d]at f;have e:dV s=(s/2)^^^3988292384:=by unfold dV;rw[bd0 d]
   rw[e];clear d e c;go_in;go_wp2;go_ret;exact⟨by rw[<-g];rfl,rfl⟩
  ·rw[show s%2=0 by omega]at f;have e:dV s=s/2:=by unfold dV;rw[bc9 d]
   rw[e];clear d e c;go_in;go_wp2;go_ret;exact⟨by rfl,rfl⟩
theorem svBit(n m s:Nat)(w:World)(d:s<2^32):Calls prog 75 #[.int .u32 s, .bool ((n:Int)/2^m%2==1)] w (λe f=>e= .returned (.int .u32 (dV (s^^^(n/2^m%2))))/\w=f):=by
 have c:(n:Int)/2^m=((n/2^m:Nat):Int):=Es;have h:=svStep s ((n:Int)/2^m%2==1) w d;rw[c]at h⊢;generalize n/2^m=x at *;rcases Nat.mod_two_eq_zero_or_one x with b | b
 ·have a:((x:Int)%2==1)=false:=by rw[bb6];omega
  rw[a]at h⊢;rw[b];exact h
 ·have a:((x:Int)%2==1)=true:=by rw[bb7];omega
  rw[a]at h⊢;rw[b];exact h
theorem aB6{P:Program}{t:TypeId}(p:P.underlying t=some .string){l:List Int}{a:ByteArray}{k n:Nat}(d:strOfNums l=a)(f:l[k]? =some (n:Int))(o:∀c∈l,0<=c/\c<256)(w:World):(Instr.index t (.string a) (.int .i64 (k:Int))).run P w= .ok (.int .u8 (n:Int)) w:=by
 have r:=(aO2.1 f).1;have s:a.size=l.length:=by rw[<-d];exact be1 l
 rw[run_index_string w t a .i64 k p,dif_pos ⟨E,E⟩];have h:=mN o;rw[d]at h;unfold bY at h;have e:(a.data.toList.map λb=>(b.toNat:Int))[k]? =some (n:Int):=by rw[h];exact f
 rw[aO3,aY4]at e;obtain⟨b,g,i⟩:=e;have j:a[k]'(E)=b:=by
  obtain⟨q,m⟩:=aO2.1 g;rw[<-m];rfl
 simp only[aK5];rw[j,i]
theorem aj4(n m:Nat):bits .and .u8 ((n:Int)/2^m) 1=((n/2^m%2:Nat):Int):=by
 have a:(n:Int)/2^m=((n/2^m:Nat):Int):=Es;rw[a];generalize n/2^m=x;have b:((x:Int)%2^8).toNat=x%256:=E;have c:((1:Int)%2^8).toNat=1:=Ed;show IntKind.u8.wrap (((((x:Int)%2^8).toNat&&&((1:Int)%2^8).toNat:Nat)):Int)=_;rw[b,c,Nat.and_one_is_mod,IntKind.wrap_u8];omega
theorem aA6(c:Nat){k s:Nat}(h:s<2^32):lY c k s<2^32:=by
 induction k with
 | zero=>exact h
 | succ k a=>exact Rt (Nat.xor_lt_two_pow a E)
theorem Nr{l:List Int}(w:World)(v:∀c∈l,0<=c/\c<256)(H:l.length<=1000000000):Calls prog 36 #[.int .u32 0, .string (strOfNums l)] w (λe I=>e= .returned (.int .u32 (cQ l:Nat))/\w=I):=by
 have r:=θ v;have J:=Jk (s:=0) Ed;have O:=be1 l;have L:Hid ((strOfNums l).data.toList.map (λb:UInt8=>(b.toNat:Int))=l):=θ (mN v);generalize y:strOfNums l=st at *;clear v;go_in;go_wp2;go_loopw [0,5] (λs i z=>∃k:Nat,k<=l.length/\i= .int .i64 k/\s= .int .u32 (gM (l.take k) 4294967295:Nat)/\z=w) (λ_ i _=>l.length-(intOf i).toNat);exact⟨0,aY1 _,rfl,by rw[aU2];rfl,rfl⟩;as_aux_lemma=>
  obtain⟨k,M,rfl,rfl,rfl⟩:=hrel;have a:=Rv (l:=l.take k) (λc h=>r.o c (aR7 h)) (s:=4294967295) Ed;by_cases x:k<l.length
  ·obtain⟨c,h⟩:∃c,l[k]? =some c:=⟨_,aO0 x⟩;obtain⟨C,D⟩:=r.o c (aR5 h);obtain⟨n,rfl⟩:∃n:Nat,c=n:=⟨c.toNat,E⟩;have u:Hid (gM (l.take (k+1)) 4294967295=lY n 8 (gM (l.take k) 4294967295)):=θ (by rw[aT5,h];show gM (l.take k++[(n:Int)]) _=_;rw[Gs,aA7 E];rfl);generalize gM (l.take k) 4294967295=d at *;have q:=θ (λw=>aB6 (P:=prog) ba3 y h r.o w);go_wp2;go_loopw [0,6] (λs j z=>∃m:Nat,m<=8/\j= .int .i64 m/\s= .int .u32 (lY n m d:Nat)/\z=wr) (λ_ j _=>8-(intOf j).toNat);exact⟨0,aY1 _,rfl,rfl,rfl⟩;as_aux_lemma=>
    obtain⟨m,N,rfl,rfl,rfl⟩:=hrel;have g:=aA6 n (k:=m) a;by_cases G:m<8
    ·have F:∀w:World,(Instr.index 9 (.string st) (.int .i64 (k:Int))).run prog w= .ok (.int .u8 (n:Int)) w:=q.o;have A:=aj4 n m;have f:=θ (svBit n m (lY n m d) wr g);rw[show dV (lY n m d^^^(n/2^m%2))=lY n (m+1) d from rfl]at f;generalize p:lY n (m+1) d=s2 at *;have t:=θ p;clear p;generalize lY n m d=s1 at *;go_wp2_with fail;refine Cq f.o ?_;go_wp2;go_roundw;exact⟨m+1,E,by first | rfl | go_num,by rw[t.o],trivial⟩;simp[intOf];omega
    ·obtain rfl:m=8:=E;rw[<-u.o];go_wp2;go_roundw;exact⟨k+1,E,by first | rfl | go_num,rfl,trivial⟩;simp[intOf];omega
  ·obtain rfl:k=l.length:=E;rw[aT8]at a⊢;have K:=Jk a;have B:Hid (cQ l=4294967295-gM l 4294967295):=rfl;generalize gM l 4294967295=d at *;go_wp2;go_ret;exact⟨by rw[B.o];rfl,rfl⟩
theorem xZ(x:Nat)(w:World)(c:x<256):Below w w (w.alloc (.cells #[.int .u8 (x:Int)] 5))/\(convert 32 9 (.slice w 1 1)).run prog (w.alloc (.cells #[.int .u8 (x:Int)] 5))= .ok (.string (strOfNums [(x:Int)])) (w.alloc (.cells #[.int .u8 (x:Int)] 5)):=
 ⟨aB w _,sJ (xs:=[(x:Int)]) (λi b=>⟨_,0,rfl,Es,λj a=>by
  have :j=0:=by simpa using a
  subst this
  rw[bb8 _ _ _ _ _ _ (bc6 w _)];rfl⟩)⟩
theorem Xt{x:Nat}(h:x<2^64):bits .and .u64 (x:Int) 127=((x%128:Nat):Int):=by
 have a:((x:Int)%2^64).toNat=x:=E;have b:((127:Int)%2^64).toNat=127:=Ed;have c:x&&&127=x%128:=aU8 x 7;show IntKind.u64.wrap (((((x:Int)%2^64).toNat&&&((127:Int)%2^64).toNat:Nat)):Int)=_;rw[a,b,c,aK7];omega
theorem or_8{x:Nat}(h:x<128):bits .or .u8 (x:Int) 128=((x+128:Nat):Int):=by
 have :=aa8 x;rw[aW1 h,show ((x:Int)%256)=(x:Int) by omega]at this;exact this
theorem svPut(N:Nat)(w:World)(C:N<2^64):Calls prog 30 #[.int .u64 (N:Int)] w (λe K=>e= .returned (.string (strOfNums (aK N)))/\Below w w K):=by
 have P:=cD C;have A:=Xt C;have M:=θ (λx w u=>xZ x w u);have B:=(xZ (N%128) w E).2;have F:IntKind.u8.wrap ((N%128:Nat):Int)=((N%128:Nat):Int):=by rw[IntKind.wrap_u8];omega
 have a:=θ (xZ (N%128) w E).1;have v:Hid ([((N%128:Nat):Int)]=(aK N).drop (nJ N)):=θ (by
  have :=aQ N
  rw[aM5 E,aM6 E]
  have h:=Az (aV3 (nJ N))
  rw[aO0 E]at h
  injection h with h
  rw[h,Dj])
 generalize N%128=x0 at *;go_in;go_wp2;go_loopw [0,3] (λn s L=>∃j:Nat,j<=nJ N/\n= .int .u64 ((N/2^(7*j):Nat):Int)/\s= .string (strOfNums ((aK N).drop (nJ N-j)))/\Below w w L) (λn _ _=>(intOf n).toNat);exact⟨0,aY1 _,Es,by rw[v.o];rfl,a.o⟩;as_aux_lemma=>
  obtain⟨j,Q,rfl,rfl,D⟩:=hrel;have c:=Ll N j;have I:N/2^(7*j)<=N:=Nat.div_le_self _ _;have f:N/2^(7*(j+1))=N/2^(7*j)/128:=by rw[show 7*(j+1)=7*j+7 by omega,Nat.pow_add,<-aU9]
  have d:=θ D;clear A B F v a D;by_cases t:j<nJ N
  ·have u:=c.2 t;have g:fS N (nJ N-(j+1))=N/2^(7*(j+1))%128+128:=by
    rw[Dk E,show nJ N-(nJ N-(j+1))=j+1 by omega,Nat.pow_mul]
   have l:Hid ((aK N).drop (nJ N-(j+1))=[((N/2^(7*(j+1))%128+128:Nat):Int)]++(aK N).drop (nJ N-j)):=θ (by
    have :=aQ N
    rw[aM5 E,show nJ N-(j+1)+1=nJ N-j by omega]
    have h:=Az (show nJ N-(j+1)<=nJ N by omega)
    rw[aO0 E]at h
    injection h with h
    rw[h,g]
    rfl)
   have G:((aK N).drop (nJ N-j)).length<=10:=by rw[aP5,aQ];omega
   rw[f]at l;have z:=θ f;generalize N/2^(7*j)=x at *;clear c g f;obtain⟨y,f⟩:=Ey (x/128);have H:(x:Int)/128=(y:Int):=E;have q:decide ((128:Int)<=(x:Int))=true:=bc2 E;have r:decide (128<=x)=true:=bc2 E;rw[f]at l z;have A:=Xt (x:=y) E;have O:=or_8 (x:=y%128) E;have F:IntKind.u8.wrap ((y%128:Nat):Int)=((y%128:Nat):Int):=by rw[IntKind.wrap_u8];omega
   have B:=(xZ (y%128+128) wr E).2;have a:=θ (xZ (y%128+128) wr E).1;have J:=λw=>lD (x:=[((y%128+128:Nat):Int)]) (y:=(aK N).drop (nJ N-j)) (by rw[List.length_singleton];omega) w;rw[<-l.o]at J;generalize y%128+128=b at *;generalize y%128=b0 at *;generalize k:strOfNums ((aK N).drop (nJ N-(j+1)))=s2 at *;generalize strOfNums ((aK N).drop (nJ N-j))=s1 at *;generalize strOfNums [(b:Int)]=s0 at *;have p:=θ k;clear k;go_wp2;go_roundw;exact⟨j+1,E,by rw[z.o],by rw[p.o],d.o.trans (a.o.mono d.o.size)⟩;simp[intOf];omega
  ·obtain rfl:j=nJ N:=E;have u:¬128<=N/2^(7*nJ N):=λh=>by have :=c.1 h;omega
   rw[aW9,bi7];generalize N/2^(7*nJ N)=x at *;have q:decide ((128:Int)<=(x:Int))=false:=bc0 E;have r:decide (128<=x)=false:=bc0 E;generalize i:strOfNums (aK N)=s0 at *;have m:=θ i;clear c f i;go_wp2;go_ret;exact⟨by rw[m.o];rfl,d.o⟩
theorem Ga(N:Nat)(w:World)(m:N<2^32):Calls prog 35 #[.int .u32 (N:Int)] w (λe l=>e= .returned (.string (strOfNums (bW N)))/\Below w w l):=by
 have g:Hid (bW N=[((N%256:Nat):Int),((N/256%256:Nat):Int),((N/65536%256:Nat):Int),((N/16777216%256:Nat):Int)]):=rfl;have p:IntKind.u8.wrap (N:Int)=((N%256:Nat):Int):=by rw[IntKind.wrap_u8];omega
 have q:IntKind.u8.wrap ((N:Int)/256)=((N/256%256:Nat):Int):=by rw[IntKind.wrap_u8];omega
 have r:IntKind.u8.wrap ((N:Int)/65536)=((N/65536%256:Nat):Int):=by rw[IntKind.wrap_u8];omega
 have s:IntKind.u8.wrap ((N:Int)/16777216)=((N/16777216%256:Nat):Int):=by rw[IntKind.wrap_u8];omega
 have f:Reads (w.alloc (.cells #[.int .u8 ((N%256:Nat):Int), .int .u8 ((N/256%256:Nat):Int), .int .u8 ((N/65536%256:Nat):Int), .int .u8 ((N/16777216%256:Nat):Int)] 5)) .u8 (some (w,0)) (bW N):=λi n=>⟨_,0,rfl,Es,λj d=>by
  rw[bb8 _ _ _ _ _ _ (bc6 w _)]
  rw[eM]at d
  match j,d with
  | 0,_=>rfl
  | 1,_=>rfl
  | 2,_=>rfl
  | 3,_=>rfl⟩
 have k:=sJ (c:=4) f;rw[eM]at k;have b:=θ (aB w (.cells #[.int .u8 ((N%256:Nat):Int), .int .u8 ((N/256%256:Nat):Int), .int .u8 ((N/65536%256:Nat):Int), .int .u8 ((N/16777216%256:Nat):Int)] 5));generalize a:strOfNums (bW N)=s0 at *;have h:=θ a;clear a f g;generalize N%256=x0 at *;generalize N/256%256=x1 at *;generalize N/65536%256=x2 at *;generalize N/16777216%256=x3 at *;go_in;go_wp2;go_ret;exact⟨rfl,b.o⟩
theorem Tryz.infoRefRun:(prog.info? 119).map (λi=>(i.zero,i.size,i.bytes))=some (some (.agg #[.int .i64 0, .int .i64 0]),2,16):=Ek
def GivesQ(B:Nat)(w:World)(R:List (Int×Nat))(e:Ending)(w':World):Prop:=∃v,e= .returned v/\w'.ownsRow B 119 2 v R.length (eG R)/\Below B w w'
theorem svRuns{l:List Int}(pa:Option Addr)(pc:Nat)(w:World)(hp:Reads w .i64 pa l)(a9:l.length<=1000000):Calls prog 74 #[.slice pa l.length pc] w (GivesQ w w (aU l)):=by
 have HP:=θ hp;clear hp;go_in;go_wp2;go_loopw [3,4] (λv i wx=>∃k:Nat,k<=l.length/\i= .int .i64 k/\wx.ownsRow w 119 2 v (aU (l.take k)).length (eG (aU (l.take k)))/\Below w w wx) (λ_ i _=>l.length-(intOf i).toNat);exact⟨0,aY1 _,rfl,bb2 _ _ _ _,aJ6 _ _⟩;as_aux_lemma=>
  obtain⟨k,hk,rfl,a,L⟩:=hrel;have D:=L.size;by_cases U:k<l.length
  ·obtain⟨b,K,rfl,a0,P⟩:=HP.o.some E;obtain⟨s,hs⟩:∃s,l[k]? =some s:=⟨_,aO0 U⟩;have B:=(L.cell (p:=(b,K+k)) a0).trans (P k U);rw[hs,aY3]at B;have H:=θ (zP hs);have T:=fZ (l.take k);have C:=λr (h:r∈aU (l.take k))=>gX h;rw[aQ1,aW0 E]at T C;have M:=θ L;clear P hs L;generalize aU (l.take k)=R at *;rcases List.eq_nil_or_concat R with rfl | ⟨Q,⟨x,n⟩,rfl⟩
   ·obtain⟨a4,c4,rfl,_,_⟩:=aD a;rw[tZ]at H;go_wp2;go_quiet (fail);obtain⟨m,rfl⟩:=Ez nq;have I:Hid (Below w w (wr.drewN m)):=θ (bb5 M.o m);have u:(wr.drewN m).ownsRow w 119 2 (.slice a4 ([]:List (Int×Nat)).length c4) ([]:List (Int×Nat)).length (eG []):=a;have a1:(wr.drewN m).cell? (b,K+k)=some (.int .i64 s):=B;have t:w.heap.size<=(wr.drewN m).heap.size:=D;clear a B M D;generalize wr.drewN m=wd at *;go_wp2_with (at_builtin;refine gV rfl _ _ 116 rfl w 119 Tryz.infoRefRun Tryz.underlying116 rfl _ _ _ rfl u rfl rfl rfl ?c1 ?c2 ?c3 ?_);case c1=>unfold maxLen;omega
    case c2=>omega
    case c3=>exact t
    intro g5 G W c d _ _;have A:Below w w W:=I.o.grown d t (λj hj=>(u.lt j hj).1);have F:=θ (And.intro (show W.ownsRow w 119 2 (.slice g5 ([(s,1)]:List (Int×Nat)).length G) ([(s,1)]:List (Int×Nat)).length (eG [(s,1)])from c) A);clear u c d A;rw[<-H.o]at F;go_wp2;go_roundw;case rel=>
     refine⟨k+1,E,by go_num,?_,F.o.2⟩;have :=F.o.1;rw[H.o]at this⊢;exact this
    case measure=>simp[intOf];omega
   ·rw[List.concat_eq_append]at *;obtain⟨g,O,rfl,a2,a7,a3,a8,f,S⟩:=rH a Es;have hl:(Q++[(x,n)]).length=Q.length+1:=Es;have hx:=qM (R:=Q++[(x,n)]) (k:=Q.length) (r:=(x,n)) Es;have c0:=f _ _ hx.1;have c1:=f _ _ hx.2;have f1:=S (Q.length*2+1);rw[hl]at a T a3⊢;have hn:n<=k:=C (x,n) Es;have y:=θ a;clear f S hx hl C a;by_cases e:x=s
    ·subst e;rw[sC]at H;have J:=Lt y.o (Q.length*2+1) ((n:Int)+1:Int);have V:=By (j:=Q.length*2+1) M.o D a2 ((n:Int)+1:Int);rw[Nb]at J;have HS:=θ (And.intro J V);clear J V;have X:Hid ((Q++[(x,n+1)]).length=Q.length+1):=θ Es;generalize Q.length=q at *;go_wp2;go_quiet (fail);obtain⟨m,rfl⟩:=Ez nq;have a5:(wr.drewN m).cell? (g,q*2+1)=n:=c1;have a6:(wr.drewN m).frozen? (g,q*2+1)=false:=f1;have N:Hid (((wr.drewN m).setCell (g,q*2+1) ((n:Int)+1:Int)).ownsRow w 119 2 (.slice g (q+1) O) (q+1) (eG (Q++[(x,n+1)]))/\Below w w ((wr.drewN m).setCell (g,q*2+1) ((n:Int)+1:Int))):=θ ⟨HS.o.1,HS.o.2.trans ⟨rfl,rfl,rfl,aV3 _,λ_ _=>rfl⟩⟩;clear HS c1 f1 c0;generalize wr.drewN m=wd at *;go_wp2_with fail;refine⟨⟨k+1,E,by first | rfl | go_num,?_,N.o.2⟩,by simp[intOf];omega⟩;rw[H.o,X.o];exact N.o.1
    ·rw[qK _ _ e]at H;have X:Hid ((Q++[(x,n)]++[(s,1)]).length=Q.length+1+1):=θ Es;have HE:Hid (eG (Q++[(x,n)])++[.int .i64 s, .int .i64 1]=eG (Q++[(x,n)]++[(s,1)])):=θ (by rw[qL _ [(s,1)]];rfl);generalize Q++[(x,n)]++[(s,1)]=Z at *;generalize Q++[(x,n)]=Y at *;generalize Q.length=q at *;go_wp2;go_quiet (fail);obtain⟨m,rfl⟩:=Ez nq;have I:Hid (Below w w (wr.drewN m)):=θ (bb5 M.o m);have z:Hid ((wr.drewN m).ownsRow w 119 2 (.slice g (q+1) O) (q+1) (eG Y)):=y;have a1:(wr.drewN m).cell? (b,K+k)=s:=B;have t:w.heap.size<=(wr.drewN m).heap.size:=D;clear y B M D c0 c1 f1;generalize wr.drewN m=wd at *;go_wp2_with (at_builtin;refine gV rfl _ _ 116 rfl w 119 Tryz.infoRefRun Tryz.underlying116 rfl _ _ _ rfl z.o rfl rfl rfl ?c1 ?c2 ?c3 ?_);case c1=>unfold maxLen;omega
     case c2=>omega
     case c3=>exact t
     intro g5 G W c d _ _;have A:Below w w W:=I.o.grown d t (λj hj=>(z.o.lt j hj).1);rw[HE.o]at c;have F:=θ (And.intro c A);clear c d A;go_wp2;go_roundw;case rel=>
      refine⟨k+1,E,by go_num,?_,F.o.2⟩;rw[H.o,X.o];exact F.o.1
     case measure=>simp[intOf];omega
  ·obtain rfl:k=l.length:=E;rw[aT8]at a;have F:=θ (And.intro a L);obtain⟨a4,c4,rfl,_,_⟩:=aD a;clear a L;go_wp2;go_ret;exact⟨_,rfl,F.o⟩
theorem af6{l:List Int}(O:Option Addr)(pc:Nat)(w:World)(hp:Reads w .i64 O l)(M:∀x∈l,0<=x/\x<257)(b3:l.length<=100000):Calls prog 32 #[.slice O l.length pc] w (λe P=>e= .returned (.tuple #[.string (strOfNums (bR l)), .int .i64 0])/\Below w w P):=by
 have HG:=θ (Mq O pc l.length l w rfl hp E M);have HR:=θ (svRuns O pc w hp E);have b2:=fZ l;have B:∀r∈aU l,0<=r.1/\r.1<257/\r.2<=l.length:=λr t=>by
  have hi:=fY l;have hm:=kZ t (hi.pos r t);rw[hi.un]at hm;exact⟨(M _ hm).1,(M _ hm).2,gX t⟩
 have A:=θ B;have S:Hid (bR l=aK (aU l).length++bL (aU l)):=rfl;clear hp M B;generalize aU l=R at *;have j:=θ (λ(n:Nat) (w:World) (h:n<2^64)=>svPut n w h);have b4:IntKind.u64.wrap (R.length:Int)=(R.length:Int):=by rw[aK7];omega
 go_in;go_wp2_with fail;refine Cq HG.o ?_;go_wp2_with fail;refine HR.o.mono ?_;rintro e w1 ⟨v,rfl,a,C⟩;obtain⟨ra,rc,rfl,_,_⟩:=aD a;have L:=θ a;have z:=θ C;clear a C HG HR;go_wp2_with fail;refine(j.o R.length w1 E).mono ?_;rintro e w2 ⟨rfl,D⟩;have G:=θ (fE L.o D);have F:=θ (z.o.trans (D.mono z.o.size));clear D L z;go_wp2;go_loopw [5,6] (λs i wx=>∃k:Nat,k<=R.length/\i= .int .i64 k/\s= .string (strOfNums (aK R.length++bL (R.take k)))/\wx.ownsRow w 119 2 (.slice ra R.length rc) R.length (eG R)/\Below w w wx) (λ_ i _=>R.length-(intOf i).toNat);exact⟨0,aY1 _,rfl,by rw[aU2,show bL []=[]from rfl,aL2],G.o,F.o⟩;as_aux_lemma=>
  clear G F;obtain⟨k,hk,rfl,rfl,a,C⟩:=hrel;by_cases a1:k<R.length
  ·obtain⟨r,t⟩:∃r,R[k]? =some r:=⟨_,aO0 a1⟩;obtain⟨r0,r1,r2⟩:=A.o r (aR5 t);have V:=θ (xQ t);obtain⟨x,m⟩:=r;obtain⟨y,rfl⟩:∃y:Nat,x=y:=⟨x.toNat,by simp only at r0;omega⟩;simp only[aK5]at V r0 r1 r2;have hx:=qM t;obtain⟨g,a6,hv,a7,I,a8,a9,b,a0⟩:=rH a E;injection hv with e1 _ e3
   subst e1 e3;have c0:=b _ _ hx.1;have c1:=b _ _ hx.2;have L:=θ a;have z:=θ C;have c:=θ I;have b0:(0:Int)<=(k:Int):=E;have b1:(k:Int)<(R.length:Int):=E;have b5:IntKind.u64.wrap (y:Int)=(y:Int):=by rw[aK7];omega
   have b6:IntKind.u64.wrap (m:Int)=(m:Int):=by rw[aK7];omega
   have hY:=cD (N:=y) E;have hM:=cD (N:=m) E;have a4:=aQ y;have a2:=aQ m;have X:=cD (N:=R.length) E;have Y:=aQ R.length;have Z:(bL (R.take k)).length<=3000000:=by
    have :=pO (R:=R.take k) (λr t=>by have :=A.o r (aR7 t);exact⟨E,E⟩);rw[aQ1]at this;omega
   have l1:=λw=>lD (x:=aK R.length++bL (R.take k)) (y:=aK y) (by rw[aP3];omega) w;have l2:=λw=>lD (x:=aK R.length++bL (R.take k)++aK y) (y:=aK m) (by rw[aP3,aP3];omega) w;have HE:Hid (strOfNums (aK R.length++bL (R.take (k+1)))=strOfNums (aK R.length++bL (R.take k)++aK y++aK m)):=θ (by rw[V.o];simp only[aL1]);have T:=θ (λw=>j.o y w E);have Q:=θ (λw=>j.o m w E);clear t a C b a0 Z hx a4 a2 X Y I V;generalize K:strOfNums (aK R.length++bL (R.take k)++aK y++aK m)=s3 at *;generalize strOfNums (aK R.length++bL (R.take k)++aK y)=s2 at *;generalize strOfNums (aK R.length++bL (R.take k))=s1 at *;generalize strOfNums (aK y)=sy at *;generalize strOfNums (aK m)=sm at *;have a5:=θ K;clear K;go_wp2_with fail;refine aG (λP=>P.cell? (g,k*2)=some (.int .i64 (y:Int))/\P.cell? (g,k*2+1)=some (.int .i64 (m:Int))) Ek (⟨c0,c1⟩) (λf=>?_);refine rV 0 1 2 3 f ?_;refine rV 4 5 6 9 f ?_;refine rV 10 11 12 13 f ?_;refine rt 14 f ?_;refine rg 7 λκ W=>?_;go_simp;refine(T.o _).mono ?_;rintro e w5 ⟨rfl,q⟩;have d:=θ q;clear q;refine W.out _ _ (⟨(d.o.cell (p:=(g,k*2)) c.o).trans f.1,(d.o.cell (p:=(g,k*2+1)) c.o).trans f.2⟩) ?_;intro f;try simp only[pt]
   refine rt 8 f ?_;refine rg 15 λκ W=>?_;go_simp;refine(Q.o _).mono ?_;rintro e w6 ⟨rfl,H⟩;have u:=θ H;clear H;refine W.out _ _ (⟨(u.o.cell (p:=(g,k*2)) (aV7 c.o d.o.size)).trans f.1,(u.o.cell (p:=(g,k*2+1)) (aV7 c.o d.o.size)).trans f.2⟩) ?_;intro f;try simp only[pt]
   refine rU 16 17 f ?_;refine rz ?_;clear f;go_wp2_with fail;have a3:=z.o.size;have q:Below w w w5:=(show Below w w wr.drew from bb5 z.o 1).trans (d.o.mono a3);go_roundw;exact⟨k+1,E,by first | rfl | go_num,by rw[HE.o],fE (fE (w:=wr.drew) L.o d.o) u.o,q.trans (u.o.mono q.size)⟩;simp[intOf];omega
  ·obtain rfl:k=R.length:=E;rw[aT8,<-S.o];have z:=θ C;generalize J:strOfNums (bR l)=s0 at *;have U:=θ J;clear a C J;go_wp2;go_ret2;exact⟨by rw[U.o];rfl,z.o⟩
theorem Hs{n:Nat}(a:Option Addr)(c:Nat)(f:List Int)(k:Nat)(x:Int)(w:World)(A:n=f.length)(B:Reads w .i64 a f)(F:f.length<=1000000)(p:f[k]? =some x)(q:∀i,i<k->f[i]? ≠some x):Calls prog 34 #[.slice a n c,x] w λe D=>e= .returned k/\w=D:=by
 subst A;have v:=(aO2.1 p).1;have u:=θ p;have s:=θ q;clear p q;go_in;go_wp2;go_loop [5] (λi=>∃m:Nat,m<=k/\i= .int .i64 m) (λi=>f.length-(intOf i).toNat);exact⟨0,aY1 _,rfl⟩;as_aux_lemma=>
  obtain⟨m,z,rfl⟩:=hrel;have g:m<f.length:=E;obtain⟨b,C,rfl,_,j⟩:=B.some E;have l:=j m g;have G:(0:Int)<=(m:Int):=E;have H:(m:Int)<(f.length:Int):=E;by_cases e:m=k
  ·subst e;have h:f[m]?.getD 0=x:=by rw[u.o];rfl
   rw[h]at l;clear j h;go_wp2;go_ret;exact Er
  ·have h:f[m]?.getD 0≠x:=by
    have :=s.o m E;rw[aO0 g]at this⊢;simpa using this
   generalize f[m]?.getD 0=y at *;have d:(y==x)=false:=by rw[bb6];exact h
   clear j h;go_wp2;go_round;exact⟨m+1,E,by go_num⟩;simp[intOf];omega
section
variable {t:List Int}{r L:List Nat}
end
section
variable {t:List Int}{r L:List Nat}
end
theorem markS:strOfNums dU=⟨#[83,75,82,49]⟩:=Ed
theorem svAt{w:World}{R:List Nat}{n c x:Nat}{d:Option Addr}(k:n=R.length)(l:Reads w .i64 d (bX R))(q:R.length<=100000)(a:R.Nodup)(m:x∈R):Calls prog 34 #[.slice d n c,(x:Int)] w λe o=>e= .returned (R.idxOf x:Int)/\w=o:=by
 have g:R[R.idxOf x]? =some x:=by
  obtain⟨i,f,h⟩:=aP1 m;have b:R[i]? =some x:=by rw[aO0 f,h]
  rw[Ky a b];exact b
 refine Hs d c (bX R) (R.idxOf x) x w (by rw[gE];exact k) l (by rw[gE];omega) (by unfold bX;rw[aO3,g];rfl) (λi f h=>?_);unfold bX at h;rw[aO3,aY4]at h;obtain⟨y,b,p⟩:=h;have j:y=x:=E;subst j;have :=Ky a b;omega
theorem svSave{t:List Int}(a3:aS t){ra most:Nat}(w:World)(hm:t.length<=most)(e9:most<=10000)(ht:t.length<=900)(r1:1<=ra)(g1:ra<=64):Calls prog 14 #[.string (strOfNums t),(ra:Int),(most:Int)] w λe w'=>∃R,IsRows (aA t) R/\e= .returned (.tuple #[.string (strOfNums (bI most ra t R)), .int .i64 0])/\Below w w w':=by
 have a5:bY (strOfNums t)=t:=mN a3;have f0:=be1 t;have Z:Hid (∀w,Calls prog 31 #[.string (strOfNums t)] w (zY w.heap.size w (aA t))):=θ (λw=>by have :=qI (strOfNums t) w (E);rw[a5]at this;exact this);have Y:Hid (∀w,Calls prog 33 #[.string (strOfNums t)] w (tB w.heap.size w t)):=θ (λw=>by have :=xL (strOfNums t) w (E);rw[a5]at this;exact this);have i:=θ (λ(n:Nat) (w:World) (h:n<2^64)=>svPut n w h);have w1:IntKind.u64.wrap (most:Int)=(most:Int):=by rw[aK7];omega
 have w2:IntKind.u64.wrap (ra:Int)=(ra:Int):=by rw[aK7];omega
 have w3:IntKind.u64.wrap (t.length:Int)=(t.length:Int):=by rw[aK7];omega
 have n1:=cD (N:=most) E;have n2:=cD (N:=ra) E;have n3:=cD (N:=t.length) E;have l1:=λw=>lD (x:=dU) (y:=aK most) (by rw[aQ,show dU.length=4 from rfl];omega) w;rw[markS]at l1;have l2:=λw=>lD (x:=dU++aK most) (y:=aK ra) (by rw[aP3,aQ,aQ,show dU.length=4 from rfl];omega) w;have l3:=λw=>lD (x:=dU++aK most++aK ra) (y:=aK t.length) (by rw[aP3,aP3,aQ,aQ,aQ,show dU.length=4 from rfl];omega) w;have HH:Hid (dU++aK most++aK ra++aK t.length=dU++cK [most,ra,t.length]/\(dU++aK most++aK ra++aK t.length).length<=40):=θ ⟨by simp[cK],by rw[aP3,aP3,aP3,aQ,aQ,aQ,show dU.length=4 from rfl];omega⟩;have c3:=θ a3;clear a5 a3 n1 n2 n3;generalize dU++aK most++aK ra++aK t.length=H3 at *;generalize dU++aK most++aK ra=H2 at *;generalize dU++aK most=H1 at *;have e4:decide ((most:Int)<(t.length:Int))=false:=bc0 E;have e5:decide ((2147483648:Int)<(most:Int))=false:=bc0 E;generalize e1:strOfNums t=st at *;clear e1;go_in;go_wp2_with fail;refine(i.o most w E).mono ?_;rintro e wa ⟨rfl,d⟩;have U:=θ d;clear d;go_wp2_with fail;refine(i.o ra wa E).mono ?_;rintro e wb ⟨rfl,d⟩;have V:=θ (U.o.trans (d.mono U.o.size));clear d U;go_wp2_with fail;refine(i.o t.length wb E).mono ?_;rintro e wc ⟨rfl,d⟩;have W:=θ (V.o.trans (d.mono V.o.size));clear d V;go_wp2_with fail;refine(Z.o wc).mono ?_;rintro e wd ⟨R,hR,v,rfl,g,d⟩;have F:=θ hR;have u:Hid (R.length=t.length+1):=θ (by rw[hR.len,aE]);rw[fI]at g;rw[u.o]at g;obtain⟨ga,gc,rfl,_,_⟩:=aD g;have z:=cB g;have G:=θ z;have j:=θ (W.o.trans (d.mono W.o.size));clear d W g z hR;go_wp2_with fail;refine(Y.o wd).mono ?_;rintro e we ⟨m,⟨_,f,b1,rfl⟩,v,rfl,g,d⟩;obtain rfl:=gI b1 F.o;obtain⟨la,lc,rfl,_,_⟩:=aD g;have d5:(aO (aA t) f).length=t.length+1:=by rw[fX,u.o]
 have a4:IsLast t (aO (aA t) f):=⟨c3.o,f,b1,rfl⟩;have O:=θ (G.o.below d);have s:=θ (j.o.trans (d.mono j.o.size));have a8:=θ (af6 la lc we (cB g) (λx hx=>a4.range x hx) E);have b8:(bR (aO (aA t) f)).length<=30000:=by
  have h1:(bL (aU (aO (aA t) f))).length<=(aU (aO (aA t) f)).length*20:=pO (λr hr=>by
   have hi:=fY (aO (aA t) f)
   have h1:=a4.range r.1 (by have :=kZ hr (hi.pos r hr);rwa[hi.un]at this)
   have h2:=gX hr
   omega)
  have h2:=fZ (aO (aA t) f);have h3:=cD (show (aU (aO (aA t) f)).length<2^64 by omega);unfold bR;rw[aP3,aQ];omega
 have b7:=vA (aO (aA t) f);have d3:Hid (bI most ra t f=zA most ra t.length (bR (aO (aA t) f)) (fG f ra (t.length/ra+1))):=rfl;have C:=θ (And.intro b7 b8);clear d j G g a4 d5 b7 b8;generalize bR (aO (aA t) f)=x at *;generalize (aO (aA t) f).length=ll at *;go_wp2_with fail;refine a8.o.mono ?_;rintro e wf ⟨rfl,d⟩;have P:=θ (O.o.below d);have A:=θ (s.o.trans (d.mono s.o.size));clear d s a8 O;go_wp2;go_loopw [12,13] (λb p wx=>∃k:Nat,k<=t.length/ra+1/\p= .int .i64 ((k*ra:Nat):Int)/\b= .string (strOfNums (fG f ra k))/\Reads wx .i64 ga (bX f)/\Below w w wx) (λ_ p _=>t.length+ra-(intOf p).toNat);exact⟨0,aY1 _,Es,rfl,P.o,A.o⟩;as_aux_lemma=>
  clear P A;obtain⟨k,hk,rfl,rfl,z,d⟩:=hrel;have HK:=θ hk;have D:=Nat.div_mul_le_self t.length ra;have Q:=Nat.lt_div_mul_add (show 0<ra by omega) (a:=t.length);by_cases d6:k<t.length/ra+1
  ·have b4:k*ra<=t.length:=aV4 (aW4 ra (show k<=t.length/ra by omega)) D;have hq:k*ra+ra=(k+1)*ra:=by rw[aX1]
   have S:k*ra∈f:=F.o.1.mem_iff.2 (aR8.2 (by rw[aE];omega));have c1:=θ (svAt (n:=t.length+1) (c:=gc) (x:=k*ra) u.o.symm z (by have :=u.o;omega) F.o.nodup S);have e7:f.idxOf (k*ra)<=901:=by have :=List.idxOf_le_length (a:=k*ra) (l:=f);have :=u.o;omega
   have b0:=θ (rJ f ra k);have e0:=sU (R:=f) (by have :=u.o;omega) ra k;have e8:k<=901:=by have :=Nat.div_le_self t.length ra;omega
   have G:=θ z;have HB:=θ d;generalize f.idxOf (k*ra)=y at *;have f1:IntKind.u64.wrap (y:Int)=(y:Int):=by rw[aK7];omega
   have ny:=cD (N:=y) E;have l4:=λw=>lD (x:=fG f ra k) (y:=aK y) (by rw[aQ];omega) w;rw[<-b0.o]at l4;generalize b9:strOfNums (fG f ra (k+1))=s1 at *;have d1:=θ b9;generalize strOfNums (fG f ra k)=s0 at *;clear z d S e0 b9 D Q hk b0;have a7:Hid (k+1<=t.length/ra+1/\(k+1)*ra=k*ra+ra):=θ ⟨E,hq.symm⟩;clear d6 hq;generalize hp:k*ra=p at *;have HP:=θ hp;clear hp;have f2:IntKind.i64.wrap ((p:Int)+(ra:Int))=((p+ra:Nat):Int):=by rw[aK8 _ E];omega
   have d9:decide ((p:Int)<=(t.length:Int))=true:=bc2 E;go_wp2_with fail;refine Cq c1.o ?_;go_wp2_with fail;refine(i.o y wr E).mono ?_;rintro e w' ⟨rfl,a1⟩;have a9:=θ (G.o.below a1);have j:=θ (HB.o.trans (a1.mono HB.o.size));clear a1;go_wp2;go_roundw;exact⟨k+1,a7.o.1,by rw[a7.o.2,Int.natCast_add],by rw[d1.o],a9.o,j.o⟩;simp[intOf];omega
  ·obtain rfl:k=t.length/ra+1:=E;have b4:t.length<(t.length/ra+1)*ra:=by rw[aX1];omega
   generalize (t.length/ra+1)*ra=p at *;have d9:decide ((p:Int)<=(t.length:Int))=false:=bc0 E;have e3:decide (p<=t.length)=false:=bc0 E;have a0:=θ (And.intro (vE f ra (t.length/ra+1)) (sU (R:=f) (by have :=u.o;omega) ra (t.length/ra+1)));have e6:=Nat.div_le_self t.length ra;generalize fG f ra (t.length/ra+1)=y at *;have HB:=θ d;have q:H3++aK x.length++x++bW (cQ x)++aK y.length++y++bW (cQ y)=eH most ra t.length x y:=by rw[HH.o.1];unfold eH bT;simp only[aL1]
   have a2:=rY (most:=most) (rate:=ra) (len:=t.length) C.o.1 a0.o.1;have f5:=C.o.2;have f7:y.length<=9010:=by have :=a0.o.2;omega
   have d4:=HH.o.2;have d7:=cD (N:=x.length) E;have d8:=cD (N:=y.length) E;have b5:=aQ x.length;have b6:=aQ y.length;have f6:=be1 x;have f8:=be1 y;have f3:IntKind.u64.wrap (x.length:Int)=(x.length:Int):=by rw[aK7];omega
   have f4:IntKind.u64.wrap (y.length:Int)=(y.length:Int):=by rw[aK7];omega
   have c8:=θ (λw=>Nr (l:=x) w C.o.1 E);have d0:=θ (λw=>Nr (l:=y) w a0.o.1 E);have c5:=θ (λw=>Ga (cQ x) w (lZ x));have c6:=θ (λw=>Ga (cQ y) w (lZ y));have b2:=eM (cQ x);have b3:=eM (cQ y);obtain⟨H4,H⟩:=Ey (H3++aK x.length);obtain⟨H5,I⟩:=Ey (H4++x);obtain⟨H6,J⟩:=Ey (H5++bW (cQ x));obtain⟨H7,K⟩:=Ey (H6++aK y.length);obtain⟨H8,L⟩:=Ey (H7++y);obtain⟨B,M⟩:=Ey (H8++bW (cQ y));rw[H,I,J,K,L,M]at q;have q4:H4.length=H3.length+(nJ x.length+1):=by rw[<-H,aP3,b5]
   have q5:H5.length=H4.length+x.length:=by rw[<-I,aP3]
   have q6:H6.length=H5.length+4:=by rw[<-J,aP3,b2]
   have q7:H7.length=H6.length+(nJ y.length+1):=by rw[<-K,aP3,b6]
   have q8:H8.length=H7.length+y.length:=by rw[<-L,aP3]
   have q9:B.length=H8.length+4:=by rw[<-M,aP3,b3]
   have l5:=λw=>lD (x:=H3) (y:=aK x.length) E w;rw[H]at l5;have l6:=λw=>lD (x:=H4) (y:=x) E w;rw[I]at l6;have l7:=λw=>lD (x:=H5) (y:=bW (cQ x)) E w;rw[J]at l7;have l8:=λw=>lD (x:=H6) (y:=aK y.length) E w;rw[K]at l8;have l9:=λw=>lD (x:=H7) (y:=y) E w;rw[L]at l9;have e2:=λw=>lD (x:=H8) (y:=bW (cQ y)) E w;rw[M]at e2;rw[<-q]at a2;have c7:=θ (λw=>Nr (l:=B) w a2 E);have c4:=θ (λw=>Ga (cQ B) w (lZ B));have g0:=λw=>lD (x:=B) (y:=bW (cQ B)) (by rw[eM];omega) w;have a6:Hid (bI most ra t f=B++bW (cQ B)):=θ (by rw[d3.o];unfold zA;rw[<-q]);have T:x.length<2^64/\y.length<2^64:=⟨E,E⟩;clear z d HK D Q b4 q a2 d4 d7 d8 b5 b6 b2 b3 q4 q5 q6 q7 q8 q9 H I J K L M l1 l2 l3;generalize c0:strOfNums (B++bW (cQ B))=s9 at *;have d2:=θ c0;clear c0;generalize cQ B=c9 at *;generalize cQ x=cx at *;generalize cQ y=cy at *;generalize strOfNums (bW cx)=fx at *;generalize strOfNums (bW cy)=fy at *;generalize strOfNums (bW c9)=f9 at *;generalize strOfNums H3=s3 at *;generalize strOfNums H4=s4 at *;generalize strOfNums H5=s5 at *;generalize strOfNums H6=s6 at *;generalize strOfNums H7=s7 at *;generalize strOfNums H8=s8 at *;generalize strOfNums B=sb at *;generalize strOfNums x=sx at *;generalize strOfNums y=sy at *;go_wp2_with fail;refine(i.o x.length wr T.1).mono ?_;rintro e w4 ⟨rfl,d⟩;have j:=θ (HB.o.trans (d.mono HB.o.size));clear d;go_wp2_with fail;refine Cq (c8.o w4) ?_;go_wp2_with fail;refine(c5.o w4).mono ?_;rintro e w5 ⟨rfl,d⟩;have s:=θ (j.o.trans (d.mono j.o.size));clear d j;go_wp2_with fail;refine(i.o y.length w5 T.2).mono ?_;rintro e w6 ⟨rfl,d⟩;have A:=θ (s.o.trans (d.mono s.o.size));clear d s;go_wp2_with fail;refine Cq (d0.o w6) ?_;go_wp2_with fail;refine(c6.o w6).mono ?_;rintro e w7 ⟨rfl,d⟩;have X:=θ (A.o.trans (d.mono A.o.size));clear d A;go_wp2_with fail;refine Cq (c7.o w7) ?_;go_wp2_with fail;refine(c4.o w7).mono ?_;rintro e w8 ⟨rfl,d⟩;have c2:=θ (X.o.trans (d.mono X.o.size));clear d X;go_wp2;go_ret2;exact⟨f,F.o,by rw[a6.o,d2.o];rfl,c2.o⟩
theorem ax7{t d:List Int}(b:t.length<=70)(a:d.length<=60)(k n:Int):dG t k n d<=8700:=by
 unfold dG;split
 ·have :=aW3 (aV4 (Nat.min_le_right n.toNat t.length) b) (show t.length+5<=75 by omega);omega
 ·have :=aW3 a (show t.length+d.length+5<=135 by omega);omega
theorem svB1{w a:World}(h:Below w.drew.heap.size w.drew a):Below w w a:=bj2 h
theorem svB2{w a:World}{o:Obj}(h:Below (w.drew.alloc o).heap.size (w.drew.alloc o) a):Below w w a:=(bj3 o).trans (h.mono (bj3 o).size)
theorem svB3{w a:World}{o:Obj}(h:Below w.drew.heap.size w.drew a):Below w w (a.alloc o):=(bj2 h).alloc (bj2 h).size o
theorem svB4{w f:World}{b c d e:Value}{a:TypeId}(h:Below (w.drew.alloc (.cells #[b,c,d,e] a)).heap.size (w.drew.alloc (.cells #[b,c,d,e] a)) f):f.heap[w.heap.size]? =some (.cells #[b,c,d,e] a (0,0)):=aT h (bc6 w.drew _)
theorem svB5{w b:World}{h i l m:Value}(g:b.heap[w.heap.size]? =some (.cells #[h,i,l,m] 34 (0,0)))(f:Below w w b)(k a n:Int)(c:Option Addr)(dn d:Nat):StepAt ((((b.setCell w k).setCell (w,1) a).setCell (w,2) n).setCell (w,3) (.slice c dn d)) w k a n c dn d/\Below w w ((((b.setCell w k).setCell (w,1) a).setCell (w,2) n).setCell (w,3) (.slice c dn d)):=
 ⟨(xT g _ _ _ _).1,f.trans ((xT g _ _ _ _).2.below (λj e=>E) f.size)⟩
theorem walk_TopSaves(w:World)(hT:BitTab w)(a0:Option Addr)(c0:Nat)(z0:List Stp)(w0:ArgS w a0 c0 z0)(x1:Int)(w1:(Lit.int .i64 x1).wf=true):Calls prog 3 #[.slice a0 z0.length c0,x1] w λe w'=>e= .returned (.bool true)/\Below w w w':=by
 obtain⟨u,i5,j0,hu⟩:=Gd x1;obtain⟨rr,g8,i4⟩:∃rr:Nat,u%20=(rr:Int)/\rr<20:=⟨(u%20).toNat,E,E⟩;have i2:u.tmod 20=(rr:Int):=by rw[aK4 i5,g8]
 have i3:IntKind.i64.wrap (rr:Int)=(rr:Int):=aK8 _ E;have b3:IntKind.u64.wrap (rr:Int)=(rr:Int):=by rw[aK7];omega
 obtain⟨H,g7,r1,h1⟩:∃H:Nat,1+(rr:Int)=(H:Int)/\1<=H/\H<=20:=⟨1+rr,E,E,E⟩;have a1:IntKind.i64.wrap (1+(rr:Int))=(H:Int):=by rw[g7];exact aK8 _ E
 have HN:=θ (rK (most:=70) (ra:=H) E E r1 E w);have e7:=θ (λw=>rK (most:=0) (ra:=1) E E E E w);have HA:=θ w0;have h6:=θ hT.lt;have g9:=aV4 w0.le w0.max;have HT:=θ hT;have f5:Hid (∀w1,Below w w w1->Calls prog 9 #[] w1 λe w'=>e= .returned (.bool true)/\Below w1 w1 w'):=θ (λw1 hb=>zT w1 (hT.below' hb));have a6:=θ (And.intro r1 h1);clear w0 w1 hT i4 r1 h1 g7;go_in;go_wp2_with fail;refine HN.o.mono ?_;rintro e w1 ⟨s,rfl,a2,g0⟩;have L:=θ (And.intro a2 g0);clear a2 g0 HN hu g8 i2 i3 b3 a1;go_wp2_with fail;refine(e7.o w1).mono ?_;rintro e O ⟨q,rfl,b5,D⟩;have W:Below w w O:=L.o.2.trans (D.mono L.o.2.size);have d8:=θ (Rx (RdS.below HA.o.reads W) g9 30 (cap:=c0));have U:Hid (Tp2 w w (O.alloc (.cells #[.string (strOfNums []), .int .i64 70] 31)) s q O H [] [] [] 1 (λ_=>False)):=θ (Tp2.start L.o.1 L.o.2 b5 D);have HB:=θ W;clear b5 D W e7 L;go_wp2_with fail;refine Cq d8.o ?_;clear d8;cases hfw:tK z0 30 with
 | false=>
  clear hfw;go_wp2_with fail;refine(f5.o _ HB.o).mono ?_;rintro e w3 ⟨rfl,g1⟩;have b7:=θ (HB.o.trans (g1.mono HB.o.size));clear g1;go_wp2;go_ret;exact⟨rfl,b7.o⟩
 | true=>
  have Q:=hfw;unfold tK at Q;clear hfw;go_wp2_with fail;have Z:z0.length<=30/\∀s∈z0,s.r.l.length<=60:=by
   rw[aJ7,bc3,List.all_eq_true]at Q;exact⟨E,λs hs=>bd6 (Q.1 s hs)⟩
  have HK:=θ Z;have i8:=Z.1;clear Z Q g9 HB;change Code.wp _ _ _ _ (O.alloc (.cells #[.string (strOfNums []), .int .i64 70] 31));generalize O.alloc (.cells #[.string (strOfNums []), .int .i64 70] 31)=w3 at *;obtain⟨b,hb⟩:=Ey O.heap.size;rw[hb]at U⊢;clear hb;go_loopw [11] (λv wr=>∃(k:Nat) (t tq:List Int) (C:Nat),k<=z0.length/\v= .int .i64 k/\t.length<=70/\aS t/\C<=1+k*9000/\Tp2 w w wr s q b H t tq t C (λ_=>False)) (λv _=>z0.length-(intOf v).toNat);exact⟨0,[],[],1,aY1 _,rfl,aY1 _,(λx hx=>nomatch hx),aV3 _,U.o⟩;as_aux_lemma=>
   clear U;obtain⟨k,t,tq,C,hk,rfl,d1,g2,hC,I⟩:=hrel;have U:=θ I;by_cases b2:k<z0.length
   ·obtain⟨z,hz⟩:∃z,z0[k]? =some z:=⟨_,aO0 b2⟩;have d2:=HA.o.wf k b2;obtain⟨S,m,rfl,Y,P⟩:=HA.o.reads k b2;obtain⟨s0,s1,s2,s3⟩:=P k b2;rw[hz]at s0 s1 s2 s3 d2;simp only[aY3]at s0 s1 s2 s3 d2;have J:=HK.o.2 z (aR5 hz);obtain⟨sk,sp,sn,⟨da,a,d⟩⟩:=z;obtain⟨_,_,_,a7⟩:=d2;simp only at s0 s1 s2 s3 a7 J;have K:=θ a7;have c8:=a7.le;have d0:(strOfNums t).size=t.length:=be1 t;have c4:=I.md.cells.1;have B:Hid (∀O,Below wr wr O->O.cell? (S,m+k*4)=sk/\O.cell? (S,m+k*4+1)=sp/\O.cell? (S,m+k*4+2)=sn/\O.cell? (S,m+k*4+3)=some (.slice da d.length a)/\O.cell? b=some (.string (strOfNums t))):=θ (λO hb=>by
     have b1:=I.bl.trans (hb.mono I.bl.size)
     exact⟨(b1.cell (p:=(S,m+k*4)) Y).trans s0,(b1.cell (p:=(S,m+k*4+1)) Y).trans s1,(b1.cell (p:=(S,m+k*4+2)) Y).trans s2,(b1.cell (p:=(S,m+k*4+3)) Y).trans s3,(I.md.below hb).cells.1⟩)
    have L:Hid (strOfNums t=strOfNums t):=θ rfl;clear s0 s1 s2 s3 P Y hz a7 c4;generalize a2:strOfNums t=st at B d0;have L:=θ a2;clear a2;have a5:=θ (λw=>Lo (k:=sk) (at_:=sp) (n:=sn) (da:=da) (n0:=st.size) (i:=k) w E E c8 E);have k0:(0:Int)<=(k:Int):=E;have k1:(k:Int)<(z0.length:Int):=E;have i9:=θ d0;have d3:=θ g2;have h2:=θ hC;have h3:=θ (And.intro J c8);unfold bN at a5;clear I d0 g2 hC c8 J;go_upto_region 12 with fail
    go_cut [12]from 51 to 117 (λv wx=>∃(xb:Nat) (F M G:Int) (dn:Nat),v= .pointer xb/\dn<=d.length/\wr<=xb/\Below wr wr wx/\StepAt wx xb F M G da dn a)
    case first=>as_aux_lemma=>
     refine aG (λw'=>w'.cell? (S,m+k*4)=sk/\w'.cell? (S,m+k*4+1)=sp/\w'.cell? (S,m+k*4+2)=sn/\w'.cell? (S,m+k*4+3)=some (.slice da d.length a)/\w'.cell? b=some (.string st)) Ek (B.o _ ⟨rfl,rfl,rfl,aV3 _,λ_ _=>rfl⟩) (λhh=>?_);refine rV 0 1 2 3 hh ?_;refine rV 4 5 6 7 hh ?_;refine rU 8 9 hh ?_;refine oC (i:=10) (j:=11) rfl rfl Ek rfl rfl (λκ V=>?bnr10) (λκ V=>?bnr11);case bnr10=>
      go_simp;refine(a5.o _).mono ?_;rintro e T ⟨F,M,G,dn,rfl,N,X⟩;have b8:=θ N;have y:=θ X;clear N X;refine V.out _ _ (B.o _ (svB1 y.o)) ?_;intro hh;try simp only[pt]
      refine rg 11 λκ V=>?_;go_simp;refine V.out _ _ (B.o _ (svB3 y.o)) ?_;intro hh;try simp only[pt]
      refine rg 12 λκ V=>?_;go_simp;refine V.out _ _ (B.o _ (svB3 y.o)) ?_;intro hh;try simp only[pt]
      refine rz ?_;go_wp2_with fail;go_meet;case rel=>exact⟨_,F,M,G,dn,rfl,b8.o,(bj2 y.o).size,svB3 y.o,bc6 T _⟩
     case bnr11=>
      go_simp;refine V.out _ _ (B.o _ (bj3 _)) ?_;intro hh;try simp only[pt]
      refine rg 10 λκ V=>?_;go_simp;refine(a5.o _).mono ?_;rintro e T ⟨F,M,G,dn,rfl,N,X⟩;have b8:=θ N;have y:=θ X;clear N X;have A:=θ (svB4 y.o);have e0:=bb8 T _ 0 _ _ _ A.o;have f0:=bc4 T _ 0 _ _ A.o;have e1:=bb8 T _ 1 _ _ _ A.o;have f1:=bc4 T _ 1 _ _ A.o;have e2:=bb8 T _ 2 _ _ _ A.o;have f2:=bc4 T _ 2 _ _ A.o;have e3:=bb8 T _ 3 _ _ _ A.o;have f3:=bc4 T _ 3 _ _ A.o;refine V.out _ _ (B.o _ (svB2 y.o)) ?_;intro hh;try simp only[pt]
      refine rg 12 λκ V=>?_;go_simp;refine V.out _ _ (B.o _ (svB5 A.o (svB2 y.o) F M G da dn a).2) ?_;intro hh;try simp only[pt]
      refine rz ?_;go_wp2_with fail;go_meet;case rel=>exact⟨_,F,M,G,dn,rfl,b8.o,aV3 _,(svB5 A.o (svB2 y.o) F M G da dn a).2,(svB5 A.o (svB2 y.o) F M G da dn a).1⟩
    case rest=>as_aux_lemma=>
     obtain⟨xb,F,M,G,dn,rfl,N,i6,D,a8⟩:=hcut;have a9:=U.o.add (Z':=λj=>j=xb) D (λj e=>Ej ⟨E,by subst e;exact(aJ2.1 a8).1⟩);obtain⟨e0,e1,e2,e3⟩:=a8.cells;have c9:(d.take dn).length=dn:=by rw[aQ1];omega
     have J:=h3.o.1;have h8:=ax7 d1 (show (d.take dn).length<=60 by omega) F G;have c6:aS (d.take dn):=jF (Jt K.o) dn;have h9:=h2.o;have a3:=θ (a9.sdo (dc:=a) (at_:=M) (HT.o.below' a9.bl) h6.o (k:=F) (n:=G) (tY (K.o.reads.below a9.bl) dn) (λe=>by have :=K.o.nil e;have :=K.o.le;rw[c9];omega) (λh0 ad e=>Jv K.o E ad e) c6 d1 E E);have a4:=θ (λ(w3:World) (i7:List Int) (C3:Nat) (h:Tp2 w w w3 s q b H i7 tq t C3 (λj=>j=xb))=>h.mdo (dc:=a) (at_:=M) (k:=F) (n:=G) (tY (K.o.reads.below h.bl) dn) (λh0 ad e=>Jv K.o E ad e) d3.o d1 E);have g6:=Dy (most:=((70:Nat):Int)) F M G d3.o c6;have i1:=xY (d:=d.take dn) F M G (show (t.length:Int)<=((70:Nat):Int) by omega);have d4:Hid (C+dG t F G (d.take dn)+t.length+1<=1+(k+1)*9000):=θ E;generalize aV ((70:Nat):Int) t F M G (d.take dn)=o at *;generalize C+dG t F G (d.take dn)+t.length+1=C2 at *;rw[c9]at a3 a4;have e8:=θ a8;have f:=θ (And.intro g6 (show o.t.length<=70 by omega));unfold bN at a3 a4;clear a9 D a8 c9 J h8 c6 h9 g6 i1 i6 N a5 B;go_wp2_with fail;refine a3.o.mono ?_;rintro e w3 ⟨⟨v3,rfl⟩,f7,g3⟩;have b4:StepAt w3 xb F M G da dn a:=g3.heap e8.o (λe=>e.2 (Ei rfl));have e5:=θ (a4.o w3 _ _ f7);clear e0 e1 e2 e3 f7 g3 a3 a4 e8;obtain⟨e0,e1,e2,e3⟩:=b4.cells;clear b4;go_wp2_with fail;refine e5.o.mono ?_;rintro e w4 ⟨⟨v4,rfl⟩,f8⟩;have b9:Hid (Tp2 w w w4 s q b H o.t tq o.t C2 (λ_=>False)):=θ (f8.mono (λj e=>e.elim) (aV3 _));clear f8 e5 e0 e1 e2 e3;by_cases h4:k%4=0
     ·have i0:(k:Int).tmod 4=0:=by rw[aK4 E];omega
      have f4:=θ (b9.o.save f.o.2);go_wp2_with fail;refine f4.o.mono ?_;rintro e T ⟨R,g,h7,hR,rfl,b3,g5,g4,c1⟩;have c5:=c1.md.cells.1;have e9:=θ (λw=>svSave (most:=70) (ra:=H) f.o.1 w f.o.2 E (by have :=f.o.2;omega) a6.o.1 (by have :=a6.o.2;omega));have e4:=θ (λ(w6:World) (h:Tp2 w w w6 s q b H o.t tq o.t C2 (λ_=>False)) (hr:Reads w6 .u8 (some (g,0)) (bI 70 H o.t R))=>h.load f.o.1 hR hr f.o.2 a6.o.1 (by have :=a6.o.2;omega) g5 g4);have d7:=θ (λ(w7:World) (h:Tp2 w w w7 s q b H o.t o.t o.t C2 (λ_=>False))=>h.fine f.o.1 (by have :=f.o.2;omega));have H5:=θ (And.intro b3 (And.intro c1 hR));have d5:=θ (λ(w6:World) (hr:Reads w6 .u8 (some (g,0)) (bI 70 H o.t R))=>sJ (c:=h7) hr);have e6:=θ (λ(w7:World) (h:Tp2 w w w7 s q b H o.t o.t o.t C2 (λ_=>False))=>h.md.cells.1);clear hR b3 g5 g4 c1 f4 b9;generalize strOfNums o.t=st at *;go_wp2_with fail;refine(e9.o T).mono ?_;rintro e w6 ⟨R',f6,rfl,c3⟩;obtain rfl:=gI f6 H5.o.2.2;have a1:=H5.o.1.below c3;have cv:=d5.o w6 a1;have d9:=θ (e4.o w6 (H5.o.2.1.below c3) a1);clear f6 c3 a1 e4 d5 e9 H5 c5;generalize strOfNums (bI 70 H o.t R')=sv at *;generalize (bI 70 H o.t R').length=ns at *;go_wp2_with fail;refine d9.o.mono ?_;rintro e w7 ⟨rfl,c2⟩;have c7:=e6.o w7 c2;have d6:=θ (d7.o w7 c2);clear c2 d7 e6 d9 cv;go_wp2_with fail;refine d6.o.mono ?_;rintro e w8 ⟨rfl,f9⟩;have h5:=θ f9;clear f9 d6 c7;go_wp2_with fail;exact⟨⟨k+1,o.t,o.t,C2,E,by first | rfl | go_num,f.o.2,f.o.1,d4.o,h5.o⟩,by simp[intOf];omega⟩
     ·have i0:((k:Int).tmod 4==0)=false:=by rw[aK4 E,bb6];omega
      go_wp2_with fail;exact⟨⟨k+1,o.t,tq,C2,E,by first | rfl | go_num,f.o.2,f.o.1,d4.o,b9.o⟩,by simp[intOf];omega⟩
   ·obtain rfl:k=z0.length:=E;have b6:=θ I.bl;clear I;go_wp2_with fail;refine(f5.o _ b6.o).mono ?_;rintro e O ⟨rfl,D⟩;have b7:=θ (b6.o.trans (D.mono b6.o.size));clear D;go_wp2;go_ret;exact⟨rfl,b7.o⟩
end
end Go.Proofs.YtchinbgemenenaaGreatDoor
