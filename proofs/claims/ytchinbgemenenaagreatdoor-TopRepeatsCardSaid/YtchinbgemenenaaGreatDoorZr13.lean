/- Lemmas and contracts under the claims of this seat. No condition. -/
import Derived.Deep.LoopGhost
import Derived.Shelf.SlSortCmp.NoneTotal
import Derived.Test.YtchinbgemenenaaGreatDoorZr1
import Derived.Test.YtchinbgemenenaaGreatDoorZr7
import Derived.Test.YtchinbgemenenaaGreatDoorZr11
import Derived.Test.YtchinbgemenenaaGreatDoorZr12
namespace Go.Proofs.YtchinbgemenenaaGreatDoor
set_option linter.unusedVariables false
set_option linter.unusedSimpArgs false
set_option maxRecDepth 100000
set_option maxHeartbeats 12800000
section
open Go.RowKit
theorem tG{w:World}{p q:Nat}{SA:Nat→Prop}{lv ov:Value}{m:Pm}(h:PmIn w p q SA lv ov m)(hok:m.Ok)(hs:m.Sorted)(hl:m.L.length≤1000000000)(x:Int):
  Calls Tryz.prog 96 #[.pointer (some ⟨p,0,none⟩), .int .i64 x] w fun e w'=>
   e= .returned (.tuple #[.int .i64 (m.cnt x), .bool (m.is x)])∧PmIn w' p q SA lv ov m∧Chg (fun b=>ov.ownBlock=some b) w w':=by
 have hb:=aC w (.cells #[.pointer (some ⟨p,0,none⟩)] 92);have hbp:(w.alloc (.cells #[.pointer (some ⟨p,0,none⟩)] 92)).cell? ⟨w.heap.size,0,none⟩=some (.pointer (some ⟨p,0,none⟩)):=aF9 _ _ _ _ rfl;have h2:=h.below hb;have key:=Ns h2 hok hs hbp (fun e=>by have :=h.lt _ e;omega) hl x;obtain⟨e0,e1,e2,e3,e4,e5⟩:=h2.cells;have HK:=θ key;have HC:Hid (Chg (fun b=>ov.ownBlock=some b) w (w.alloc (.cells #[.pointer (some ⟨p,0,none⟩)] 92))):=Chg.refl.alloc _;clear key hb h h2 hok hs e0 e1 e3 e4 e5;obtain⟨k,hk⟩:∃k,m.cnt x=k:=⟨_,rfl⟩;obtain⟨b,hb⟩:∃b,m.is x=b:=⟨_,rfl⟩;rw[hk,hb]at HK⊢;go_enter Tryz.func96,Tryz.ntmps96;go_wp2_with (go_at_call 148;refine HK.o.mono ?_;rintro e w' ⟨rfl,hP,hC⟩);go_ret2;exact⟨rfl,hP,HC.o.trans hC (fun b hb=>Ei hb)⟩
def Pm.has (m:Pm)(x:Int):Int:=match m.O.findIdx? fun k=>aH m.L k==x with
 | some i=>(i:Int)
 | none=> -1
theorem Mg{α β:Type}[Inhabited α](f:α→β)(p:β→Bool)(l:List α)(k:List β)(hk:l.map f=k)(x:α):Lib.idxBy (fun _ y=>p (f y)) (l.take k.length) x=match k.findIdx? p with
  | some i=>(i:Int)
  | none=> -1:=by
 subst hk;rw[at1,az2];show Lib.idxByFrom _ _ l 0=_;have gen:∀(l:List α) (i:Nat),Lib.idxByFrom (fun _ y=>p (f y)) x l i=match (l.map f).findIdx? p with
   | some j=>((i+j:Nat):Int)
   | none=> -1:=by
  intro l;induction l with
  | nil=>intro i;rfl
  | cons a l ih=>
   intro i;show (if p (f a)=true then (i:Int)else Lib.idxByFrom _ x l (i+1))=_;rw[at8,List.findIdx?_cons];by_cases h:p (f a)=true
   ·rw[aH9 h,aH9 h];rfl
   ·rw[aH8 h,aH8 h,ih (i+1)];cases (l.map f).findIdx? p with
    | none=>rfl
    | some j=>
     show ((i+1+j:Nat):Int)=((i+(j+1):Nat):Int);congr 1;omega
 rw[gen l 0];cases (l.map f).findIdx? p with
 | none=>rfl
 | some j=>simp
theorem Qt{w:World}{p q bp bx:Nat}{SA:Nat→Prop}{lv ov:Value}{m:Pm}(h:PmIn w p q SA lv ov m)(hok:m.Ok)(hb:w.cell? ⟨bp,0,none⟩=some (.pointer (some ⟨p,0,none⟩)))(x:Int)(hx:w.cell? ⟨bx,0,none⟩=some (.int .i64 x))
  (hl:m.L.length≤1000000000):
  Calls Tryz.prog 151 #[ov, .func (.func 152) #[] #[.pointer (some ⟨bp,0,none⟩), .pointer (some ⟨bx,0,none⟩)]] w fun e w'=>e= .returned (.int .i64 (m.has x))∧∃n,w'=w.drewN n:=by
 by_cases h0:m.O.length=0
 ·have e0:m.O=[]:=aq2 h0;obtain⟨a,c,rfl,_,_⟩:=aM h.ord;have e1:m.has x= -1:=by unfold Pm.has;rw[e0];rfl
  have key:Calls Tryz.prog 151 #[.slice a m.O.length c, .func (.func 152) #[] #[.pointer (some ⟨bp,0,none⟩), .pointer (some ⟨bx,0,none⟩)]] w fun e w'=>e= .returned (.int .i64 (-1))∧w'=w:=by
   rw[h0];exact AnyE.slices_IndexFunc_empty Tryz.laysIF a c _ w
  rw[e1];refine key.mono ?_;rintro e w' ⟨rfl,rfl⟩;exact⟨rfl,0,rfl⟩
 ·rcases h.ord.2 with ⟨_,h1⟩ | ⟨g,cap,cur,rfl,_,hg,hc1,hc2,hsz,htk⟩
  ·omega
  have hlen:0<m.L.length:=by
   have :=hok.lt (as3 (l:=m.O) (n:=0) E);omega
  obtain⟨gl,capl,rfl,hrd⟩:=h.rd hlen hb
  letI:Inhabited (Fin m.L.length):=⟨⟨0,hlen⟩⟩
  obtain⟨zs,hzs⟩:∃zs:List (Fin m.L.length),zs.map Fin.val=m.O:=⟨m.O.attach.map fun x=>⟨x.1,hok.lt x.2⟩,by rw[av0];exact ao9 m.O⟩;have hzl:zs.length=m.O.length:=by rw[←hzs,at1]
  have eg:∀args w,(callFunc 152 args).run Tryz.prog w= .ok (.enter 152 args) w:=enters_of Tryz.func152 Ek rfl;have hbx:=aF8 w _ hx;have key:=AnyE.slices_IndexFunc Tryz.laysIF (fun x:Fin m.L.length=>bG x.1) (fun y=>aH m.L y.1==x) 152 #[.pointer (some ⟨bp,0,none⟩), .pointer (some ⟨bx,0,none⟩)] eg g 0 m.O.length cap zs w
   (fun W y hW=>Wk (hrd.below hW) y.1 x ((hW.cell (p:=⟨bx,0,none⟩) hbx).trans hx) y.2 hl) E
   (by have :=(hok.nd).length_le_of_subset (l₂:=List.range m.L.length) (fun k hk=>ax4.2 (hok.lt hk));simp at this;omega)
   (fun j hj=>by
    have e:(cur.toList.take (m.O.length*1))[j]? =(m.O.map bG)[j]? :=by rw[htk]
    rw[ar9,aH9 E,←hzs,av0,ar6,ar3 hj]at e
    rw[aC7,aG7 w g j _ _ _ hg,←am1,e,aH4 zs j hj];rfl)
  have e1:Lib.idxBy (fun _ (y:Fin m.L.length)=>aH m.L y.1==x) (zs.take m.O.length) default=m.has x:=by
   have :=Mg (fun y:Fin m.L.length=>y.1) (fun k=>aH m.L k==x) zs m.O hzs default;exact this
  rw[e1]at key;exact key
theorem qV{w:World}{p q:Nat}{SA:Nat→Prop}{lv ov:Value}{m:Pm}(h:PmIn w p q SA lv ov m)(hok:m.Ok)(hl:m.L.length≤1000000000)(x:Int):
  Calls Tryz.prog 97 #[.pointer (some ⟨p,0,none⟩), .int .i64 x] w fun e w'=>e= .returned (.int .i64 (m.has x))∧Below w.heap.size w w':=by
 have hb1:=aC w (.cells #[.pointer (some ⟨p,0,none⟩)] 92);have hb2:Below w.heap.size w ((w.alloc (.cells #[.pointer (some ⟨p,0,none⟩)] 92)).alloc (.cells #[.int .i64 x] 3)):=hb1.alloc Es _;have hbp:((w.alloc (.cells #[.pointer (some ⟨p,0,none⟩)] 92)).alloc (.cells #[.int .i64 x] 3)).cell? ⟨w.heap.size,0,none⟩=some (.pointer (some ⟨p,0,none⟩)):=
  ((aC (w.alloc (.cells #[.pointer (some ⟨p,0,none⟩)] 92)) (.cells #[.int .i64 x] 3)).cell (p:=⟨w.heap.size,0,none⟩) Es).trans (aF9 _ _ _ _ rfl)
 have hbx:((w.alloc (.cells #[.pointer (some ⟨p,0,none⟩)] 92)).alloc (.cells #[.int .i64 x] 3)).cell? ⟨w.heap.size+1,0,none⟩=some (.int .i64 x):=by
  have :((w.alloc (.cells #[.pointer (some ⟨p,0,none⟩)] 92)).alloc (.cells #[.int .i64 x] 3)).cell? ⟨(w.alloc (.cells #[.pointer (some ⟨p,0,none⟩)] 92)).heap.size,0,none⟩=some (.int .i64 x):=aF9 _ _ _ _ rfl;rwa[show (w.alloc (.cells #[.pointer (some ⟨p,0,none⟩)] 92)).heap.size=w.heap.size+1 by simp]at this
 have h2:=h.below hb2;have key:=Qt h2 hok hbp x hbx hl;obtain⟨e0,e1,e2,e3,e4,e5⟩:=h2.cells;have HK:=θ key;have HB:=θ hb2;clear key hb1 hb2 h h2 hok e0 e1 e3 e4 e5 hbx;obtain⟨k,hk⟩:∃k,m.has x=k:=⟨_,rfl⟩;rw[hk]at HK⊢;go_enter Tryz.func97,Tryz.ntmps97;go_wp2_with (go_at_call 151;refine HK.o.mono ?_;rintro e w' ⟨rfl,n,rfl⟩);go_ret;exact⟨rfl,aX HB.o n⟩
theorem PmIn.pair {w:World}{p q:Nat}{SA:Nat→Prop}{lv ov:Value}{m:Pm}(h:PmIn w p q SA lv ov m)(hok:m.Ok){i:Nat}(hi:i<m.O.length):
  ∃g cap gl capl k,lv= .slice (some ⟨gl,0,none⟩) m.L.length capl∧ov= .slice (some ⟨g,0,none⟩) m.O.length cap∧m.O[i]? =some k∧k<m.L.length∧w.cell? ⟨g,i,none⟩=some (.int .i64 (k:Int))∧
   w.cell? ⟨gl,k*2,none⟩=some (.int .i64 (aD m.L k))∧w.cell? ⟨gl,k*2+1,none⟩=some (.int .i64 (aH m.L k)):=by
 have hk:=hok.lt (as3 hi);rcases h.ord.2 with ⟨_,h1⟩ | ⟨g,cap,cur,rfl,_,hg,hc1,hc2,hsz,htk⟩
 ·omega
 rcases h.tab.2 with ⟨_,h0⟩ | ⟨gl,capl,curl,rfl,_,hgl,h1,h2,hszl,htkl⟩
 ·omega
 have hc:∀j,j<m.L.length*2→curl[j]? =(bB m.L)[j]? :=fun j hj=>by rw[←htkl,ar9,aH9 E,am1]
 obtain⟨e1,e2⟩:=jR m.L m.O[i] hk;refine⟨g,cap,gl,capl,m.O[i],rfl,rfl,ar3 hi,hk,?_,?_,?_⟩
 ·have e:(cur.toList.take (m.O.length*1))[i]? =(m.O.map bG)[i]? :=by rw[htk]
  rw[ar9,aH9 E,ar6,ar3 hi]at e;rw[aG7 w g i _ _ _ hg,←am1,e];rfl
 ·rw[aG7 w gl _ _ _ _ hgl,hc _ E,e1]
 ·rw[aG7 w gl _ _ _ _ hgl,hc _ E,e2]
theorem Pm.Ok.olen {m:Pm}(h:m.Ok):m.O.length≤m.L.length:=by
 have :=(h.nd).length_le_of_subset (l₂:=List.range m.L.length) (fun k hk=>ax4.2 (h.lt hk));simpa using this
theorem Pm.is_lt {m:Pm}(hs:m.Sorted){x:Int}(h:m.is x=true):m.cnt x<m.O.length∧aD m.L (m.O[m.cnt x]?.getD 0)=x:=by
 unfold Pm.is at h;rw[ao6]at h;obtain⟨k,hk,he⟩:=h;obtain⟨j,hj,rfl⟩:=as4 hk;have he:aD m.L m.O[j]=x:=by simpa using he
 have hc:m.cnt x=j:=by
  refine Lib.countP_boundary _ m.O j E (fun t ht=>?_) (fun t h3 h4=>?_)
  ·rw[aH4 m.O t E,aH2];have :=ay2.1 hs t j E hj ht;omega
  ·rw[aH4 m.O t h4,aH0];rcases aB0 j t with k | k
   ·have :=ay2.1 hs j t hj h4 k;omega
   ·obtain rfl:t=j:=E;omega
 rw[hc];exact⟨hj,by rw[ar3 hj];exact he⟩
def Pm.pos (m:Pm)(x:Int):Int:=if m.is x=true then aH m.L (m.O[m.cnt x]?.getD 0)else -1
def Pm.row (m:Pm)(x:Int):Int:=if m.has x<0 then -1 else aD m.L (m.O[(m.has x).toNat]?.getD 0)
theorem Ys{w:World}{p q:Nat}{SA:Nat→Prop}{lv ov:Value}{m:Pm}(h:PmIn w p q SA lv ov m)(hok:m.Ok)(hs:m.Sorted)(hl:m.L.length≤1000000000)(x:Int):
  Calls Tryz.prog 129 #[.pointer (some ⟨p,0,none⟩), .int .i64 x] w fun e w'=>e= .returned (.int .i64 (m.pos x))∧PmIn w' p q SA lv ov m∧Chg (fun b=>ov.ownBlock=some b) w w':=by
 have key:=tG h hok hs hl x;have HK:=θ key;clear key h;cases hi:m.is x with
 | false=>
  have e:m.pos x= -1:=by unfold Pm.pos;rw[hi];simp
  rw[e];rw[hi]at HK;clear hi e;go_enter Tryz.func129,Tryz.ntmps129;go_wp2_with (go_at_call 96;refine HK.o.mono ?_;rintro e w' ⟨rfl,hP,hC⟩);go_ret;exact⟨rfl,hP,hC⟩
 | true=>
  obtain⟨hlt,_⟩:=Pm.is_lt hs hi;have e:m.pos x=aH m.L (m.O[m.cnt x]?.getD 0):=by unfold Pm.pos;rw[aH9 hi]
  rw[e];rw[hi]at HK;have hol:=hok.olen;clear hi e;generalize m.cnt x=i at *;obtain⟨k,hk⟩:∃k,m.O[i]? =some k:=⟨_,ar3 hlt⟩;obtain⟨y,hy⟩:∃y,aH m.L k=y:=⟨_,rfl⟩;rw[hk,aD0,hy];have HKK:=θ hk;have HY:=θ hy;clear hk hy;go_enter Tryz.func129,Tryz.ntmps129;go_wp2_with fail;refine HK.o.mono ?_;rintro e w1 ⟨rfl,hP,hC⟩;obtain⟨g,cap,gl,capl,k',rfl,rfl,hk,hkl,c1,c2,c3⟩:=hP.pair hok hlt;rw[HKK.o]at hk;injection hk with hk
  subst hk;rw[HY.o]at c3;obtain⟨e0,e1,e2,e3,e4,e5⟩:=hP.cells;have HP:=θ hP;have HC:=θ hC;have i0:(0:Int)≤(i:Int):=E;have i1:(i:Int)<(m.O.length:Int):=E;have j0:(0:Int)≤(k:Int):=E;have j1:(k:Int)<(m.L.length:Int):=E;clear hP hC e0 e3 e4 e5 c2 HK hs hok;go_wp2_with fail;go_quiet (fail);go_wp2_with fail;go_ret;exact⟨rfl,HP.o.below (aX (am4 _ _) _),HC.o.drewN _⟩
theorem Yx{w:World}{p q:Nat}{SA:Nat→Prop}{lv ov:Value}{m:Pm}(h:PmIn w p q SA lv ov m)(hok:m.Ok)(hl:m.L.length≤1000000000)(x:Int):
  Calls Tryz.prog 120 #[.pointer (some ⟨p,0,none⟩), .int .i64 x] w fun e w'=>e= .returned (.int .i64 (m.row x))∧Below w.heap.size w w':=by
 have key:=qV h hok hl x;have HK:=θ key;clear key;by_cases hi:m.has x<0
 ·have e:m.row x= -1:=by unfold Pm.row;rw[aH9 hi]
  rw[e];have d1:decide (m.has x<0)=true:=aH1 hi;clear hi e;generalize m.has x=y at *;go_enter Tryz.func120,Tryz.ntmps120;go_wp2_with (go_at_call 97;refine HK.o.mono ?_;rintro e w' ⟨rfl,hC⟩);go_ret;exact⟨rfl,hC⟩
 ·have e:m.row x=aD m.L (m.O[(m.has x).toNat]?.getD 0):=by unfold Pm.row;rw[aH8 hi]
  obtain⟨i,hix,hlt⟩:∃i:Nat,m.has x=(i:Int)∧i<m.O.length:=by
   unfold Pm.has at hi⊢;cases hf:m.O.findIdx? fun k=>aH m.L k==x with
   | none=>rw[hf]at hi;exact absurd Ed hi
   | some i=>exact⟨i,rfl,(List.findIdx?_eq_some_iff_getElem.1 hf).1⟩
  rw[e];rw[hix]at HK⊢;have hol:=hok.olen;have d1:decide ((i:Int)<0)=false:=aG9 E;obtain⟨k,hk⟩:∃k,m.O[i]? =some k:=⟨_,ar3 hlt⟩;obtain⟨y,hy⟩:∃y,aD m.L k=y:=⟨_,rfl⟩;rw[ao2,hk,aD0,hy];have HKK:=θ hk;have HY:=θ hy;clear hi e hix hk hy;go_enter Tryz.func120,Tryz.ntmps120;go_wp2_with fail;refine HK.o.mono ?_;rintro e w1 ⟨rfl,hC⟩;have hP:=h.below hC;obtain⟨g,cap,gl,capl,k',rfl,rfl,hk,hkl,c1,c2,c3⟩:=hP.pair hok hlt;rw[HKK.o]at hk;injection hk with hk
  subst hk;rw[HY.o]at c2;obtain⟨e0,e1,e2,e3,e4,e5⟩:=hP.cells;have HC:=θ hC;have i0:(0:Int)≤(i:Int):=E;have i1:(i:Int)<(m.O.length:Int):=E;have j0:(0:Int)≤(k:Int):=E;have j1:(k:Int)<(m.L.length:Int):=E;clear hP hC e0 e3 e4 e5 c3 HK hok h;go_wp2_with fail;go_quiet (fail);go_wp2_with fail;go_ret;exact⟨rfl,aX HC.o _⟩
def TabIs(w:World)(gl cap:Nat)(L:List (Int×Int)):Prop:=w.ownsRow 0 134 2 (.slice (some ⟨gl,0,none⟩) L.length cap) L.length (bB L)
theorem TabIs.ex {w:World}{gl cap:Nat}{L:List (Int×Int)}(h:TabIs w gl cap L):
  ∃cur:Array Value,w.heap[gl]? =some (.cells cur 134 (0,0))∧L.length≤cap∧cap≤maxLen∧cur.size=cap*2∧cur.toList.take (L.length*2)=bB L:=by
 rcases h.2 with ⟨h,_⟩ | ⟨g,c,cur,hv,_,h1,h2,h3,h4,h5⟩
 ·cases h
 ·injection hv with e1 _ e3
  injection e1 with e1
  injection e1 with e1 _ _
  subst e1;subst e3;exact⟨cur,h1,h2,h3,h4,h5⟩
theorem TabIs.cells {w:World}{gl cap:Nat}{L:List (Int×Int)}(h:TabIs w gl cap L){k:Nat}(hk:k<L.length):
  w.cell? ⟨gl,k*2,none⟩=some (.int .i64 (aD L k))∧w.cell? ⟨gl,k*2+1,none⟩=some (.int .i64 (aH L k))∧∀j,w.frozen? ⟨gl,j,none⟩=false:=by
 obtain⟨cur,hg,h1,h2,hsz,htk⟩:=h.ex;have hc:∀j,j<L.length*2→cur[j]? =(bB L)[j]? :=fun j hj=>by rw[←htk,ar9,aH9 E,am1]
 obtain⟨e1,e2⟩:=jR L k hk;exact⟨by rw[aG7 w gl _ _ _ _ hg,hc _ E,e1],by rw[aG7 w gl _ _ _ _ hg,hc _ E,e2],fun j=>aH3 w gl j _ _ hg⟩
theorem tV:∀(L:List (Int×Int)) (k:Nat) (x:Int),k<L.length→(bB L).set (k*2) (.int .i64 x)=bB (L.set k (x,aH L k))
 | [],k,x,h=>absurd h (Nat.not_lt_zero _)
 | y::L,0,x,_=>rfl
 | y::L,k+1,x,h=>by
  rw[show (k+1)*2=k*2+1+1 by omega];show _::_::(bB L).set (k*2) _=_::_::bB (L.set k _);rw[tV L k x (by simpa using h)];rfl
theorem tW:∀(L:List (Int×Int)) (k:Nat) (x:Int),k<L.length→(bB L).set (k*2+1) (.int .i64 x)=bB (L.set k (aD L k,x))
 | [],k,x,h=>absurd h (Nat.not_lt_zero _)
 | y::L,0,x,_=>rfl
 | y::L,k+1,x,h=>by
  rw[show (k+1)*2+1=k*2+1+1+1 by omega];show _::_::(bB L).set (k*2+1) _=_::_::bB (L.set k _);rw[tW L k x (by simpa using h)];rfl
theorem TabIs.put {w:World}{gl cap:Nat}{L L':List (Int×Int)}(h:TabIs w gl cap L)(j:Nat)(v:Value)(hl:L'.length=L.length)(he:(bB L).set j v=bB L'):TabIs (w.setCell ⟨gl,j,none⟩ v) gl cap L':=by
 obtain⟨cur,hg,h1,h2,hsz,htk⟩:=h.ex;refine⟨qO _, .inr ⟨gl,cap,_,rfl,Nat.zero_le _,heap_setCell_same w gl j cur _ v hg,E,h2,by simpa using hsz,?_⟩⟩;rw[am2,hl,List.take_set,htk,he]
theorem TabIs.setRow {w:World}{gl cap:Nat}{L:List (Int×Int)}(h:TabIs w gl cap L){k:Nat}(hk:k<L.length)(x:Int):TabIs (w.setCell ⟨gl,k*2,none⟩ (.int .i64 x)) gl cap (L.set k (x,aH L k)):=
 h.put _ _ Es (tV L k x hk)
theorem TabIs.setPos {w:World}{gl cap:Nat}{L:List (Int×Int)}(h:TabIs w gl cap L){k:Nat}(hk:k<L.length)(x:Int):TabIs (w.setCell ⟨gl,k*2+1,none⟩ (.int .i64 x)) gl cap (L.set k (aD L k,x)):=
 h.put _ _ Es (tW L k x hk)
def bK(f:Int×Int→Int×Int)(O:List Nat)(L:List (Int×Int)):List (Int×Int):=(List.range L.length).map fun k=>if k∈O then f (aD L k,aH L k)else (aD L k,aH L k)
theorem cK(f:Int×Int→Int×Int)(O:List Nat)(L:List (Int×Int)):(bK f O L).length=L.length:=by simp[bK]
theorem lF{f:Int×Int→Int×Int}{O:List Nat}{L:List (Int×Int)}{k:Nat}(hk:k<L.length):(bK f O L)[k]? =some (if k∈O then f (aD L k,aH L k)else (aD L k,aH L k)):=by simp[bK,hk]
theorem Ax(f:Int×Int→Int×Int)(L:List (Int×Int)):bK f [] L=L:=by
 apply aq3;intro k;by_cases hk:k<L.length
 ·rw[lF hk,aH8 Es,ar3 hk];simp[aD,aH,hk]
 ·rw[ar4 (by rw[cK];omega),ar4 E]
theorem Mc{f:Int×Int→Int×Int}{O:List Nat}{L:List (Int×Int)}{i k:Nat}(hi:O[i]? =some k)(hk:k<L.length):(bK f (O.take i) L).set k (f (aD L k,aH L k))=bK f (O.take (i+1)) L:=by
 apply aq3;intro j;rw[ar8,cK];by_cases hj:j<L.length
 ·rw[lF hj,lF hj,ay9,hi];by_cases e:k=j
  ·subst e;simp[hk]
  ·have :¬j=k:=fun h=>e h.symm;simp[e,this]
 ·rw[ar4 (l:=bK f (List.take (i+1) O) L) (by rw[cK];omega),aH8 E,ar4 (by rw[cK];omega)]
theorem jE{w:World}{p q:Nat}{SA:Nat→Prop}{lv ov:Value}{m:Pm}(h:PmIn w p q SA lv ov m)(hok:m.Ok)(hl:m.L.length≤1000000000)(f:Int×Int→Int×Int)(g:Nat)(lb:Array Value)
  (eg:∀args w,(callFunc g args).run Tryz.prog w= .ok (.enter g args) w)
  (hf:∀gl cap,lv= .slice (some ⟨gl,0,none⟩) m.L.length cap→∀(W:World) (L:List (Int×Int)) (k:Nat),Chg (fun b=>b=gl) w W→TabIs W gl cap L→L.length=m.L.length→k∈m.O→aD L k=aD m.L k→aH L k=aH m.L k→
   Calls Tryz.prog g (#[.pointer (some ⟨gl,k*2,none⟩)]++lb) W fun e w'=>e= .returned (.tuple #[])∧TabIs w' gl cap (L.set k (f (aD m.L k,aH m.L k)))∧Chg (fun b=>b=gl) W w'):
  Calls Tryz.prog 164 #[.pointer (some ⟨p,0,none⟩), .func (.func g) #[] lb] w fun e w'=>
   e= .returned (.tuple #[])∧PmIn w' p q SA lv ov ⟨m.A,bK f m.O m.L,m.O,m.R,m.N⟩∧Chg (fun b=>lv.ownBlock=some b) w w':=by
 by_cases h0:m.O.length=0
 ·have e0:m.O=[]:=aq2 h0;have hm:(⟨m.A,bK f m.O m.L,m.O,m.R,m.N⟩:Pm)=m:=by rw[e0,Ax,←e0]
  rw[hm];obtain⟨a,c,rfl,_,_⟩:=aM h.ord;obtain⟨_,_,c2,_,_,_⟩:=h.cells;rw[h0]at c2;have HP:=θ h;clear h hok hf;go_enter Tryz.func164,Tryz.ntmps164;go_wp2_with fail;go_loopw [11] (fun v wr=>v= .int .i64 0∧wr=w) (fun _ _=>0);case atStart=>exact⟨rfl,rfl⟩
  case round=>
   obtain⟨rfl,rfl⟩:=hrel;go_wp2_with fail;go_end0;exact⟨rfl,HP.o,Chg.refl⟩
 ·have hi0:0<m.O.length:=E;obtain⟨gg,cap,gl,capl,k,rfl,rfl,_,_,_,_,_⟩:=h.pair hok hi0;obtain⟨n1,n2,n3⟩:=h.d3 gg rfl;obtain⟨n4,n5⟩:=h.d2 gl rfl;have hne:gg≠gl:=fun e=>n3 (by rw[e];rfl);obtain⟨_,c1,c2,_,_,_⟩:=h.cells;have hf:=hf gl capl rfl;have HW:Hid (∀W,Chg (fun b=>b=gl) w W→W.cell? ⟨p,1,none⟩=some (.slice (some ⟨gl,0,none⟩) m.L.length capl)∧∀i k:Nat,m.O[i]? =some k→W.cell? ⟨gg,i,none⟩=some (.int .i64 (k:Int))):=by
   intro W hW;refine⟨hW.cell c1 (fun e=>n4 e.symm),fun i k hk=>hW.cell ?_ hne⟩;have hi:i<m.O.length:=(ar5.1 hk).1;obtain⟨g',_,_,_,k',_,hv,hk',_,hc,_,_⟩:=h.pair hok hi;injection hv with e1 _ _
   injection e1 with e1
   injection e1 with e1 _ _
   subst e1;rw[hk]at hk';injection hk' with hk'
   subst hk';exact hc
  have HF:=θ hf;have HP:=θ h;have HOK:=θ hok;have hol:=hok.olen;have htab:TabIs w gl capl (bK f (m.O.take 0) m.L):=by rw[az6,Ax];exact h.tab
  have HT:=θ htab;clear h hok hf htab c1 n1 n2 n3 n4 n5 hne;go_enter Tryz.func164,Tryz.ntmps164;go_wp2_with fail;go_loopw [11] (fun v wr=>∃i:Nat,i≤m.O.length∧v= .int .i64 i∧TabIs wr gl capl (bK f (m.O.take i) m.L)∧Chg (fun b=>b=gl) w wr) (fun v _=>m.O.length-(intOf v).toNat);case atStart=>exact⟨0,aC8 _,rfl,HT.o,Chg.refl⟩
  case round=>
   obtain⟨i,hi,rfl,htab,hch⟩:=hrel;have HTB:=θ htab;have HCH:=θ hch;obtain⟨c1,c3⟩:=HW.o wr hch;by_cases hlt:i<m.O.length
   ·obtain⟨k,hk⟩:∃k,m.O[i]? =some k:=⟨_,ar3 hlt⟩;have c4:=c3 i k hk;have hkm:k∈m.O:=ax2 hk;have hkl:=HOK.o.lt hkm;have hget:(bK f (m.O.take i) m.L)[k]? =some (aD m.L k,aH m.L k):=by
     rw[lF hkl,aH8];intro hmem;obtain⟨j,hj,e⟩:=as4 hmem;rw[at5]at hj;rw[as5]at e;have hki:m.O[i]=k:=by rw[ar3 hlt]at hk;injection hk
     have :=(ay2.1 HOK.o.nd) j i E hlt E;exact this (by rw[e,hki])
    have hcall:=HF.o wr (bK f (m.O.take i) m.L) k hch htab (cK _ _ _) hkm (by unfold aD;rw[hget];rfl) (by unfold aH;rw[hget];rfl);rw[Mc hk hkl]at hcall;have HCALL:=θ hcall;clear c3 hcall hget htab hch;go_wp2_with (go_at_fn g;refine HCALL.o.mono ?_;rintro e w' ⟨rfl,hT',hC'⟩);have HT':=θ hT';have HC':=θ hC';clear hT' hC';go_wp2_with fail;go_roundw;case rel=>exact⟨i+1,E,by go_num,HT'.out,HCH.o.trans HC'.out (fun b hb=>Ei hb)⟩
    case measure=>simp[intOf];omega
   ·obtain rfl:i=m.O.length:=E;clear c3 htab hch;go_wp2_with fail;go_end0;refine⟨rfl,?_,HCH.o.mono (fun b e=>by rw[e];rfl)⟩;have hd3:=HP.o.d3 gg rfl;have hd2:=HP.o.d2 gl rfl;have ht:=HTB.o;rw[az2]at ht;have hne:gg≠gl:=fun e=>hd3.2.2 (by rw[e];rfl);refine⟨HCH.o.heap HP.o.hp (fun e=>hd2.1 e.symm),HP.o.ar.chg HCH.o (fun k hk e=>hd2.2 (by rw[←e];exact hk)),?_,HCH.o.own HP.o.ord (fun k hk e=>by simp[Value.ownBlock]at hk;omega),HP.o.d1,HP.o.d2,HP.o.d3⟩;have :=ht;unfold TabIs at this;rw[cK]at this;show World.ownsRow _ _ _ _ _ (bK f m.O m.L).length _;rw[cK];exact this
theorem oD{L:List (Int×Int)}{k:Nat}(hk:k<L.length):L.set k (aD L k,aH L k)=L:=by
 apply aq3;intro j;rw[ar8];by_cases e:k=j
 ·subst e;simp[aD,aH,hk]
 ·rw[aH8 e]
def jT(x:Int)(y:Int×Int):Int×Int:=if x≤y.1 then (y.1+1,y.2)else y
theorem Im{W:World}{gl cap bx k:Nat}{L:List (Int×Int)}{x:Int}(h:TabIs W gl cap L)(hk:k<L.length)(hx:W.cell? ⟨bx,0,none⟩=some (.int .i64 x))(hb0: -1≤aD L k)(hb1:aD L k≤1000000000):
  Calls Tryz.prog 173 #[.pointer (some ⟨gl,k*2,none⟩), .pointer (some ⟨bx,0,none⟩)] W fun e w'=>e= .returned (.tuple #[])∧TabIs w' gl cap (L.set k (jT x (aD L k,aH L k)))∧Chg (fun b=>b=gl) W w':=by
 obtain⟨c1,c2,c3⟩:=h.cells hk;have c4:=c3 (k*2);have c5:=c3 (k*2+1);have HS:=θ (h.setRow hk (aD L k+1));have HN:Hid (TabIs W gl cap (L.set k (aD L k,aH L k))):=by show TabIs _ _ _ _;rw[oD hk];exact h
 unfold jT;clear h c3;generalize aD L k=y at *;generalize aH L k=z at *;by_cases hc:x≤y
 ·have d1:decide (x≤y)=true:=aH1 hc;rw[aH9 hc];clear hc;go_enter Tryz.func173,Tryz.ntmps173;go_wp2_with fail;go_quiet (fail);go_wp2_with fail;go_end0;exact⟨rfl,HS.o,(Chg.refl.drewN _).setCell (S:=fun b=>b=gl) ⟨gl,k*2,none⟩ (Ei rfl) _⟩
 ·have d1:decide (x≤y)=false:=aG9 hc;rw[aH8 hc];clear hc HS;go_enter Tryz.func173,Tryz.ntmps173;go_wp2_with fail;go_quiet (fail);go_wp2_with fail;go_end0;exact⟨rfl,HN.o,Chg.refl.drewN _⟩
def jA(x:Int)(y:Int×Int):Int×Int:=if x<y.1 then (y.1-1,y.2)else y
theorem Fd{W:World}{gl cap bx k:Nat}{L:List (Int×Int)}{x:Int}(h:TabIs W gl cap L)(hk:k<L.length)(hx:W.cell? ⟨bx,0,none⟩=some (.int .i64 x))(hb0: -1≤aD L k)(hb1:aD L k≤1000000000):
  Calls Tryz.prog 165 #[.pointer (some ⟨gl,k*2,none⟩), .pointer (some ⟨bx,0,none⟩)] W fun e w'=>e= .returned (.tuple #[])∧TabIs w' gl cap (L.set k (jA x (aD L k,aH L k)))∧Chg (fun b=>b=gl) W w':=by
 obtain⟨c1,c2,c3⟩:=h.cells hk;have c4:=c3 (k*2);have c5:=c3 (k*2+1);have HS:=θ (h.setRow hk (aD L k-1));have HN:Hid (TabIs W gl cap (L.set k (aD L k,aH L k))):=by show TabIs _ _ _ _;rw[oD hk];exact h
 unfold jA;clear h c3;generalize aD L k=y at *;generalize aH L k=z at *;by_cases hc:x<y
 ·have d1:decide (x<y)=true:=aH1 hc;rw[aH9 hc];clear hc;go_enter Tryz.func165,Tryz.ntmps165;go_wp2_with fail;go_quiet (fail);go_wp2_with fail;go_end0;exact⟨rfl,HS.o,(Chg.refl.drewN _).setCell (S:=fun b=>b=gl) ⟨gl,k*2,none⟩ (Ei rfl) _⟩
 ·have d1:decide (x<y)=false:=aG9 hc;rw[aH8 hc];clear hc HS;go_enter Tryz.func165,Tryz.ntmps165;go_wp2_with fail;go_quiet (fail);go_wp2_with fail;go_end0;exact⟨rfl,HN.o,Chg.refl.drewN _⟩
def jS(x:Int)(y:Int×Int):Int×Int:=if x≤y.2 then (y.1,y.2+1)else y
theorem Ik{W:World}{gl cap bx k:Nat}{L:List (Int×Int)}{x:Int}(h:TabIs W gl cap L)(hk:k<L.length)(hx:W.cell? ⟨bx,0,none⟩=some (.int .i64 x))(hb0: -1≤aH L k)(hb1:aH L k≤1000000000):
  Calls Tryz.prog 174 #[.pointer (some ⟨gl,k*2,none⟩), .pointer (some ⟨bx,0,none⟩)] W fun e w'=>e= .returned (.tuple #[])∧TabIs w' gl cap (L.set k (jS x (aD L k,aH L k)))∧Chg (fun b=>b=gl) W w':=by
 obtain⟨c1,c2,c3⟩:=h.cells hk;have c4:=c3 (k*2);have c5:=c3 (k*2+1);have HS:=θ (h.setPos hk (aH L k+1));have HN:Hid (TabIs W gl cap (L.set k (aD L k,aH L k))):=by show TabIs _ _ _ _;rw[oD hk];exact h
 unfold jS;clear h c3;generalize aD L k=y at *;generalize aH L k=z at *;by_cases hc:x≤z
 ·have d1:decide (x≤z)=true:=aH1 hc;rw[aH9 hc];clear hc;go_enter Tryz.func174,Tryz.ntmps174;go_wp2_with fail;go_quiet (fail);go_wp2_with fail;go_end0;exact⟨rfl,HS.o,(Chg.refl.drewN _).setCell (S:=fun b=>b=gl) ⟨gl,k*2+1,none⟩ (Ei rfl) _⟩
 ·have d1:decide (x≤z)=false:=aG9 hc;rw[aH8 hc];clear hc HS;go_enter Tryz.func174,Tryz.ntmps174;go_wp2_with fail;go_quiet (fail);go_wp2_with fail;go_end0;exact⟨rfl,HN.o,Chg.refl.drewN _⟩
def gZ(x:Int)(y:Int×Int):Int×Int:=if x<y.2 then (y.1,y.2-1)else y
theorem sD{W:World}{gl cap bx k:Nat}{L:List (Int×Int)}{x:Int}(h:TabIs W gl cap L)(hk:k<L.length)(hx:W.cell? ⟨bx,0,none⟩=some (.int .i64 x))(hb0: -1≤aH L k)(hb1:aH L k≤1000000000):
  Calls Tryz.prog 167 #[.pointer (some ⟨gl,k*2,none⟩), .pointer (some ⟨bx,0,none⟩)] W fun e w'=>e= .returned (.tuple #[])∧TabIs w' gl cap (L.set k (gZ x (aD L k,aH L k)))∧Chg (fun b=>b=gl) W w':=by
 obtain⟨c1,c2,c3⟩:=h.cells hk;have c4:=c3 (k*2);have c5:=c3 (k*2+1);have HS:=θ (h.setPos hk (aH L k-1));have HN:Hid (TabIs W gl cap (L.set k (aD L k,aH L k))):=by show TabIs _ _ _ _;rw[oD hk];exact h
 unfold gZ;clear h c3;generalize aD L k=y at *;generalize aH L k=z at *;by_cases hc:x<z
 ·have d1:decide (x<z)=true:=aH1 hc;rw[aH9 hc];clear hc;go_enter Tryz.func167,Tryz.ntmps167;go_wp2_with fail;go_quiet (fail);go_wp2_with fail;go_end0;exact⟨rfl,HS.o,(Chg.refl.drewN _).setCell (S:=fun b=>b=gl) ⟨gl,k*2+1,none⟩ (Ei rfl) _⟩
 ·have d1:decide (x<z)=false:=aG9 hc;rw[aH8 hc];clear hc HS;go_enter Tryz.func167,Tryz.ntmps167;go_wp2_with fail;go_quiet (fail);go_wp2_with fail;go_end0;exact⟨rfl,HN.o,Chg.refl.drewN _⟩
def mvR(a b y:Int):Int:=if y=a then b else if b≤(if a<y then y-1 else y)then (if a<y then y-1 else y)+1 else (if a<y then y-1 else y)
def oM(a b:Int)(y:Int×Int):Int×Int:=(mvR a b y.1,y.2)
theorem Mr{W:World}{gl cap ba bb k:Nat}{L:List (Int×Int)}{a b:Int}(h:TabIs W gl cap L)(hk:k<L.length)(ha:W.cell? ⟨ba,0,none⟩=some (.int .i64 a))(hb:W.cell? ⟨bb,0,none⟩=some (.int .i64 b))(na:ba≠gl)(nb:bb≠gl)
  (hb0: -1≤aD L k) (hb1:aD L k≤1000000000):
  Calls Tryz.prog 171 #[.pointer (some ⟨gl,k*2,none⟩), .pointer (some ⟨ba,0,none⟩), .pointer (some ⟨bb,0,none⟩)] W fun e w'=>e= .returned (.tuple #[])∧TabIs w' gl cap (L.set k (oM a b (aD L k,aH L k)))∧Chg (fun b=>b=gl) W w':=by
 obtain⟨c1,c2,c3⟩:=h.cells hk;have c4:=c3 (k*2);have HT:=θ h;have HSET:Hid (∀x,TabIs (W.setCell ⟨gl,k*2,none⟩ (.int .i64 x)) gl cap (L.set k (x,aH L k))):=fun x=>h.setRow hk x;have HN:Hid (TabIs W gl cap (L.set k (aD L k,aH L k))):=by show TabIs _ _ _ _;rw[oD hk];exact h
 unfold oM;clear h c3 c2;generalize aD L k=y at *;generalize aH L k=z at *;by_cases h1:y=a
 ·have d1:(y==a)=true:=by simp[h1]
  have e:mvR a b y=b:=by unfold mvR;rw[aH9 h1]
  have HE:=θ e;clear h1 e;go_enter Tryz.func171,Tryz.ntmps171;go_wp2_with fail;go_quiet (fail);go_wp2_with fail
  (try simp only[Exit.inBlock,Exit.then]);refine bodyPost_ret (results_none rfl _ _ _) rfl ?_
  refine⟨rfl,?_,(Chg.refl.drewN _).setCell (S:=fun b=>b=gl) ⟨gl,k*2,none⟩ (Ei rfl) _⟩;show TabIs _ _ _ (L.set k (mvR a b y,z));rw[HE.o];exact HSET.o b
 ·have d1:(y==a)=false:=by simp[h1]
  have H1:=θ h1;clear h1;by_cases h2:a<y
  ·have d2:decide (a<y)=true:=aH1 h2;have HX:Hid (∀n,TabIs ((W.drewN n).setCell ⟨gl,k*2,none⟩ (.int .i64 (y-1))) gl cap (L.set k (y-1,z))∧Chg (fun b=>b=gl) W ((W.drewN n).setCell ⟨gl,k*2,none⟩ (.int .i64 (y-1)))):=fun n=>
    ⟨HSET.o (y-1),(Chg.refl.drewN _).setCell (S:=fun b=>b=gl) ⟨gl,k*2,none⟩ (Ei rfl) _⟩
   have HBB:=θ hb;have e0:(if a<y then y-1 else y)=y-1:=aH9 h2;have HE:Hid (mvR a b y=if b≤y-1 then y else y-1):=by show _=_;unfold mvR;rw[aH8 H1.o,e0,show y-1+1=y by omega]
   clear h2 e0;go_enter Tryz.func171,Tryz.ntmps171;go_wp2_with fail;go_quiet (fail);obtain⟨n1,rfl⟩:∃n1,n1=nq:=⟨_,rfl⟩;go_wp2_with fail;go_quiet (fail);obtain⟨n2,rfl⟩:∃n2,n2=nq:=⟨_,rfl⟩;go_wp2_with fail;obtain⟨hT2,hC2⟩:=HX.o (n1+n2);generalize (W.drewN (n1+n2)).setCell ⟨gl,k*2,none⟩ (.int .i64 (y-1))=W2 at *;obtain⟨q1,_,q3⟩:=hT2.cells (k:=k) (by simpa using hk);have q4:=q3 (k*2);have q2:=hC2.cell HBB.o nb;have hs2:TabIs (W2.setCell ⟨gl,k*2,none⟩ (.int .i64 y)) gl cap (L.set k (y,z)):=by
    have :=hT2.setRow (k:=k) (by simpa using hk) y;simpa[aH,hk]using this
   have HS2:=θ hs2;clear hs2;have HT2:=θ hT2;have HC2:=θ hC2;have er:aD (L.set k (y-1,z)) k=y-1:=by simp[aD,hk]
   rw[er]at q1;clear q3 hT2 hC2 c1 c4 ha hb er;by_cases h3:b≤y-1
   ·have d3:decide (b≤y-1)=true:=aH1 h3;have HE2:=HE.o;rw[aH9 h3]at HE2;have HE3:=θ HE2;clear HE2 h3;go_quiet (fail);go_wp2_with fail;go_end0;refine⟨rfl,?_,HC2.o.trans ((Chg.refl.drewN _).setCell (S:=fun b=>b=gl) ⟨gl,k*2,none⟩ (Ei rfl) _) (fun b hb=>Ei hb)⟩;show TabIs _ _ _ (L.set k (mvR a b y,z));rw[HE3.o];exact HS2.o
   ·have d3:decide (b≤y-1)=false:=aG9 h3;have HE2:=HE.o;rw[aH8 h3]at HE2;have HE3:=θ HE2;clear HE2 h3;go_quiet (fail);go_wp2_with fail;go_end0;refine⟨rfl,?_,HC2.o.drewN _⟩;show TabIs _ _ _ (L.set k (mvR a b y,z));rw[HE3.o];exact HT2.o
  ·have d2:decide (a<y)=false:=aG9 h2;have e0:(if a<y then y-1 else y)=y:=aH8 h2;have HE:Hid (mvR a b y=if b≤y then y+1 else y):=by show _=_;unfold mvR;rw[aH8 H1.o,e0]
   clear h2 e0;by_cases h3:b≤y
   ·have d3:decide (b≤y)=true:=aH1 h3;have HE2:=HE.o;rw[aH9 h3]at HE2;have HE3:=θ HE2;clear HE2 h3;go_enter Tryz.func171,Tryz.ntmps171;go_wp2_with fail;go_quiet (fail);go_wp2_with fail;go_quiet (fail);go_wp2_with fail;go_quiet (fail);go_wp2_with fail;go_end0;refine⟨rfl,?_,(Chg.refl.drewN _).setCell (S:=fun b=>b=gl) ⟨gl,k*2,none⟩ (Ei rfl) _⟩;show TabIs _ _ _ (L.set k (mvR a b y,z));rw[HE3.o];exact HSET.o (y+1)
   ·have d3:decide (b≤y)=false:=aG9 h3;have HE2:=HE.o;rw[aH8 h3]at HE2;have HE3:=θ HE2;clear HE2 h3;go_enter Tryz.func171,Tryz.ntmps171;go_wp2_with fail;go_quiet (fail);go_wp2_with fail;go_quiet (fail);go_wp2_with fail;go_quiet (fail);go_wp2_with fail;go_end0;refine⟨rfl,?_,((Chg.refl.drewN _).drewN _).drewN _⟩;show TabIs _ _ _ (L.set k (mvR a b y,z));rw[HE3.o];exact HN.o
theorem PmIn.setR {w:World}{p q:Nat}{SA:Nat→Prop}{lv ov:Value}{m:Pm}(h:PmIn w p q SA lv ov m)(r:Nat):PmIn (w.setCell ⟨p,3,none⟩ (.int .i64 (r:Int))) p q SA lv ov ⟨m.A,m.L,m.O,r,m.N⟩:=by
 have hc:Chg (fun b=>b=p) w (w.setCell ⟨p,3,none⟩ (.int .i64 (r:Int))):=Chg.refl.setCell (S:=fun b=>b=p) ⟨p,3,none⟩ (Ei rfl) _;exact⟨aH6 w p 3 _ _ _ h.hp,h.ar.chg hc (fun k hk e=>h.d1 (by rw[←e];exact hk)),hc.own h.tab (fun k hk e=>(h.d2 k hk).1 e),hc.own h.ord (fun k hk e=>(h.d3 k hk).1 e),h.d1,h.d2,h.d3⟩
theorem PmIn.setN {w:World}{p q:Nat}{SA:Nat→Prop}{lv ov:Value}{m:Pm}(h:PmIn w p q SA lv ov m)(r:Nat):PmIn (w.setCell ⟨p,4,none⟩ (.int .i64 (r:Int))) p q SA lv ov ⟨m.A,m.L,m.O,m.R,r⟩:=by
 have hc:Chg (fun b=>b=p) w (w.setCell ⟨p,4,none⟩ (.int .i64 (r:Int))):=Chg.refl.setCell (S:=fun b=>b=p) ⟨p,4,none⟩ (Ei rfl) _;exact⟨aH6 w p 4 _ _ _ h.hp,h.ar.chg hc (fun k hk e=>h.d1 (by rw[←e];exact hk)),hc.own h.tab (fun k hk e=>(h.d2 k hk).1 e),hc.own h.ord (fun k hk e=>(h.d3 k hk).1 e),h.d1,h.d2,h.d3⟩
theorem Mv{w:World}{p q:Nat}{SA:Nat→Prop}{lv ov:Value}{m:Pm}(h:PmIn w p q SA lv ov m)(hok:m.Ok)(hl:m.L.length≤1000000000)(hr:m.R≤4000000000)(hb:∀k∈m.O,-1≤aD m.L k∧aD m.L k≤1000000000)(x:Int)(h0:0≤x)(h1:x≤m.R):
  Calls Tryz.prog 116 #[.pointer (some ⟨p,0,none⟩), .int .i64 x] w fun e w'=>e= .returned (.int .i64 0)∧PmIn w' p q SA lv ov ⟨m.A,bK (jT x) m.O m.L,m.O,m.R+1,m.N⟩∧Chg (fun b=>b=p∨lv.ownBlock=some b) w w':=by
 have hb0:=aC w (.cells #[.int .i64 x] 3);have hbx:(w.alloc (.cells #[.int .i64 x] 3)).cell? ⟨w.heap.size,0,none⟩=some (.int .i64 x):=aF9 _ _ _ _ rfl;have hP:=h.below hb0;have hC0:Chg (fun b=>b=p∨lv.ownBlock=some b) w (w.alloc (.cells #[.int .i64 x] 3)):=Chg.refl.alloc _;have hlt:=h.lt;have hd2:=h.d2;have hpl:p<w.heap.size:=hlt p (Ei rfl);clear h hb0;have d1:decide (x<0)=false:=aG9 E;have d2:decide ((m.R:Int)<x)=false:=aG9 E;obtain⟨_,_,_,c3,_,c5⟩:=hP.cells;have c6:=c5 3;have HP:=θ hP;have HC0:=θ hC0;have HLT:=θ hlt;have HD2:=θ hd2;have HB:=θ hb;have HOK:=θ hok;clear c5 hP hC0 hlt hd2 hb hok;go_enter Tryz.func116,Tryz.ntmps116;go_wp2_with fail;go_quiet (fail);go_wp2_with fail;have hP2:PmIn (((w.alloc (.cells #[.int .i64 x] 3)).drewN nq).setCell ⟨p,3,none⟩ (.int .i64 ((m.R:Int)+1))) p q SA lv ov ⟨m.A,m.L,m.O,m.R+1,m.N⟩:=(HP.o.below (aX (am4 _ _) nq)).setR (m.R+1);have hC2:Chg (fun b=>b=p∨lv.ownBlock=some b) w (((w.alloc (.cells #[.int .i64 x] 3)).drewN nq).setCell ⟨p,3,none⟩ (.int .i64 ((m.R:Int)+1))):=(HC0.o.drewN nq).setCell ⟨p,3,none⟩ (Ei (Ei rfl)) _;have hbx2:(((w.alloc (.cells #[.int .i64 x] 3)).drewN nq).setCell ⟨p,3,none⟩ (.int .i64 ((m.R:Int)+1))).cell? ⟨w.heap.size,0,none⟩=some (.int .i64 x):=
  ((Chg.refl.drewN nq).setCell (S:=fun b=>b=p) ⟨p,3,none⟩ (Ei rfl) _).cell hbx (fun e=>by have e:w.heap.size=p:=e;omega)
 generalize ((w.alloc (.cells #[.int .i64 x] 3)).drewN nq).setCell ⟨p,3,none⟩ (.int .i64 ((m.R:Int)+1))=w2 at *;have key:=jE hP2 ⟨HOK.o.most,HOK.o.nd,HOK.o.iff,HOK.o.len⟩ hl (jT x) 173 #[.pointer (some ⟨w.heap.size,0,none⟩)] (enters_of Tryz.func173 Ek rfl)
  (fun gl cap hlv W L k hW hT hLl hk er ep=>by
   have hgl:gl<w.heap.size:=HLT.o gl (Ej (Ej (Ei (by rw[hlv];rfl))))
   have hb:=HB.o k hk
   have hkl:=HOK.o.lt hk
   have :=Im hT (k:=k) (by rw[hLl];exact hkl) (hW.cell hbx2 (fun e=>by have e:w.heap.size=gl:=e;omega)) (by rw[er];exact hb.1) (by rw[er];exact hb.2)
   rw[er,ep]at this
   exact this)
 have HK:=θ key;have HC2:=θ hC2;clear key hC2 hP2 hbx2 hbx c3 c6;refine HK.o.mono ?_;rintro e w3 ⟨rfl,hP3,hC3⟩;go_wp2_with fail;go_ret;exact⟨rfl,hP3,HC2.o.trans hC3 (fun b hb=>Ei (Ej hb))⟩
theorem Ms{w:World}{p q:Nat}{SA:Nat→Prop}{lv ov:Value}{m:Pm}(h:PmIn w p q SA lv ov m)(hok:m.Ok)(hl:m.L.length≤1000000000)(hr:m.N≤4000000000)(hb:∀k∈m.O,-1≤aH m.L k∧aH m.L k≤1000000000)(x:Int)(h0:0≤x)(h1:x≤m.N):
  Calls Tryz.prog 117 #[.pointer (some ⟨p,0,none⟩), .int .i64 x] w fun e w'=>e= .returned (.int .i64 0)∧PmIn w' p q SA lv ov ⟨m.A,bK (jS x) m.O m.L,m.O,m.R,m.N+1⟩∧Chg (fun b=>b=p∨lv.ownBlock=some b) w w':=by
 have hb0:=aC w (.cells #[.int .i64 x] 3);have hbx:(w.alloc (.cells #[.int .i64 x] 3)).cell? ⟨w.heap.size,0,none⟩=some (.int .i64 x):=aF9 _ _ _ _ rfl;have hP:=h.below hb0;have hC0:Chg (fun b=>b=p∨lv.ownBlock=some b) w (w.alloc (.cells #[.int .i64 x] 3)):=Chg.refl.alloc _;have hlt:=h.lt;have hd2:=h.d2;have hpl:p<w.heap.size:=hlt p (Ei rfl);clear h hb0;have d1:decide (x<0)=false:=aG9 E;have d2:decide ((m.N:Int)<x)=false:=aG9 E;obtain⟨_,_,_,_,c3,c5⟩:=hP.cells;have c6:=c5 4;have HP:=θ hP;have HC0:=θ hC0;have HLT:=θ hlt;have HD2:=θ hd2;have HB:=θ hb;have HOK:=θ hok;clear c5 hP hC0 hlt hd2 hb hok;go_enter Tryz.func117,Tryz.ntmps117;go_wp2_with fail;go_quiet (fail);go_wp2_with fail;have hP2:PmIn (((w.alloc (.cells #[.int .i64 x] 3)).drewN nq).setCell ⟨p,4,none⟩ (.int .i64 ((m.N:Int)+1))) p q SA lv ov ⟨m.A,m.L,m.O,m.R,m.N+1⟩:=(HP.o.below (aX (am4 _ _) nq)).setN (m.N+1);have hC2:Chg (fun b=>b=p∨lv.ownBlock=some b) w (((w.alloc (.cells #[.int .i64 x] 3)).drewN nq).setCell ⟨p,4,none⟩ (.int .i64 ((m.N:Int)+1))):=(HC0.o.drewN nq).setCell ⟨p,4,none⟩ (Ei (Ei rfl)) _;have hbx2:(((w.alloc (.cells #[.int .i64 x] 3)).drewN nq).setCell ⟨p,4,none⟩ (.int .i64 ((m.N:Int)+1))).cell? ⟨w.heap.size,0,none⟩=some (.int .i64 x):=
  ((Chg.refl.drewN nq).setCell (S:=fun b=>b=p) ⟨p,4,none⟩ (Ei rfl) _).cell hbx (fun e=>by have e:w.heap.size=p:=e;omega)
 generalize ((w.alloc (.cells #[.int .i64 x] 3)).drewN nq).setCell ⟨p,4,none⟩ (.int .i64 ((m.N:Int)+1))=w2 at *;have key:=jE hP2 ⟨HOK.o.most,HOK.o.nd,HOK.o.iff,HOK.o.len⟩ hl (jS x) 174 #[.pointer (some ⟨w.heap.size,0,none⟩)] (enters_of Tryz.func174 Ek rfl)
  (fun gl cap hlv W L k hW hT hLl hk er ep=>by
   have hgl:gl<w.heap.size:=HLT.o gl (Ej (Ej (Ei (by rw[hlv];rfl))))
   have hb:=HB.o k hk
   have hkl:=HOK.o.lt hk
   have :=Ik hT (k:=k) (by rw[hLl];exact hkl) (hW.cell hbx2 (fun e=>by have e:w.heap.size=gl:=e;omega)) (by rw[ep];exact hb.1) (by rw[ep];exact hb.2)
   rw[er,ep]at this
   exact this)
 have HK:=θ key;have HC2:=θ hC2;clear key hC2 hP2 hbx2 hbx c3 c6;refine HK.o.mono ?_;rintro e w3 ⟨rfl,hP3,hC3⟩;go_wp2_with fail;go_ret;exact⟨rfl,hP3,HC2.o.trans hC3 (fun b hb=>Ei (Ej hb))⟩
def dB{α:Type}(l:List α)(k:Nat):List α:=l.take k++l.drop (k+1)
theorem iS{α:Type}{l:List α}{k:Nat}(h:k<l.length):(dB l k).length=l.length-1:=by simp[dB];omega
theorem Np(a:Option Addr)(c:Nat)(l:List Int)(k:Nat)(b:Int)(w:World)(hr:ReadsV w a (l.map (Value.int .i64)))(hk:k≤l.length)(hc:l.length≤c)(hcm:c≤maxLen)(hl:l.length≤1000000)(hnil:a=none→l.length=0∧c=0):
  Calls Tryz.prog 72 #[.slice a l.length c, .int .i64 k,(.int .i64 b)] w (Pi w.heap.size w (bY l k b)):=by
 have hs1:=fun(w:World)=>gA (P:=Tryz.prog) (w:=w) (t:=36) (a:=a) (len:=l.length) (cap:=c) (k:=k) aF0 Ek E;have hs2:=fun(w:World)=>lR (P:=Tryz.prog) (w:=w) (t:=36) (a:=a) (len:=l.length) (cap:=c) (k:=k) aF0 Ek E;have HNIL:=θ (Ya (k:=k) hnil);have HN0:Hid (a=none→k=0∧c=0):=fun h=>by have :=hnil h;omega
 have hrt:ReadsV w a ((l.take k).map (Value.int .i64)):=by rw[av6];exact hr.take k
 have HRT:Hid (∀w',Below w.heap.size w w'→ReadsV w' a ((l.take k).map (Value.int .i64))):=fun w' hb=>hrt.below' hb;have HRD:Hid (∀w',Below w.heap.size w w'→ReadsV w' (fB a k c) ((l.drop k).map (Value.int .i64))):=fun w' hb=>by rw[at9];exact(hr.below' hb).drop (by simpa using hc)
 have hb0:=aC w (.cells #[] 3);have hown0:(w.alloc (.cells #[] 3)).ownsRow w.heap.size 3 1 (.slice (some ⟨w.heap.size,0,none⟩) 0 0) 0 []:=Yl (aA5 _) (aH5 _ _);have HL:=θ hl;have HO0:=θ hown0;have HB0:=θ hb0;clear hnil hr hrt hown0 hb0;go_enter Tryz.func72,Tryz.ntmps72;go_wp2_with (at_builtin;refine fM rfl _ _ 36 rfl w.heap.size 3 Tryz.infoIntG aF0 rfl _ 0 _ rfl HO0.o a k c ((l.take k).map (Value.int .i64)) rfl (by simp;omega) HN0.o (HRT.o _ HB0.o).hnews (zW .i64 _) (by unfold maxLen;omega) E HB0.o.size ?_);intro a1 c1 w1 hown hgrow _;have hb1:Below w.heap.size w w1:=HB0.o.grown hgrow HB0.o.size (fun j hj=>by simp[Value.ownBlock]at hj;omega);have hown1:w1.ownsRow w.heap.size 3 1 (.slice a1 k c1) k ((l.take k).map (Value.int .i64)):=by simpa using hown
 have HB1:=θ hb1;have HOWN:=θ hown1;clear hown hown1 hgrow hb1;go_wp2_with fail;have hs1b:=HB1.o.drew.size;have HB1A:Hid (Below w.heap.size w (w1.drew.alloc (.cells #[(.int .i64 b)] 3))):=HB1.o.drew.alloc hs1b _;have HOWN2:Hid ((w1.drew.alloc (.cells #[(.int .i64 b)] 3)).ownsRow w.heap.size 3 1 (.slice a1 k c1) k ((l.take k).map (Value.int .i64))):=aG1 (w:=w1.drew) HOWN.o _;have HNEW:Hid (∀p,some (⟨w1.heap.size,0,none⟩:Addr)=some p→∀j u,[(Value.int .i64) b][j]? =some u→(w1.drew.alloc (.cells #[(.int .i64 b)] 3)).cell? (p.add j)=some u):=
  (sF (xs:=[(.int .i64 b)]) (aH5 w1.drew _)).hnews
 refine aE (fun _=>True) Ek trivial (fun hh=>?_);refine rt 0 hh ?_;refine rt 1 hh ?_;refine rt 4 hh ?_;refine rt 5 hh ?_;refine rt 6 hh ?_;refine rg 2 fun κ hK=>?_;go_simp;refine hK.out _ _ trivial ?_;intro hh;try simp only[pt]
 refine rg 3 fun κ hK=>?_;refine zK _ _ 36 rfl w.heap.size 3 Tryz.infoIntG Tryz.underlying36 rfl _ k _ rfl HOWN2.o (some ⟨w1.heap.size,0,none⟩) 1 1 [(.int .i64 b)] rfl rfl (fun h=>by cases h) HNEW.o (zW .i64 [b]) (by unfold maxLen;omega) E HB1A.o.size ?_;intro a2 c2 w2 hown2 hgrow2 _;have hb2:Below w.heap.size w w2:=HB1A.o.grown hgrow2 HB1A.o.size (fun j hj=>(bX HOWN2.o hj).1);have HB2:=θ hb2;have HO2:=θ hown2;clear hown2 hgrow2 hb2;refine hK.out _ _ trivial ?_;intro hh;try simp only[pt]
 refine rg 7 fun κ hK=>?_;refine zK _ _ 36 rfl w.heap.size 3 Tryz.infoIntG Tryz.underlying36 rfl _ (k+1) _ rfl HO2.o (fB a k c) (l.length-k) (c-k) ((l.drop k).map (Value.int .i64)) rfl Es HNIL.o (HRD.o w2 (HB2.o)).hnews (zW .i64 _) (by unfold maxLen;omega) E HB2.o.size ?_;intro a3 c3 w3 hown3 hgrow3 _;have hb3:Below w.heap.size w w3:=HB2.o.grown hgrow3 HB2.o.size (fun j hj=>(bX HO2.o hj).1);have HB3:=θ hb3;have HO3:=θ hown3;clear hown3 hgrow3 hb3;refine hK.out _ _ trivial ?_;intro hh;try simp only[pt]
 refine rt 8 hh ?_;refine rz ?_;go_wp2_with fail;go_ret;refine⟨_,rfl,?_,HB3.o⟩;have :=HO3.o;rw[show (bY l k b).map (Value.int .i64)=(l.take k).map (Value.int .i64)++[(.int .i64 b)]++(l.drop k).map (Value.int .i64) by simp[bY]];rw[show (bY l k b).length=k+1+(l.length-k) by rw[kH hk];omega];exact this
theorem Mb{B:Nat}{w:World}{g n c i:Nat}{xs:List Int}(h:w.ownsRow B 3 1 (.slice (some ⟨g,0,none⟩) n c) n (xs.map (Value.int .i64)))(hi:i<n):
  Calls Tryz.prog 214 #[.slice (some ⟨g,0,none⟩) n c, .int .i64 i, .int .i64 ((i+1:Nat):Int)] w fun e w'=>e= .returned (.slice (some ⟨g,0,none⟩) (n-1) c)∧
   w'.ownsRow B 3 1 (.slice (some ⟨g,0,none⟩) (n-1) c) (n-1) ((dB xs i).map (Value.int .i64))∧Chg (fun b=>b=g) w w':=by
 have hxl:xs.length=n:=by have :=h.1;simpa using this
 rcases h.2 with ⟨hv0,_⟩ | ⟨g',cap,cur,hv0,hb,hg,h1,h2,hsz,htk⟩
 ·cases hv0
 ·injection hv0 with e1 _ e3
  injection e1 with e1
  injection e1 with e1 _ _
  subst e1;subst e3;have hcur:∀j,j<n→cur[j]? =(xs.map (Value.int .i64))[j]? :=by
   intro j hj;rw[←htk,ar9,aH9 E,am1]
  have key:=Tryz.slices_Delete_int_cells g 0 n c i (i+1) xs w E h1 h2 E E (fun j hj=>by
   rw[aC7,aG7 w g j _ _ _ hg,hcur j E,ar6,ar3 hj]
   simp[hj]) (fun j hj=>aH3 w g _ _ _ hg)
  rw[show i+1-i=1 by omega]at key;refine key.mono ?_;rintro e w' ⟨rfl,q,rfl⟩;have hout:(xs.take n).take i++(xs.take n).drop (i+1)=dB xs i:=by rw[show xs.take n=xs from az3 E];rfl
  rw[hout];have hol:(dB xs i).length=n-1:=by rw[iS E];omega
  refine⟨rfl,⟨by simp[hol], .inr ⟨g,c,_,rfl,hb,dW _ (w.drewN q) g 0 cur _ hg,E,h2,by rw[eU];exact hsz,?_⟩⟩,eM _ _ _ _ (Chg.refl.drewN q) (Ei rfl)⟩;apply aq3;intro j;rw[ar9];by_cases hj:j<n-1
  ·rw[aH9 E,am1,kP _ _ _ _ (by simp[hol];omega) E (by simp[hol];omega),Nat.sub_zero,at6,aq9 (by simp[hol];omega)]
  ·rw[aH8 E,ar4 (by simp[hol];omega)]
def Pm.del (m:Pm)(i k:Nat):Pm:=⟨⟨m.A.T.set k false,m.A.F++[k],m.A.M⟩,m.L,dB m.O i,m.R,m.N⟩
theorem Bp{w:World}{p q:Nat}{SA:Nat→Prop}{lv ov:Value}{m:Pm}(h:PmIn w p q SA lv ov m)(hok:m.Ok){i k:Nat}(hk:m.O[i]? =some k)(hl:m.O.length≤1000000000):
  Calls Tryz.prog 166 #[.pointer (some ⟨p,0,none⟩), .int .i64 i] w fun e w'=>e= .returned (.tuple #[])∧∃SA' ov',PmIn w' p q SA' lv ov' (m.del i k)∧Chg (pmS p SA lv ov) w w'∧∀j,pmS p SA' lv ov' j→pmS p SA lv ov j∨w.heap.size≤j:=by
 have hi:i<m.O.length:=(ar5.1 hk).1;obtain⟨g,cap,gl,capl,k',rfl,rfl,hk',hkl,c1,_,_⟩:=h.pair hok hi;rw[hk]at hk';injection hk' with hk'
 subst hk';obtain⟨e0,_,e2,_,_,e5⟩:=h.cells;obtain⟨n1,n2,n3⟩:=h.d3 g rfl;have hT:k<m.A.T.length:=(ar5.1 ((hok.iff k).2 (ax2 hk))).1;have hnF:k∉m.A.F:=fun hm=>by
  have h1:=(h.ar.ok.iff k).2 hm;rw[(hok.iff k).2 (ax2 hk)]at h1;cases h1
 have hfr:=We h.ar.ok hT hnF;have KEEP:Hid (∀W,Chg SA w W→W.cell? ⟨p,0,none⟩=some (.pointer (some ⟨q,0,none⟩))∧W.cell? ⟨p,2,none⟩=some (.slice (some ⟨g,0,none⟩) m.O.length cap)∧W.cell? ⟨g,i,none⟩=some (.int .i64 (k:Int))):=
  fun W hW=>⟨hW.cell e0 h.d1,hW.cell e2 h.d1,hW.cell c1 n2⟩
 have hfree:=qI (h.ar.chg (S':=fun _=>False) (w':=w.drew.alloc (.cells #[.int .i64 (k:Int)] 3)) (Chg.refl.drew.alloc _) (fun _ _ hf=>hf)) [(k:Int)] (some ⟨w.heap.size,0,none⟩) 1 (Ra [(k:Int)] w.drew) (fun h=>by cases h)
  (fun ad had hs=>by cases had;have :=h.ar.lt _ hs;exact absurd this (aA7 _)) Es Es
 rw[hfr]at hfree;have HFREE:=θ hfree;have HP:=θ h;have HOK:=θ hok;have i0:(0:Int)≤(i:Int):=E;have i1:(i:Int)<(m.O.length:Int):=E;clear hfree hfr hnF hT e0 e2 e5 c1 h hok hk;go_enter Tryz.func166,Tryz.ntmps166;go_upto_region 0 with fail
 refine aE (fun w'=>w'.cell? ⟨p,0,none⟩=some (.pointer (some ⟨q,0,none⟩))∧w'.cell? ⟨p,2,none⟩=some (.slice (some ⟨g,0,none⟩) m.O.length cap)∧w'.cell? ⟨g,i,none⟩=some (.int .i64 (k:Int))) Ek (KEEP.out _ Chg.refl.drew) (fun hh=>?_);refine rt 0 hh ?_;refine rt 1 hh ?_;refine rt 2 hh ?_;refine rt 3 hh ?_;refine rt 4 hh ?_;refine rt 5 hh ?_;refine rt 6 hh ?_;refine rt 7 hh ?_;refine rt 8 hh ?_;refine rt 9 hh ?_;refine rt 10 hh ?_;refine rg 11 fun κ hK=>?_;go_simp;refine hK.out _ _ (KEEP.out _ (Chg.refl.drew.alloc _)) ?_;intro hh;try simp only[pt]
 refine rg 12 fun κ hK=>?_;go_simp;refine HFREE.o.mono ?_;rintro e w2 ⟨rfl,hst⟩;obtain⟨SA',hA2,hC2,hS2⟩:=hst;have HC2:=θ hC2;have HA2:=θ hA2;have HS2:=θ hS2;clear hC2 hA2 hS2;go_wp2_with fail;refine hK.out _ _ (KEEP.out _ ((Chg.refl.drew.alloc _).trans HC2.o (fun b hb=>Ei hb))) ?_;intro hh;try simp only[pt]
 refine rz ?_;have hsz:=HC2.o.size;have hsw:w.heap.size≤w2.heap.size:=by simp at hsz;omega
 have hch:Chg SA w w2:=(Chg.refl.drew.alloc _).trans HC2.o (fun b hb=>Ei hb);have hpg:(Value.slice (some ⟨g,0,none⟩) m.O.length cap).ownBlock=some g:=rfl;have hord:=hch.own HP.o.ord (fun b hb e=>(HP.o.d3 b hb).2.1 e);have hdel:Calls Tryz.prog 214 #[.slice (some ⟨g,0,none⟩) m.O.length cap, .int .i64 (i:Int), .int .i64 ((i:Int)+1)] w2 fun e w'=>e= .returned (.slice (some ⟨g,0,none⟩) (m.O.length-1) cap)∧
   w'.ownsRow 0 3 1 (.slice (some ⟨g,0,none⟩) (m.O.length-1) cap) (m.O.length-1) ((dB (cC m.O) i).map (Value.int .i64))∧Chg (fun b=>b=g) w2 w':=by
  have hord2:w2.ownsRow 0 3 1 (.slice (some ⟨g,0,none⟩) m.O.length cap) m.O.length ((cC m.O).map (Value.int .i64)):=by rw[←eT];exact hord
  exact Mb hord2 hi
 have hp2:=hch.heap HP.o.hp HP.o.d1;have HDEL:=θ hdel;have HCH:=θ hch;have HP2:=θ hp2;obtain⟨e0,e2,_⟩:=hh;have e5:=aH3 w2 p 2 _ _ hp2;clear hsz hch hord hdel hp2 e0 HFREE KEEP;go_wp2_with fail;refine HDEL.o.mono ?_;rintro e w3 ⟨rfl,ho3,hC3⟩;have hp3:=hC3.heap HP2.o (fun e=>n1 e.symm);have e6:=aH3 w3 p 2 _ _ hp3;have e7:w3.cell? ⟨p,2,none⟩=some (.slice (some ⟨g,0,none⟩) m.O.length cap):=by rw[aG7 w3 p 2 _ _ _ hp3];rfl
 have HO3:=θ ho3;have HC3:=θ hC3;have HP3:=θ hp3;clear ho3 hC3 hp3 e2 e5;go_wp2_with fail;go_end0;have hset:=aH6 w3 p 2 _ _ (.slice (some ⟨g,0,none⟩) (m.O.length-1) cap) HP3.o;have hCs:Chg (fun b=>b=p) w3 (w3.setCell ⟨p,2,none⟩ (.slice (some ⟨g,0,none⟩) (m.O.length-1) cap)):=Chg.refl.setCell (S:=fun b=>b=p) ⟨p,2,none⟩ (Ei rfl) _;have hlt:=HP.o.lt;have hSA':∀j,SA' j→SA j∨w.heap.size≤j:=fun j hj=>(HS2.o j hj).imp id (fun h=>by simp at h;omega);have hgl:gl<w.heap.size:=hlt gl (Ej (Ej (Ei rfl)));have hpl:p<w.heap.size:=hlt p (Ei rfl);have hgg:g<w.heap.size:=hlt g (Ej (Ej (Ej rfl)));have hd2:=HP.o.d2 gl rfl;have hgne:gl≠g:=fun e=>n3 (by rw[←e];rfl);have np:¬SA' p:=fun h=>(hSA' p h).elim HP.o.d1 (fun h=>E);have ng:¬SA' g:=fun h=>(hSA' g h).elim n2 (fun h=>E);have ngl:¬SA' gl:=fun h=>(hSA' gl h).elim hd2.2 (fun h=>E);refine⟨rfl,SA',_,⟨hset,(HA2.o.chg HC3.o (fun j hj e=>ng (by rw[←e];exact hj))).chg hCs (fun j hj e=>np (by rw[←e];exact hj)),hCs.own (HC3.o.own (HCH.o.own HP.o.tab (fun b hb e=>(HP.o.d2 b hb).2 e)) (fun b hb e=>by injection hb with hb;exact hgne (hb.trans e))) (fun b hb e=>(HP.o.d2 b hb).1 e),?_,np,?_,?_⟩,?_,?_⟩
 ·have hol:(m.del i k).O.length=m.O.length-1:=by show (dB m.O i).length=_;rw[iS hi]
  have :=hCs.own HO3.o (fun b hb e=>by injection hb with hb;exact n1 (hb.trans e));have e:(m.del i k).O.map bG=(dB (cC m.O) i).map (Value.int .i64):=by
   show (dB m.O i).map bG=_;rw[eT];congr 1;simp[dB,cC,av6,at9]
  rw[e,hol];exact this
 ·intro b hb;injection hb with hb
  subst hb;exact⟨hd2.1,ngl⟩
 ·intro b hb;injection hb with hb
  subst hb;exact⟨n1,ng,n3⟩
 ·refine((HCH.o.mono (fun b hb=>Ej (Ei hb))).trans HC3.o (fun b hb=>Ei (by rw[hb];exact Ej (Ej (Ej rfl))))).trans hCs (fun b hb=>Ei (by rw[hb];exact Ei rfl))
 ·rintro j (rfl | hj | hj | hj)
  ·exact Ei (Ei rfl)
  ·exact(hSA' j hj).imp (fun h=>Ej (Ei h)) id
  ·exact Ei (Ej (Ej (Ei hj)))
  ·exact Ei (Ej (Ej (Ej hj)))
def gL(L:List Int)(r:Int):Int:=if 0≤r then L[r.toNat]?.getD (-1)else -1
theorem cX(L:List Int)(i:Nat):gL L i=L[i]?.getD (-1):=by unfold gL;rw[aH9 E,ao2]
theorem jU{L:List Int}{r:Int}(h:r<0):gL L r= -1:=by unfold gL;rw[aH8 E]
theorem ad6{L:List Int}{r:Int}(h:(L.length:Int)≤r):gL L r= -1:=by
 unfold gL;rw[aH9 E,ar4 E];rfl
theorem yG{L:List Int}{r:Int}(h:gL L r≠ -1):∃i:Nat,r=i∧i<L.length:=by
 by_cases h0:r<0
 ·exact absurd (jU h0) h
 by_cases h1:r<L.length
 ·exact⟨r.toNat,E,E⟩
 ·exact absurd (ad6 E) h
theorem gL_mem{L:List Int}{i:Nat}(h:i<L.length):gL L i∈L:=by rw[cX,ar3 h];exact as3 h
theorem Qm{L:List Int}{x:Nat}{v:Int}(hx:x≤L.length)(r:Int):gL (bY L x v) r=if r<x then gL L r else if r=x then v else gL L (r-1):=by
 by_cases h0:r<0
 ·rw[jU h0,aH9 E,jU h0]
 obtain⟨i,rfl⟩:=am8 (Int.not_lt.1 h0);rw[cX,qR hx];by_cases h1:i<x
 ·rw[aH9 h1,aH9 E,cX]
 ·rw[aH8 h1];by_cases h2:i=x
  ·rw[aH9 h2,aH8 E,aH9 E];rfl
  ·rw[aH8 h2,aH8 E,aH8 E,show (i:Int)-1=((i-1:Nat):Int) by omega,cX]
theorem Eb{L:List Int}{x:Nat}(hx:x<L.length)(r:Int):gL (dB L x) r=if r<x then gL L r else gL L (r+1):=by
 by_cases h0:r<0
 ·rw[jU h0,aH9 E,jU h0]
 obtain⟨i,rfl⟩:=am8 (Int.not_lt.1 h0);rw[cX];unfold dB;rw[aq8];have hl:(L.take x).length=x:=by simp;omega
 rw[hl];by_cases h1:i<x
 ·rw[aH9 h1,aH9 E,cX,ar9,aH9 h1]
 ·rw[aH8 h1,aH8 E,show (i:Int)+1=((i+1:Nat):Int) by omega,cX,ar2];congr 2;omega
theorem yH{L:List Int}{x:Nat}{v:Int}(hx:x<L.length)(r:Int):gL (L.set x v) r=if r=x then v else gL L r:=by
 by_cases h0:r<0
 ·rw[jU h0,aH8 E,jU h0]
 obtain⟨i,rfl⟩:=am8 (Int.not_lt.1 h0);rw[cX,ar8];by_cases h2:x=i
 ·rw[aH9 h2,aH9 E,aH9 E];rfl
 ·rw[aH8 h2,aH8 E,cX]
theorem Qo{L:List Int}(f:Int→Int)(hf:f (-1)= -1)(r:Int):gL (L.map f) r=f (gL L r):=by
 by_cases h0:r<0
 ·rw[jU h0,jU h0,hf]
 obtain⟨i,rfl⟩:=am8 (Int.not_lt.1 h0);rw[cX,cX,ar6];cases L[i]? with
 | none=>exact hf.symm
 | some v=>rfl
structure PVw0 (m:Pm) (L:List Int) (N:Nat):Prop where
 ok:m.Ok
 eR:m.R=L.length
 eN:m.N=N
 mem:∀r p:Int,(∃k∈m.O,aD m.L k=r∧aH m.L k=p)↔(gL L r=p∧0≤p)
 rng:∀r,-1≤gL L r∧gL L r<N
 inj:∀r s,0≤gL L r→gL L r=gL L s→r=s
structure PVw (m:Pm) (L:List Int) (N:Nat):Prop extends PVw0 m L N where
 so:m.Sorted
section
variable {m:Pm}{L:List Int}{N:Nat}
theorem PVw0.row (h:PVw0 m L N){k:Nat}(hk:k∈m.O):gL L (aD m.L k)=aH m.L k∧0≤aH m.L k∧aH m.L k<N∧0≤aD m.L k∧aD m.L k<L.length:=by
 obtain⟨h1,h2⟩:=(h.mem _ _).1 ⟨k,hk,rfl,rfl⟩;have h3:=h.rng (aD m.L k);obtain⟨i,h4,h5⟩:=yG (L:=L) (r:=aD m.L k) E;exact⟨h1,h2,E,E,E⟩
theorem PVw0.is (h:PVw0 m L N)(x:Int):m.is x=true↔0≤gL L x:=by
 unfold Pm.is;rw[ao6];constructor
 ·rintro⟨k,hk,he⟩;have he:aD m.L k=x:=by simpa using he
  have :=h.row hk;rw[he]at this;omega
 ·intro h0;obtain⟨k,hk,h1,_⟩:=(h.mem x (gL L x)).2 ⟨rfl,h0⟩;exact⟨k,hk,by simp[h1]⟩
theorem PVw.pos (h:PVw m L N)(x:Int):m.pos x=gL L x:=by
 unfold Pm.pos;by_cases hi:m.is x=true
 ·rw[aH9 hi];obtain⟨h1,h2⟩:=Pm.is_lt h.so hi;have hm:m.O[m.cnt x]?.getD 0∈m.O:=by rw[ar3 h1];exact as3 h1
  have :=h.row hm;rw[h2]at this;exact this.1.symm
 ·rw[aH8 hi];have :=h.rng x;rw[h.is]at hi;omega
def aL(L:List Int)(x:Int):Int:=if x<0 then -1 else match L.findIdx? fun y=>y==x with
 | some i=>(i:Int)
 | none=> -1
theorem pK(L:List Int)(x:Int):(∃i:Nat,aL L x=i∧i<L.length∧gL L i=x∧0≤x)∨(aL L x= -1∧(0≤x→∀r,gL L r≠x)):=by
 unfold aL;by_cases hx:x<0
 ·rw[aH9 hx];exact Ej ⟨rfl,fun h=>E⟩
 ·rw[aH8 hx];cases hf:L.findIdx? fun y=>y==x with
  | none=>
   refine Ej ⟨rfl,fun h0 r hr=>?_⟩;obtain⟨i,rfl,hi⟩:=yG (L:=L) (r:=r) E;have :=List.findIdx?_eq_none_iff.1 hf _ (gL_mem hi);simp[hr]at this
  | some i=>
   obtain⟨h1,h2,_⟩:=List.findIdx?_eq_some_iff_getElem.1 hf;exact Ei ⟨i,rfl,h1,by rw[cX,ar3 h1];simpa using h2,E⟩
theorem PVw0.has (h:PVw0 m L N)(x:Int):(∃i k:Nat,m.has x=i∧m.O[i]? =some k∧aH m.L k=x∧gL L (aD m.L k)=x∧0≤x)∨(m.has x= -1∧(0≤x→∀r,gL L r≠x)):=by
 unfold Pm.has;cases hf:m.O.findIdx? fun k=>aH m.L k==x with
 | none=>
  refine Ej ⟨rfl,fun h0 r hr=>?_⟩;obtain⟨k,hk,_,h2⟩:=(h.mem r x).2 ⟨hr,h0⟩;have :=List.findIdx?_eq_none_iff.1 hf _ hk;simp[h2]at this
 | some i=>
  obtain⟨h1,h2,_⟩:=List.findIdx?_eq_some_iff_getElem.1 hf;have h2:aH m.L m.O[i]=x:=by simpa using h2
  have h3:=h.row (as3 h1);exact Ei ⟨i,m.O[i],rfl,ar3 h1,h2,by rw[←h2];exact h3.1,E⟩
theorem PVw0.rowv (h:PVw0 m L N)(x:Int):m.row x=aL L x:=by
 unfold Pm.row;rcases h.has x with ⟨i,k,h1,h2,h3,h4,h5⟩ | ⟨h1,h2⟩
 ·rw[h1,aH8 E,ao2,h2,aD0];rcases pK L x with ⟨j,a1,a2,a3,a4⟩ | ⟨a1,a2⟩
  ·rw[a1];exact h.inj _ _ E E
  ·exact absurd h4 (a2 h5 _)
 ·rw[h1,aH9 E];rcases pK L x with ⟨j,a1,a2,a3,a4⟩ | ⟨a1,a2⟩
  ·exact absurd a3 (h2 a4 _)
  ·exact a1.symm
theorem mR{f:Int×Int→Int×Int}{O:List Nat}{T:List (Int×Int)}{k:Nat}(hk:k∈O)(hl:k<T.length):aD (bK f O T) k=(f (aD T k,aH T k)).1∧aH (bK f O T) k=(f (aD T k,aH T k)).2:=by
 have :=lF (f:=f) (O:=O) hl;rw[aH9 hk]at this;constructor
 ·unfold aD;rw[this];rfl
 ·unfold aH;rw[this];rfl
theorem PVw0.each (h:PVw0 m L N){f:Int×Int→Int×Int}{L':List Int}{R' N':Nat}(hR:R'=L'.length)
  (mem:∀r p:Int,(∃r0 p0,gL L r0=p0∧0≤p0∧f (r0,p0)=(r,p))↔(gL L' r=p∧0≤p))
  (rng:∀r,-1≤gL L' r∧gL L' r<N') (inj:∀r s,0≤gL L' r→gL L' r=gL L' s→r=s):PVw0 ⟨m.A,bK f m.O m.L,m.O,R',N'⟩ L' N':=by
 refine⟨⟨h.ok.most,h.ok.nd,h.ok.iff,?_⟩,hR,rfl,fun r p=>?_,rng,inj⟩
 ·show m.A.T.length=(bK f m.O m.L).length;rw[cK];exact h.ok.len
 ·rw[←mem r p];constructor
  ·rintro⟨k,hk,h1,h2⟩;obtain⟨e1,e2⟩:=mR (f:=f) hk (h.ok.lt hk);have h3:=h.row hk;refine⟨_,_,h3.1,h3.2.1,?_⟩;rw[←h1,←h2];show _=(aD (bK f m.O m.L) k,aH (bK f m.O m.L) k);rw[e1,e2]
  ·rintro⟨r0,p0,h1,h2,h3⟩;obtain⟨k,hk,h4,h5⟩:=(h.mem r0 p0).2 ⟨h1,h2⟩;obtain⟨e1,e2⟩:=mR (f:=f) hk (h.ok.lt hk);rw[h4,h5,h3]at e1 e2;exact⟨k,hk,e1,e2⟩
theorem PVw.each (h:PVw m L N){f:Int×Int→Int×Int}{L':List Int}{R' N':Nat}(hR:R'=L'.length)
  (mono:∀r r',0≤gL L r→0≤gL L r'→r<r'→(f (r,gL L r)).1<(f (r',gL L r')).1)
  (mem:∀r p:Int,(∃r0 p0,gL L r0=p0∧0≤p0∧f (r0,p0)=(r,p))↔(gL L' r=p∧0≤p))
  (rng:∀r,-1≤gL L' r∧gL L' r<N') (inj:∀r s,0≤gL L' r→gL L' r=gL L' s→r=s):PVw ⟨m.A,bK f m.O m.L,m.O,R',N'⟩ L' N':=by
 refine⟨h.toPVw0.each hR mem rng inj,?_⟩;refine List.Pairwise.imp_of_mem ?_ h.so;intro a b ha hb hab;have h1:=h.row ha;have h2:=h.row hb;show aD (bK f m.O m.L) a<aD (bK f m.O m.L) b;rw[(mR (f:=f) ha (h.ok.lt ha)).1,(mR (f:=f) hb (h.ok.lt hb)).1,←h1.1,←h2.1];exact mono _ _ E E hab
theorem PVw0.perm (h:PVw0 m L N){O':List Nat}(hp:O'.Perm m.O)(hs:(Pm.mk m.A m.L O' m.R m.N).Sorted):PVw ⟨m.A,m.L,O',m.R,m.N⟩ L N:=
 ⟨⟨⟨h.ok.most,hp.nodup_iff.2 h.ok.nd,fun k=>(h.ok.iff k).trans hp.mem_iff.symm,h.ok.len⟩,h.eR,h.eN,fun r p=>by
  rw[←h.mem r p]
  exact⟨fun⟨k,hk,x⟩=>⟨k,hp.mem_iff.1 hk,x⟩,fun⟨k,hk,x⟩=>⟨k,hp.mem_iff.2 hk,x⟩⟩,h.rng,h.inj⟩,hs⟩
theorem PVw.rowIn (h:PVw m L N){x:Nat}(hx:x≤L.length):PVw ⟨m.A,bK (jT x) m.O m.L,m.O,m.R+1,m.N⟩ (bY L x (-1)) N:=by
 have hN:=h.eN;have hg:=fun r=>Qm (v:= -1) hx r;rw[hN];refine h.each (by rw[kH hx,h.eR]) (fun r r' _ _ hlt=>?_) (fun r p=>?_) (fun r=>?_) (fun r s h0 he=>?_)
 ·simp only[jT];split<;>split<;>simp only[]<;>omega
 ·rw[hg];constructor
  ·rintro⟨r0,p0,h1,h2,h3⟩;simp only[jT]at h3;split at h3
   ·injection h3 with e1 e2
    (try simp only[]at e1 e2)
    rw[aH8 E,aH8 E,show r-1=r0 by omega];omega
   ·injection h3 with e1 e2
    (try simp only[]at e1 e2)
    rw[aH9 E];subst e1;omega
  ·rintro⟨h1,h2⟩;split at h1
   ·exact⟨r,p,h1,h2,by simp only[jT];rw[aH8 E]⟩
   ·split at h1
    ·omega
    ·exact⟨r-1,p,h1,h2,by simp only[jT];rw[aH9 E];congr 1;omega⟩
 ·rw[hg];have h1:=h.rng r;have h2:=h.rng (r-1);split
  ·exact h1
  ·split
   ·omega
   ·exact h2
 ·rw[hg]at h0;rw[hg,hg]at he;split at h0
  ·rw[aH9 ‹_›]at he;split at he
   ·exact h.inj _ _ h0 he
   ·split at he
    ·omega
    ·have :=h.inj _ _ h0 he;omega
  ·split at h0
   ·omega
   ·rw[aH8 ‹_›,aH8 ‹_›]at he;split at he
    ·have :=h.inj _ _ h0 he;omega
    ·split at he
     ·omega
     ·have :=h.inj _ _ h0 he;omega
theorem PVw.rowOut (h:PVw m L N){x:Nat}(hx:x<L.length)(h1:gL L x<0){R':Nat}(hR:R'+1=m.R):PVw ⟨m.A,bK (jA x) m.O m.L,m.O,R',m.N⟩ (dB L x) N:=by
 have hN:=h.eN;have hg:=fun r=>Eb hx r;have hxr:∀r,0≤gL L r→r≠x:=fun r hr e=>by rw[e]at hr;omega
 rw[hN];refine h.each (by rw[iS hx,←h.eR];omega) (fun r r' hr hr' hlt=>?_) (fun r p=>?_) (fun r=>?_) (fun r s h0 he=>?_)
 ·have :=hxr r hr;have :=hxr r' hr';simp only[jA];split<;>split<;>simp only[]<;>omega
 ·rw[hg];constructor
  ·rintro⟨r0,p0,h1,h2,h3⟩;have :=hxr r0 E;simp only[jA]at h3;split at h3
   ·injection h3 with e1 e2
    (try simp only[]at e1 e2)
    rw[aH8 E,show r+1=r0 by omega];omega
   ·injection h3 with e1 e2
    (try simp only[]at e1 e2)
    rw[aH9 E];subst e1;omega
  ·rintro⟨h1,h2⟩;split at h1
   ·exact⟨r,p,h1,h2,by simp only[jA];rw[aH8 E]⟩
   ·have :=hxr (r+1) E;exact⟨r+1,p,h1,h2,by simp only[jA];rw[aH9 E];congr 1;omega⟩
 ·rw[hg];have h1:=h.rng r;have h2:=h.rng (r+1);split
  ·exact h1
  ·exact h2
 ·rw[hg]at h0;rw[hg,hg]at he;split at h0
  ·rw[aH9 ‹_›]at he;split at he
   ·exact h.inj _ _ h0 he
   ·have :=h.inj _ _ h0 he;omega
  ·rw[aH8 ‹_›]at he;split at he
   ·have :=h.inj _ _ h0 he;omega
   ·have :=h.inj _ _ h0 he;omega
def upP(x y:Int):Int:=if x≤y then y+1 else y
def dnP(x y:Int):Int:=if x<y then y-1 else y
theorem PVw.posIn (h:PVw m L N){x:Nat}(hx:x≤N):PVw ⟨m.A,bK (jS x) m.O m.L,m.O,m.R,m.N+1⟩ (L.map (upP x)) (N+1):=by
 have hN:=h.eN;have hg:=fun r=>Qo (L:=L) (upP x) (by unfold upP;rw[aH8 E]) r;rw[hN];refine h.each (by rw[at1,h.eR]) (fun r r' hr hr' hlt=>?_) (fun r p=>?_) (fun r=>?_) (fun r s h0 he=>?_)
 ·simp only[jS];split<;>split<;>simp only[]<;>omega
 ·rw[hg];constructor
  ·rintro⟨r0,p0,h1,h2,h3⟩;simp only[jS]at h3;split at h3
   ·injection h3 with e1 e2
    (try simp only[]at e1 e2)
    subst e1;unfold upP;rw[h1,aH9 E];omega
   ·injection h3 with e1 e2
    (try simp only[]at e1 e2)
    subst e1;unfold upP;rw[h1,aH8 E];omega
  ·rintro⟨h1,h2⟩;have :=h.rng r;unfold upP at h1;split at h1
   ·exact⟨r,gL L r,rfl,E,by simp only[jS];rw[aH9 E];congr 1⟩
   ·exact⟨r,gL L r,rfl,E,by simp only[jS];rw[aH8 E];congr 1⟩
 ·rw[hg];have h1:=h.rng r;unfold upP;split<;>omega
 ·rw[hg]at h0;rw[hg,hg]at he;have h1:=h.rng r;have h2:=h.rng s;unfold upP at h0 he;refine h.inj r s ?_ ?_
  ·split at h0<;>omega
  ·split at he<;>split at he<;>omega
theorem PVw.posOut (h:PVw m L N){x:Nat}(hx:x<N)(h1:∀r,gL L r≠x){N':Nat}(hN':N'+1=N):PVw ⟨m.A,bK (gZ x) m.O m.L,m.O,m.R,N'⟩ (L.map (dnP x)) N':=by
 have hg:=fun r=>Qo (L:=L) (dnP x) (by unfold dnP;rw[aH8 E]) r;refine h.each (by rw[at1,h.eR]) (fun r r' hr hr' hlt=>?_) (fun r p=>?_) (fun r=>?_) (fun r s h0 he=>?_)
 ·simp only[gZ];split<;>split<;>simp only[]<;>omega
 ·rw[hg];constructor
  ·rintro⟨r0,p0,h2,h3,h4⟩;have :=h1 r0;simp only[gZ]at h4;split at h4
   ·injection h4 with e1 e2
    (try simp only[]at e1 e2)
    subst e1;unfold dnP;rw[h2,aH9 E];omega
   ·injection h4 with e1 e2
    (try simp only[]at e1 e2)
    subst e1;unfold dnP;rw[h2,aH8 E];omega
  ·rintro⟨h2,h3⟩;have :=h.rng r;have :=h1 r;unfold dnP at h2;split at h2
   ·exact⟨r,gL L r,rfl,E,by simp only[gZ];rw[aH9 E];congr 1⟩
   ·exact⟨r,gL L r,rfl,E,by simp only[gZ];rw[aH8 E];congr 1⟩
 ·rw[hg];have h2:=h.rng r;have :=h1 r;unfold dnP;split<;>omega
 ·rw[hg]at h0;rw[hg,hg]at he;have h2:=h.rng r;have h3:=h.rng s;have :=h1 r;have :=h1 s;unfold dnP at h0 he;refine h.inj r s ?_ ?_
  ·split at h0<;>omega
  ·split at he<;>split at he<;>omega
def mvI(a b y:Int):Int:=if y=b then a else if a≤(if b<y then y-1 else y)then (if b<y then y-1 else y)+1 else (if b<y then y-1 else y)
theorem Kv(a b y:Int):mvI a b (mvR a b y)=y:=by
 unfold mvI mvR
 (repeat' split)<;>omega
theorem Ml(a b y:Int):mvR a b (mvI a b y)=y:=by
 unfold mvI mvR
 (repeat' split)<;>omega
def mvL(L:List Int)(a b:Nat):List Int:=bY (dB L a) b (gL L a)
theorem Kt{a b:Nat}(ha:a<L.length)(hb:b<L.length):(mvL L a b).length=L.length:=by unfold mvL;rw[kH (by rw[iS ha];omega),iS ha];omega
theorem gL_mv{a b:Nat}(ha:a<L.length)(hb:b<L.length)(r:Int):gL (mvL L a b) r=gL L (mvI a b r):=by
 unfold mvL;rw[Qm (by rw[iS ha];omega),Eb ha,Eb ha];have e:mvI a b r=if r<b then (if r<a then r else r+1)else if r=b then (a:Int)else if r-1<a then r-1 else r:=by
  unfold mvI
  (repeat' split)<;>omega
 rw[e]
 (repeat' split)<;>first | rfl | (congr 1;omega)
theorem PVw0.move (h:PVw0 m L N){a b:Nat}(ha:a<L.length)(hb:b<L.length):PVw0 ⟨m.A,bK (oM a b) m.O m.L,m.O,m.R,m.N⟩ (mvL L a b) N:=by
 have hN:=h.eN;have hg:=fun r=>gL_mv ha hb r;rw[hN];refine h.each (by rw[Kt ha hb,h.eR]) (fun r p=>?_) (fun r=>?_) (fun r s h0 he=>?_)
 ·rw[hg];constructor
  ·rintro⟨r0,p0,h1,h2,h3⟩;unfold oM at h3;injection h3 with e1 e2
   (try simp only[]at e1 e2)
   rw[←e1,Kv];omega
  ·rintro⟨h1,h2⟩;exact⟨mvI a b r,p,h1,h2,by unfold oM;simp only[];rw[Ml]⟩
 ·rw[hg];exact h.rng _
 ·rw[hg]at h0;rw[hg,hg]at he;have :=h.inj _ _ h0 he;rw[←Ml a b r,this,Ml]
theorem Xj{α:Type}{l:List α}(hn:l.Nodup){i:Nat}{k:α}(hk:l[i]? =some k)(j:α):j∈dB l i↔j∈l∧j≠k:=by
 obtain⟨hi,rfl⟩:=ar5.1 hk;have hl:l=l.take i++l[i]::l.drop (i+1):=by rw[←List.drop_eq_getElem_cons hi,az0]
 have hn2:=hn;rw[hl]at hn2;rw[ax6,ax7]at hn2;obtain⟨_,⟨h1,_⟩,h2⟩:=hn2;constructor
 ·intro hj;unfold dB at hj;rw[av8]at hj;refine⟨?_,?_⟩
  ·rcases hj with hj | hj
   ·exact ax3 hj
   ·exact List.mem_of_mem_drop hj
  ·rintro rfl;rcases hj with hj | hj
   ·exact h2 _ hj _ ax0 rfl
   ·exact h1 hj
 ·rintro⟨hj,hne⟩;rw[hl]at hj;rw[av8,av9]at hj;unfold dB;rw[av8];rcases hj with hj | hj | hj
  ·exact Ei hj
  ·exact absurd hj hne
  ·exact Ej hj
theorem Fa{α:Type}(l:List α)(i:Nat):(dB l i).Sublist l:=by
 unfold dB;rw[←List.eraseIdx_eq_take_drop_succ];exact List.eraseIdx_sublist _ _
theorem PVw.del (h:PVw m L N){i k:Nat}(hk:m.O[i]? =some k):PVw (m.del i k) (L.set (aD m.L k).toNat (-1)) N:=by
 have hkm:=ax2 hk;have hr:=h.row hkm;obtain⟨x,hx⟩:∃x:Nat,aD m.L k=x:=⟨(aD m.L k).toNat,E⟩;rw[hx,ao2];have hxl:x<L.length:=E;have hg:=fun r=>yH (v:= -1) hxl r;have hT:k<m.A.T.length:=(ar5.1 ((h.ok.iff k).2 hkm)).1;have hm:=fun j=>Xj h.ok.nd hk j;refine⟨⟨⟨h.ok.most,h.ok.nd.sublist (Fa _ _),fun j=>?_,?_⟩,?_,h.eN,fun r p=>?_,fun r=>?_,fun r s h0 he=>?_⟩,h.so.sublist (Fa _ _)⟩
 ·show (m.A.T.set k false)[j]? =some true↔j∈dB m.O i;rw[hm,ar8];by_cases e:k=j
  ·subst e;rw[aH9 rfl,aH9 hT];simp
  ·rw[aH8 e,h.ok.iff j];exact⟨fun q=>⟨q,fun e'=>e e'.symm⟩,fun q=>q.1⟩
 ·show (m.A.T.set k false).length=m.L.length;rw[at4];exact h.ok.len
 ·show m.R=_;rw[at4];exact h.eR
 ·rw[hg];constructor
  ·rintro⟨j,hj,h1,h2⟩;have hj2:=(hm j).1 hj;have h3:=h.row hj2.1;have h4:aD m.L j≠x:=by
    intro e;refine hj2.2 ?_;obtain⟨a,ha,rfl⟩:=as4 hj2.1;obtain⟨b,hb,rfl⟩:=as4 hkm;rcases aB1 a b with q | q | q
    ·have :=ay2.1 h.so a b ha hb q;omega
    ·subst q;rfl
    ·have :=ay2.1 h.so b a hb ha q;omega
   have h1:aD m.L j=r:=h1;have h2:aH m.L j=p:=h2;rw[aH8 E,←h1,←h2];exact⟨h3.1,h3.2.1⟩
  ·rintro⟨h1,h2⟩;split at h1
   ·omega
   ·obtain⟨j,hj,h3,h4⟩:=(h.mem r p).2 ⟨h1,h2⟩;exact⟨j,(hm j).2 ⟨hj,fun e=>by subst e;omega⟩,h3,h4⟩
 ·rw[hg];have :=h.rng r;split
  ·omega
  ·exact this
 ·rw[hg]at h0;rw[hg,hg]at he;split at h0
  ·omega
  ·rw[aH8 ‹_›]at he;split at he
   ·omega
   ·exact h.inj _ _ h0 he
theorem yY(f:Nat→Int)(x:Int):∀{O:List Nat},O.Pairwise (fun a b=>f a<f b)→(∀k∈O.take (O.countP fun k=>decide (f k<x)),f k<x)∧(∀k∈O.drop (O.countP fun k=>decide (f k<x)),x≤f k)
 | [],_=>⟨fun k hk=>by simp at hk,fun k hk=>by simp at hk⟩
 | a::O,hp=>by
  rw[ay1]at hp;obtain⟨h1,h2⟩:=yY f x hp.2;rw[ap4];by_cases ha:f a<x
  ·rw[aH1 ha];simp only[aI0,List.take_succ_cons,List.drop_succ_cons,av9];exact⟨fun k hk=>hk.elim (fun e=>by rw[e];exact ha) (h1 k),h2⟩
  ·have h0:O.countP (fun k=>decide (f k<x))=0:=by
    rw[ap5];intro k hk;have :=hp.1 k hk;simp;omega
   rw[aG9 ha,h0];simp only[Bool.false_eq_true,aH7,aA0,az6,List.drop_zero];refine⟨fun k hk=>by simp at hk,fun k hk=>?_⟩;rcases av9.1 hk with e | e
   ·rw[e];omega
   ·have :=hp.1 k e;omega
theorem PVw.add (h:PVw m L N){x p k:Nat}(hx:x<L.length)(hp:p<N)(h1:gL L x<0)(h2:∀r,gL L r≠p){A':Ar}{T':List (Int×Int)}(hM:A'.M=m.A.M)(hA:∀j,A'.T[j]? =some true↔j∈m.O∨j=k)(hl:A'.T.length=T'.length)(hk:k∉m.O)
  (he:∀j∈m.O,aD T' j=aD m.L j∧aH T' j=aH m.L j) (hr:aD T' k=x) (hq:aH T' k=p):PVw ⟨A',T',bY m.O (m.cnt x) k,m.R,m.N⟩ (L.set x (p:Int)) N:=by
 have hg:=fun r=>yH (v:=(p:Int)) hx r;have hc:m.cnt x≤m.O.length:=ap6;have hmem:∀j,j∈bY m.O (m.cnt x) k↔j=k∨j∈m.O:=fun j=>by rw[(rV m.O (m.cnt x) k).mem_iff,av9]
 have hso:=yY (aD m.L) x h.so;have hrow:∀j∈m.O,aD m.L j≠x:=fun j hj e=>by have :=h.row hj;rw[e]at this;omega
 refine⟨⟨⟨by rw[←h.ok.most];exact hM,?_,fun j=>?_,hl⟩,?_,h.eN,fun r q=>?_,fun r=>?_,fun r s h0 he=>?_⟩,?_⟩
 ·exact(rV m.O (m.cnt x) k).nodup_iff.2 (ax7.2 ⟨hk,h.ok.nd⟩)
 ·rw[hA,hmem,Or.comm]
 ·show m.R=_;rw[at4];exact h.eR
 ·rw[hg];constructor
  ·rintro⟨j,hj,e1,e2⟩;rw[hmem]at hj;rcases hj with rfl | hj
   ·have e1:aD T' j=r:=e1;have e2:aH T' j=q:=e2;rw[aH9 E];omega
   ·have e1:aD T' j=r:=e1;have e2:aH T' j=q:=e2;rw[(he j hj).1]at e1;rw[(he j hj).2]at e2;have :=hrow j hj;have h3:=h.row hj;rw[aH8 E,←e1,←e2];exact⟨h3.1,h3.2.1⟩
  ·rintro⟨e1,e2⟩;split at e1
   ·exact⟨k,(hmem k).2 (Ei rfl),by show aD T' k=r;omega,by show aH T' k=q;omega⟩
   ·obtain⟨j,hj,h3,h4⟩:=(h.mem r q).2 ⟨e1,e2⟩;exact⟨j,(hmem j).2 (Ej hj),(he j hj).1.trans h3,(he j hj).2.trans h4⟩
 ·rw[hg];have :=h.rng r;split
  ·omega
  ·exact this
 ·rw[hg]at h0;rw[hg,hg]at he;split at h0
  ·rw[aH9 ‹_›]at he;split at he
   ·omega
   ·exact absurd he.symm (h2 s)
  ·rw[aH8 ‹_›]at he;split at he
   ·exact absurd he (h2 r)
   ·exact h.inj _ _ h0 he
 ·show (bY m.O (m.cnt x) k).Pairwise fun a b=>aD T' a<aD T' b;have hold:m.O.Pairwise fun a b=>aD T' a<aD T' b:=List.Pairwise.imp_of_mem (fun {a b} ha hb hab=>by rw[(he a ha).1,(he b hb).1];exact hab) h.so;unfold bY;rw[List.pairwise_append,ay1];rw[←az0 (m.cnt x) m.O,List.pairwise_append]at hold;refine⟨hold.1,⟨fun b hb=>?_,hold.2.1⟩,fun a ha b hb=>?_⟩
  ·have hbm:=List.mem_of_mem_drop hb;have :=hso.2 b hb;have :=hrow b hbm;rw[hr,(he b hbm).1];omega
  ·rcases av9.1 hb with rfl | hb
   ·have :=hso.1 a ha;rw[hr,(he a (ax3 ha)).1];omega
   ·exact hold.2.2 a ha b hb
end
def PmV(S:Nat→Prop)(w:World)(p c:Nat)(L:List Int)(N:Nat):Prop:=∃q SA lv ov m,PmIn w p q SA lv ov m∧PVw m L N∧m.L.length≤c∧∀k,pmS p SA lv ov k→S k
structure PmStep (S:Nat→Prop) (w w':World) (p c:Nat) (L:List Int) (N:Nat):Prop where
 pv:PmV (fun k=>S k∨(w.heap.size≤k∧k<w'.heap.size)) w' p c L N
 chg:Chg S w w'
section
variable {S:Nat→Prop}{w w':World}{p c:Nat}{L:List Int}{N:Nat}
theorem PmV.mono {S':Nat→Prop}(h:PmV S w p c L N)(hs:∀k,S k→S' k):PmV S' w p c L N:=by
 obtain⟨q,SA,lv,ov,m,h1,h2,h3,h4⟩:=h;exact⟨q,SA,lv,ov,m,h1,h2,h3,fun k hk=>hs k (h4 k hk)⟩
theorem PmV.more {c':Nat}(h:PmV S w p c L N)(hs:c≤c'):PmV S w p c' L N:=by
 obtain⟨q,SA,lv,ov,m,h1,h2,h3,h4⟩:=h;exact⟨q,SA,lv,ov,m,h1,h2,E,h4⟩
theorem PmV.chg {S':Nat→Prop}(h:PmV S w p c L N)(hc:Chg S' w w')(hd:∀k,S k→¬S' k):PmV S w' p c L N:=by
 obtain⟨q,SA,lv,ov,m,h1,h2,h3,h4⟩:=h;exact⟨q,SA,lv,ov,m,h1.chg hc (fun k hk=>hd k (h4 k hk)),h2,h3,h4⟩
theorem PmV.below (h:PmV S w p c L N)(hb:Below w.heap.size w w'):PmV S w' p c L N:=by
 obtain⟨q,SA,lv,ov,m,h1,h2,h3,h4⟩:=h;exact⟨q,SA,lv,ov,m,h1.below hb,h2,h3,h4⟩
theorem PmStep.of {q:Nat}{SA:Nat→Prop}{lv ov:Value}{m:Pm}(hP:PmIn w' p q SA lv ov m)(hV:PVw m L N)(hl:m.L.length≤c)(hS:∀k,pmS p SA lv ov k→S k∨w.heap.size≤k)(hC:Chg S w w'):PmStep S w w' p c L N:=
 ⟨⟨q,SA,lv,ov,m,hP,hV,hl,fun k hk=>(hS k hk).imp id (fun h=>⟨h,hP.lt k hk⟩)⟩,hC⟩
theorem PmStep.own {B:Nat}(h:PmStep (fun k=>B≤k) w w' p c L N)(hB:B≤w.heap.size):PmV (fun k=>B≤k) w' p c L N∧Below B w w':=
 ⟨h.pv.mono (fun k hk=>E),h.chg.below (fun b hb=>hb) hB⟩
end
def kW(L:List Int)(x:Int):List Int:=if 0≤gL L x then L.set x.toNat (-1)else L
theorem ag4{S:Nat→Prop}{w:World}{p c:Nat}{L:List Int}{N:Nat}(h:PmV S w p c L N)(hc:c≤1000000)(x:Int):
  Calls Tryz.prog 163 #[.pointer (some ⟨p,0,none⟩), .int .i64 x] w fun e w'=>e= .returned (.int .i64 (if 0≤gL L x then 0 else 7))∧PmStep S w w' p c (kW L x) N:=by
 obtain⟨q,SA,lv,ov,m,hP,hV,hml,hS⟩:=h;have hat:=tG hP hV.ok hV.so E x;by_cases hx:0≤gL L x
 ·have hi:m.is x=true:=(hV.is x).2 hx;obtain⟨hlt,hrow⟩:=Pm.is_lt hV.so hi;obtain⟨k,hk⟩:∃k,m.O[m.cnt x]? =some k:=⟨_,ar3 hlt⟩;rw[hk,aD0]at hrow;have hdel:=hV.del hk;rw[hrow]at hdel;have e:kW L x=L.set x.toNat (-1):=aH9 hx;rw[aH9 hx,e];rw[hi]at hat;have hol:=hV.ok.olen;have HAT:=θ hat;have HOK:=θ hV.ok;have HDEL:=θ hdel;have HK:=θ hk;clear hat hV hdel e hx hi hrow hP hk;generalize m.cnt x=i at *;go_enter Tryz.func163,Tryz.ntmps163;go_wp2_with fail;refine HAT.o.mono ?_;rintro e w1 ⟨rfl,hP1,hC1⟩;have hg:=Bp hP1 HOK.o HK.o E;have HG:=θ hg;have HC1:=θ hC1;clear hg hP1 hC1;go_wp2_with fail;refine HG.o.mono ?_;rintro e w2 ⟨rfl,SA',ov',hP2,hC2,hS2⟩;have HP2:=θ hP2;have HC2:=θ hC2;have HS2:=θ hS2;clear hP2 hC2 hS2;go_wp2_with fail;go_ret;have hsz:=HC1.o.size;exact⟨rfl,PmStep.of HP2.o HDEL.o hml (fun j hj=>(HS2.o j hj).imp (hS j) (fun h=>E)) ((HC1.o.mono (fun b hb=>hS b (Ej (Ej (Ej hb))))).trans (HC2.o.mono hS) (fun b hb=>Ei hb))⟩
 ·have hi:m.is x=false:=by rw[←am7,hV.is];exact hx
  have e:kW L x=L:=aH8 hx;rw[aH8 hx,e];rw[hi]at hat;have HAT:=θ hat;have HV:=θ hV;clear hat hV e hx hi hP;generalize m.cnt x=i at *;go_enter Tryz.func163,Tryz.ntmps163;go_wp2_with fail;refine HAT.o.mono ?_;rintro e w1 ⟨rfl,hP1,hC1⟩;go_wp2_with fail;go_ret;exact⟨rfl,PmStep.of hP1 HV.o hml (fun j hj=>Ei (hS j hj)) (hC1.mono (fun b hb=>hS b (Ej (Ej (Ej hb)))))⟩
theorem Yf{α:Type}(l:List α)(x:Nat)(v:α):dB (l.set x v) x=dB l x:=by
 unfold dB;rw[List.take_set_of_le (aA5 _),List.drop_set_of_lt E]
theorem Yv{S:Nat→Prop}{w:World}{p c:Nat}{L:List Int}{N:Nat}(h:PmV S w p c L N)(hc:c≤1000000)(hL:L.length≤1000000)(x:Nat)(hx:x≤L.length):
  Calls Tryz.prog 116 #[.pointer (some ⟨p,0,none⟩), .int .i64 x] w fun e w'=>e= .returned (.int .i64 0)∧PmStep S w w' p c (bY L x (-1)) N:=by
 obtain⟨q,SA,lv,ov,m,hP,hV,hml,hS⟩:=h;have hR:=hV.eR;refine(Mv hP hV.ok E E (fun k hk=>by have :=hV.row hk;omega) x E E).mono ?_;rintro e w' ⟨rfl,hP',hC⟩;exact⟨rfl,PmStep.of hP' (hV.rowIn hx) (by show (bK _ _ _).length≤c;rw[cK];exact hml) (fun j hj=>Ei (hS j hj)) (hC.mono (fun b hb=>hS b (hb.elim Ei (fun h=>Ej (Ej (Ei h))))))⟩
theorem Yr{S:Nat→Prop}{w:World}{p c:Nat}{L:List Int}{N:Nat}(h:PmV S w p c L N)(hc:c≤1000000)(hN:N≤1000000)(x:Nat)(hx:x≤N):
  Calls Tryz.prog 117 #[.pointer (some ⟨p,0,none⟩), .int .i64 x] w fun e w'=>e= .returned (.int .i64 0)∧PmStep S w w' p c (L.map (upP x)) (N+1):=by
 obtain⟨q,SA,lv,ov,m,hP,hV,hml,hS⟩:=h;have hR:=hV.eN;refine(Ms hP hV.ok E E (fun k hk=>by have :=hV.row hk;omega) x E E).mono ?_;rintro e w' ⟨rfl,hP',hC⟩;exact⟨rfl,PmStep.of hP' (hV.posIn hx) (by show (bK _ _ _).length≤c;rw[cK];exact hml) (fun j hj=>Ei (hS j hj)) (hC.mono (fun b hb=>hS b (hb.elim Ei (fun h=>Ej (Ej (Ei h))))))⟩
theorem Se{S:Nat→Prop}{w:World}{p c:Nat}{L:List Int}{N:Nat}(h:PmV S w p c L N)(hc:c≤1000000)(hL:L.length≤1000000)(x:Nat)(hx:x<L.length):
  Calls Tryz.prog 106 #[.pointer (some ⟨p,0,none⟩), .int .i64 x] w fun e w'=>e= .returned (.int .i64 0)∧PmStep S w w' p c (dB L x) N:=by
 obtain⟨q,SA,lv,ov,m,hP0,hV,hml,hS⟩:=h;have hb0:=aC w (.cells #[.int .i64 (x:Int)] 3);have hbx:(w.alloc (.cells #[.int .i64 (x:Int)] 3)).cell? ⟨w.heap.size,0,none⟩=some (.int .i64 (x:Int)):=aF9 _ _ _ _ rfl;have hP:=hP0.below hb0;have hC0:Chg (pmS p SA lv ov) w (w.alloc (.cells #[.int .i64 (x:Int)] 3)):=Chg.refl.alloc _;have hlt:=hP0.lt;have hR:=hV.eR;have d1:decide ((x:Int)<0)=false:=aG9 E;have d2:decide (m.R≤x)=false:=aG9 E;have hdrop:∀n,Calls Tryz.prog 163 #[.pointer (some ⟨p,0,none⟩), .int .i64 (x:Int)] ((w.alloc (.cells #[.int .i64 (x:Int)] 3)).drewN n) fun e w'=>e= .returned (.int .i64 (if 0≤gL L x then 0 else 7))∧PmStep (pmS p SA lv ov) ((w.alloc (.cells #[.int .i64 (x:Int)] 3)).drewN n) w' p c (kW L x) N:=
  fun n=>ag4 ⟨q,SA,lv,ov,m,hP.below (aX (am4 _ _) n),hV,hml,fun _ h=>h⟩ hc x
 have e1:gL (kW L x) x<0:=by
  unfold kW;by_cases h0:0≤gL L x
  ·rw[aH9 h0,ao2,yH hx,aH9 rfl];omega
  ·rw[aH8 h0];omega
 have e2:dB (kW L x) x=dB L x:=by
  unfold kW;by_cases h0:0≤gL L x
  ·rw[aH9 h0,ao2,Yf]
  ·rw[aH8 h0]
 have e3:(kW L x).length=L.length:=by
  unfold kW;split
  ·rw[at4]
  ·rfl
 obtain⟨_,_,_,c3,_,c5⟩:=hP.cells;have HC0:=θ hC0;have HLT:=θ hlt;have HV:=θ hV;have HDROP:=θ hdrop;have HE1:=θ e1;have HE2:=θ e2;have HE3:=θ e3;have HR:=θ hR;have hpl:p<w.heap.size:=hlt p (Ei rfl);clear c5 hP hP0 hC0 hlt hV hdrop e1 e2 e3 hb0 hR;generalize (if 0≤gL L x then (0:Int)else 7)=code at *;go_enter Tryz.func106,Tryz.ntmps106;go_wp2_with fail;go_quiet (fail);obtain⟨n1,rfl⟩:∃n1,n1=nq:=⟨_,rfl⟩;go_wp2_with fail;refine(HDROP.o n1).mono ?_;rintro e w1 ⟨rfl,hst⟩;have hbx1:=hst.chg.cell (p:=⟨w.heap.size,0,none⟩) hbx (fun h=>by have :=HLT.o _ h;exact absurd this (aA7 _));have hC1:Chg (pmS p SA lv ov) w w1:=(HC0.o.drewN n1).trans hst.chg (fun b hb=>Ei hb);obtain⟨q1,SA1,lv1,ov1,m1,hP1,hV1,hl1,hS1⟩:=hst.pv;obtain⟨_,_,_,c3,_,c5⟩:=hP1.cells;have c6:=c5 3;obtain⟨R1,hR1⟩:∃R1:Nat,R1+1=m1.R:=⟨m1.R-1,by have :=hV1.eR;have :=HE3.o;omega⟩;have hS1':∀k,pmS p SA1 lv1 ov1 k→k≠w.heap.size∧(pmS p SA lv ov k∨w.heap.size≤k):=fun k hk=>by
  rcases hS1 k hk with h | h
  ·exact⟨fun e=>by have :=HLT.o k h;omega,Ei h⟩
  ·have h1:=h.1;simp at h1;exact⟨E,Ej E⟩
 have HC1:=θ hC1;have HP1:=θ hP1;have HV1:=θ hV1;have HS1:=θ hS1';have HR1:=θ hR1;have hRle:m1.R≤1000000:=by have :=hV1.eR;have :=HE3.o;omega
 have hR1':(1:Int)≤(m1.R:Int):=E;clear hst hC1 hP1 hV1 hS1 hS1' c5 hR1;go_wp2_with fail;have hP2:PmIn (w1.setCell ⟨p,3,none⟩ (.int .i64 ((m1.R:Int)-1))) p q1 SA1 lv1 ov1 ⟨m1.A,m1.L,m1.O,R1,m1.N⟩:=by
  have :=HP1.o.setR R1;rw[show ((m1.R:Int)-1)=(R1:Int) by have :=HR1.o;omega];exact this
 have hC2:Chg (pmS p SA lv ov) w (w1.setCell ⟨p,3,none⟩ (.int .i64 ((m1.R:Int)-1))):=HC1.o.setCell ⟨p,3,none⟩ (Ei (Ei rfl)) _;have hbx2:(w1.setCell ⟨p,3,none⟩ (.int .i64 ((m1.R:Int)-1))).cell? ⟨w.heap.size,0,none⟩=some (.int .i64 (x:Int)):=
  (Chg.refl.setCell (S:=fun b=>b=p) ⟨p,3,none⟩ (Ei rfl) _).cell hbx1 (fun e=>by have e:w.heap.size=p:=e;omega)
 generalize w1.setCell ⟨p,3,none⟩ (.int .i64 ((m1.R:Int)-1))=w2 at *;have hok1:=HV1.o.ok;have key:=jE hP2 ⟨hok1.most,hok1.nd,hok1.iff,hok1.len⟩ (by show m1.L.length≤_;omega) (jA x) 165 #[.pointer (some ⟨w.heap.size,0,none⟩)] (enters_of Tryz.func165 Ek rfl)
  (fun gl cap hlv W L k hW hT hLl hk er ep=>by
   have hgl:=(HS1.o gl (Ej (Ej (Ei (by rw[hlv];rfl))))).1
   have hb:=HV1.o.row hk
   have hkl:=hok1.lt hk
   have :=Fd hT (k:=k) (by rw[hLl];exact hkl) (hW.cell hbx2 (fun e=>hgl e.symm)) (by rw[er];show -1≤aD m1.L k;omega) (by rw[er];show aD m1.L k≤_;have :=HE3.o;omega)
   rw[er,ep]at this
   exact this)
 have HK:=θ key;have HC2:=θ hC2;clear key hC2 hP2 hbx2 hbx1 hbx c3 c6 hok1;refine HK.o.mono ?_;rintro e w3 ⟨rfl,hP3,hC3⟩;go_wp2_with fail;go_ret;have hv:=HV1.o.rowOut (x:=x) (by have :=HE3.o;omega) HE1.o HR1.o;rw[HE2.o]at hv;refine⟨rfl,PmStep.of hP3 hv (by show (bK _ _ _).length≤c;rw[cK];exact hl1) (fun j hj=>(HS1.o j hj).2.imp (hS j) id) ((HC2.o.mono hS).trans hC3 (fun b hb=>?_))⟩;exact(HS1.o b (Ej (Ej (Ei hb)))).2.imp (hS b) id
def lQ(x y:Int):Int:=if y=x then -1 else if x<y then y-1 else y
theorem af9{L:List Int}{x:Int}(h:∀r,gL L r≠x):L.map (dnP x)=L.map (lQ x):=by
 apply at7;intro y hy;obtain⟨i,hi,rfl⟩:=as4 hy;have :=h i;rw[cX,ar3 hi]at this;unfold dnP lQ;rw[aH8 (c:=L[i]=x) this]
theorem Yi{L:List Int}{x:Nat}{r:Nat}(hr:r<L.length)(h:gL L r=x)(hi:∀r s,0≤gL L r→gL L r=gL L s→r=s):(L.set r (-1)).map (dnP x)=L.map (lQ x):=by
 apply List.ext_getElem Es;intro i h1 h2;have h2':i<L.length:=by simpa using h2
 simp only[as2,List.getElem_set];by_cases e:r=i
 ·subst e;rw[cX,ar3 h2']at h;have h:L[r]=(x:Int):=h;rw[aH9 rfl,h];unfold dnP lQ;rw[aH9 rfl,aH8 E]
 ·rw[aH8 e];have hne:L[i]≠(x:Int):=by
   intro q;have h3:gL L i=x:=by rw[cX,ar3 h2'];exact q
   have :=hi r i E E;omega
  unfold dnP lQ;rw[aH8 (c:=L[i]=(x:Int)) hne]
theorem Sc{S:Nat→Prop}{w:World}{p c:Nat}{L:List Int}{N:Nat}(h:PmV S w p c L N)(hc:c≤1000000)(hN:N≤1000000)(x:Nat)(hx:x<N):
  Calls Tryz.prog 107 #[.pointer (some ⟨p,0,none⟩), .int .i64 x] w fun e w'=>e= .returned (.int .i64 0)∧PmStep S w w' p c (L.map (lQ x)) (N-1):=by
 obtain⟨q,SA,lv,ov,m,hP0,hV,hml,hS⟩:=h;have hb0:=aC w (.cells #[.int .i64 (x:Int)] 3);have hbx:(w.alloc (.cells #[.int .i64 (x:Int)] 3)).cell? ⟨w.heap.size,0,none⟩=some (.int .i64 (x:Int)):=aF9 _ _ _ _ rfl;have hP:=hP0.below hb0;have hC0:Chg (pmS p SA lv ov) w (w.alloc (.cells #[.int .i64 (x:Int)] 3)):=Chg.refl.alloc _;have hlt:=hP0.lt;have hN0:=hV.eN;have d1:decide ((x:Int)<0)=false:=aG9 E;have d2:decide (m.N≤x)=false:=aG9 E;have hcase:=hV.has x;have hhas:∀n,Calls Tryz.prog 97 #[.pointer (some ⟨p,0,none⟩), .int .i64 (x:Int)] ((w.alloc (.cells #[.int .i64 (x:Int)] 3)).drewN n) fun e w'=>e= .returned (.int .i64 (m.has x))∧Below ((w.alloc (.cells #[.int .i64 (x:Int)] 3)).drewN n).heap.size ((w.alloc (.cells #[.int .i64 (x:Int)] 3)).drewN n) w':=
  fun n=>qV (hP.below (aX (am4 _ _) n)) hV.ok E x
 have hPn:∀n,PmIn ((w.alloc (.cells #[.int .i64 (x:Int)] 3)).drewN n) p q SA lv ov m:=fun n=>hP.below (aX (am4 _ _) n);have HPN:=θ hPn;obtain⟨_,_,_,_,c3,c5⟩:=hP.cells;have HC0:=θ hC0;have HLT:=θ hlt;have HV:=θ hV;have HHAS:=θ hhas;have HN0:=θ hN0;have hpl:p<w.heap.size:=hlt p (Ei rfl);have hol:=hV.ok.olen;clear c5 hP hP0 hC0 hlt hV hhas hb0 hPn hN0;rcases hcase with ⟨i,k,a1,a2,a3,a4,a5⟩ | ⟨a1,a2⟩
 ·have hrow:=HV.o.row (ax2 a2);obtain⟨r,hr⟩:∃r:Nat,aD m.L k=r:=⟨(aD m.L k).toNat,E⟩;rw[a1]at HHAS;have HK:=θ a2;have hdel:=HV.o.del a2;rw[hr,ao2]at hdel;rw[hr]at hrow a4;have hL1:∀s,gL (L.set r (-1)) s≠x:=fun s=>by
   rw[yH E];split
   ·omega
   ·intro q;have :=HV.o.inj r s E E;omega
  have hfin:=Yi E a4 HV.o.inj;have HDEL:=θ hdel;have HL1:=θ hL1;have HFIN:=θ hfin;have hil:i<m.O.length:=(ar5.1 a2).1;have d3:decide (0≤(i:Int))=true:=aH1 E;clear a1 a2 a3 a4 a5 hr hrow hdel hL1 hfin;go_enter Tryz.func107,Tryz.ntmps107;go_wp2_with fail;go_quiet (fail);obtain⟨n1,rfl⟩:∃n1,n1=nq:=⟨_,rfl⟩;go_wp2_with fail;refine(HHAS.o n1).mono ?_;rintro e w0 ⟨rfl,hB0⟩;have hbx0:=hB0.cell (p:=⟨w.heap.size,0,none⟩) Es;have hbx0:=hbx0.trans hbx;have hg:=Bp ((HPN.o n1).below hB0) HV.o.ok HK.o E;have HG:=θ hg;have hsz0:=hB0.size;have HSZ0:=θ hsz0;have hC00:Chg (pmS p SA lv ov) w w0:=(HC0.o.drewN n1).trans (Chg.of_below (S:=fun _=>False) hB0) (fun _ hf=>hf.elim);have HC00:=θ hC00;clear hg hsz0 hB0 hC00;go_wp2_with fail;refine HG.o.mono ?_;rintro e w1 ⟨rfl,SA1,ov1,hP1,hC1',hS1⟩;have hbx1:=hC1'.cell (p:=⟨w.heap.size,0,none⟩) hbx0 (fun h=>by have :=HLT.o _ h;exact absurd this (aA7 _));have hC1:Chg (pmS p SA lv ov) w w1:=HC00.o.trans hC1' (fun b hb=>Ei hb);obtain⟨m1,hm1⟩:∃m1,m1=m.del i k:=⟨_,rfl⟩;have hV1:=HDEL.o;rw[←hm1]at hP1 hV1;have hl1:m1.L.length≤c:=by rw[hm1];exact hml
  have hS1':∀k,pmS p SA1 lv ov1 k→k≠w.heap.size∧(pmS p SA lv ov k∨w.heap.size≤k):=fun k hk=>by
   rcases hS1 k hk with h | h
   ·exact⟨fun e=>by have :=HLT.o k h;omega,Ei h⟩
   ·have h1:=HSZ0.o;simp at h1;exact⟨E,Ej E⟩
  have HL:=HL1.o;clear hC1' hS1 hm1 hbx0;obtain⟨_,_,_,_,c3,c5⟩:=hP1.cells;have c6:=c5 4;obtain⟨R1,hR1⟩:∃R1:Nat,R1+1=m1.N:=⟨m1.N-1,by have :=hV1.eN;omega⟩;have HC1:=θ hC1;have HP1:=θ hP1;have HV1:=θ hV1;have HS1:=θ hS1';have HR1:=θ hR1;have HLL:=θ HL;have hRle:m1.N≤1000000:=by have :=hV1.eN;omega
  have hR1':(1:Int)≤(m1.N:Int):=E;clear hC1 hP1 hV1 hS1' c5 hR1 HL;go_wp2_with fail;have hP2:PmIn (w1.setCell ⟨p,4,none⟩ (.int .i64 ((m1.N:Int)-1))) p q SA1 lv ov1 ⟨m1.A,m1.L,m1.O,m1.R,R1⟩:=by
   have :=HP1.o.setN R1;rw[show ((m1.N:Int)-1)=(R1:Int) by have :=HR1.o;omega];exact this
  have hC2:Chg (pmS p SA lv ov) w (w1.setCell ⟨p,4,none⟩ (.int .i64 ((m1.N:Int)-1))):=HC1.o.setCell ⟨p,4,none⟩ (Ei (Ei rfl)) _;have hbx2:(w1.setCell ⟨p,4,none⟩ (.int .i64 ((m1.N:Int)-1))).cell? ⟨w.heap.size,0,none⟩=some (.int .i64 (x:Int)):=
   (Chg.refl.setCell (S:=fun b=>b=p) ⟨p,4,none⟩ (Ei rfl) _).cell hbx1 (fun e=>by have e:w.heap.size=p:=e;omega)
  generalize w1.setCell ⟨p,4,none⟩ (.int .i64 ((m1.N:Int)-1))=w2 at *;have hok1:=HV1.o.ok;have key:=jE hP2 ⟨hok1.most,hok1.nd,hok1.iff,hok1.len⟩ (by show m1.L.length≤_;omega) (gZ x) 167 #[.pointer (some ⟨w.heap.size,0,none⟩)] (enters_of Tryz.func167 Ek rfl)
   (fun gl cap hlv W L k hW hT hLl hk er ep=>by
    have hgl:=(HS1.o gl (Ej (Ej (Ei (by rw[hlv];rfl))))).1
    have hb:=HV1.o.row hk
    have hkl:=hok1.lt hk
    have :=sD hT (k:=k) (by rw[hLl];exact hkl) (hW.cell hbx2 (fun e=>hgl e.symm)) (by rw[ep];show -1≤aH m1.L k;omega) (by rw[ep];show aH m1.L k≤_;omega)
    rw[er,ep]at this
    exact this)
  have HK2:=θ key;have HC2:=θ hC2;clear key hC2 hP2 hbx2 hbx1 hbx c3 c6 hok1;refine HK2.o.mono ?_;rintro e w3 ⟨rfl,hP3,hC3⟩;go_wp2_with fail;go_ret;have hN1:=HV1.o.eN;have hR1:=HR1.o;have hv:=HV1.o.posOut (x:=x) hx HLL.o (N':=R1) E;rw[HFIN.o,show R1=N-1 by omega]at hv;rw[show R1=N-1 by omega]at hP3;refine⟨rfl,PmStep.of hP3 hv (by show (bK _ _ _).length≤c;rw[cK];exact hl1) (fun j hj=>(HS1.o j hj).2.imp (hS j) id) ((HC2.o.mono hS).trans hC3 (fun b hb=>?_))⟩;exact(HS1.o b (Ej (Ej (Ei hb)))).2.imp (hS b) id
 ·have hB1':=a2 E;rw[a1]at HHAS;have hfin:=af9 hB1';have HFIN:=θ hfin;have HL1:=θ hB1';have d3:decide (0≤(-1:Int))=false:=rfl;clear a1 a2 hfin hB1';go_enter Tryz.func107,Tryz.ntmps107;go_wp2_with fail;go_quiet (fail);obtain⟨n1,rfl⟩:∃n1,n1=nq:=⟨_,rfl⟩;go_wp2_with fail;refine(HHAS.o n1).mono ?_;rintro e w1 ⟨rfl,hB0⟩;have hbx1:=hB0.cell (p:=⟨w.heap.size,0,none⟩) Es;have hbx1:=hbx1.trans hbx;have hP1:=(HPN.o n1).below hB0;have hC1:Chg (pmS p SA lv ov) w w1:=(HC0.o.drewN n1).trans (Chg.of_below (S:=fun _=>False) hB0) (fun _ hf=>hf.elim);have hV1:=HV.o;obtain⟨m1,hm1⟩:∃m1,m1=m:=⟨_,rfl⟩;rw[←hm1]at hP1 hV1;have hl1:m1.L.length≤c:=by rw[hm1];exact hml
  obtain⟨SA1,hSA1⟩:∃SA1,SA1=SA:=⟨_,rfl⟩;obtain⟨ov1,hov1⟩:∃ov1,ov1=ov:=⟨_,rfl⟩;have hS1':∀k,pmS p SA1 lv ov1 k→k≠w.heap.size∧(pmS p SA lv ov k∨w.heap.size≤k):=fun k hk=>by
   rw[hSA1,hov1]at hk;exact⟨fun e=>by have :=HLT.o k hk;omega,Ei hk⟩
  rw[←hSA1,←hov1]at hP1;have HL:=HL1.o;clear hB0 hm1 hSA1 hov1;obtain⟨_,_,_,_,c3,c5⟩:=hP1.cells;have c6:=c5 4;obtain⟨R1,hR1⟩:∃R1:Nat,R1+1=m1.N:=⟨m1.N-1,by have :=hV1.eN;omega⟩;have HC1:=θ hC1;have HP1:=θ hP1;have HV1:=θ hV1;have HS1:=θ hS1';have HR1:=θ hR1;have HLL:=θ HL;have hRle:m1.N≤1000000:=by have :=hV1.eN;omega
  have hR1':(1:Int)≤(m1.N:Int):=E;clear hC1 hP1 hV1 hS1' c5 hR1 HL;go_wp2_with fail;have hP2:PmIn (w1.setCell ⟨p,4,none⟩ (.int .i64 ((m1.N:Int)-1))) p q SA1 lv ov1 ⟨m1.A,m1.L,m1.O,m1.R,R1⟩:=by
   have :=HP1.o.setN R1;rw[show ((m1.N:Int)-1)=(R1:Int) by have :=HR1.o;omega];exact this
  have hC2:Chg (pmS p SA lv ov) w (w1.setCell ⟨p,4,none⟩ (.int .i64 ((m1.N:Int)-1))):=HC1.o.setCell ⟨p,4,none⟩ (Ei (Ei rfl)) _;have hbx2:(w1.setCell ⟨p,4,none⟩ (.int .i64 ((m1.N:Int)-1))).cell? ⟨w.heap.size,0,none⟩=some (.int .i64 (x:Int)):=
   (Chg.refl.setCell (S:=fun b=>b=p) ⟨p,4,none⟩ (Ei rfl) _).cell hbx1 (fun e=>by have e:w.heap.size=p:=e;omega)
  generalize w1.setCell ⟨p,4,none⟩ (.int .i64 ((m1.N:Int)-1))=w2 at *;have hok1:=HV1.o.ok;have key:=jE hP2 ⟨hok1.most,hok1.nd,hok1.iff,hok1.len⟩ (by show m1.L.length≤_;omega) (gZ x) 167 #[.pointer (some ⟨w.heap.size,0,none⟩)] (enters_of Tryz.func167 Ek rfl)
   (fun gl cap hlv W L k hW hT hLl hk er ep=>by
    have hgl:=(HS1.o gl (Ej (Ej (Ei (by rw[hlv];rfl))))).1
    have hb:=HV1.o.row hk
    have hkl:=hok1.lt hk
    have :=sD hT (k:=k) (by rw[hLl];exact hkl) (hW.cell hbx2 (fun e=>hgl e.symm)) (by rw[ep];show -1≤aH m1.L k;omega) (by rw[ep];show aH m1.L k≤_;omega)
    rw[er,ep]at this
    exact this)
  have HK2:=θ key;have HC2:=θ hC2;clear key hC2 hP2 hbx2 hbx1 hbx c3 c6 hok1;refine HK2.o.mono ?_;rintro e w3 ⟨rfl,hP3,hC3⟩;go_wp2_with fail;go_ret;have hN1:=HV1.o.eN;have hR1:=HR1.o;have hv:=HV1.o.posOut (x:=x) hx HLL.o (N':=R1) E;rw[HFIN.o,show R1=N-1 by omega]at hv;rw[show R1=N-1 by omega]at hP3;refine⟨rfl,PmStep.of hP3 hv (by show (bK _ _ _).length≤c;rw[cK];exact hl1) (fun j hj=>(HS1.o j hj).2.imp (hS j) id) ((HC2.o.mono hS).trans hC3 (fun b hb=>?_))⟩;exact(HS1.o b (Ej (Ej (Ei hb)))).2.imp (hS b) id
end
end Go.Proofs.YtchinbgemenenaaGreatDoor
