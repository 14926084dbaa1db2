/- Lemmas and contracts under the claims of this seat. No condition. -/
import Derived.Laws.MakeOwn
import Derived.Deep.DeepCutAuto
import Derived.Deep.CutBlock
import Derived.Deep.CutRange
import Derived.RegionCalls
import Derived.RegionTactic
import Derived.BigRegion
import Derived.ChangeAlike
import Derived.Laws.EntriesVeiled
import Derived.RangeFuncNested
import Derived.RangeFuncBound
import Derived.RangeFuncCalls
import Derived.RangeFuncLeaves
import Derived.Shelf.Abstract
import Derived.Shelf.RegionOpen
import Derived.WalkKit
import Derived.OwnWalkIn
import Derived.TacticsInMore
import Derived.LoopNIn
import Derived.LoopIn
import Derived.Lib.SlBytesConst
import Derived.Shelf.Spec.SlicesInsert
import Derived.Shelf.Spec.SlicesInsertGrow
import Derived.Lib.SlBy
import Derived.Shelf.SlCmpFuncs.BinarySearchFunc
import Derived.Shelf.SlCmpFuncs.None
import Derived.Shelf.SlicesE.IndexFunc
import Derived.Test.YtchinbgemenenaaGreatDoorZr1
import Derived.Test.YtchinbgemenenaaGreatDoorZr7
import Derived.Test.YtchinbgemenenaaGreatDoorZr9
import Derived.Test.YtchinbgemenenaaGreatDoorZr11
namespace Go.Proofs.YtchinbgemenenaaGreatDoor
set_option linter.unusedVariables false
set_option linter.unusedSimpArgs false
set_option maxRecDepth 100000
set_option maxHeartbeats 12800000
section
open Go.RowKit
structure RowsSt (B:Nat) (w:World) (n bn br qr gn g c1 c2 c3:Nat) (fr fn fk:Nat→Int):Prop where
 nb:w.heap[bn]? =some (.cells #[.int .i64 n] 3 (0,0))
 rb:w.heap[br]? =some (.cells #[.slice (some ⟨g,0,none⟩) n c3] 36 (0,0))
 rows:w.ownsRow B 3 1 (.slice (some ⟨qr,0,none⟩) n c1) n (aP (fun i=> .int .i64 (fr i)) n)
 next:w.ownsRow B 3 1 (.slice (some ⟨gn,0,none⟩) n c2) n (aP (fun i=> .int .i64 (fn i)) n)
 rank:w.ownsRow B 3 1 (.slice (some ⟨g,0,none⟩) n c3) n (aP (fun i=> .int .i64 (fk i)) n)
 ne:qr≠gn∧qr≠g∧gn≠g∧bn≠qr∧bn≠gn∧bn≠g∧br≠qr∧br≠gn∧br≠g∧bn≠br
 lo:B≤bn∧B≤br
section
variable {B:Nat}{w w':World}{n bn br qr gn g c1 c2 c3:Nat}{fr fn fk:Nat→Int}
theorem RowsSt.chg (h:RowsSt B w n bn br qr gn g c1 c2 c3 fr fn fk){S:Nat→Prop}(hc:Chg S w w')(h1:¬S bn)(h2:¬S br)(h3:¬S qr)(h4:¬S gn)(h5:¬S g):RowsSt B w' n bn br qr gn g c1 c2 c3 fr fn fk:=by
 have key:∀q n c,(∀k,(Value.slice (some ⟨q,0,none⟩) n c).ownBlock=some k→k=q):=fun q n c k hk=>by simp[Value.ownBlock]at hk;exact hk.symm
 exact⟨hc.heap h.nb h1,hc.heap h.rb h2,hc.own h.rows (fun k hk=>by rw[key _ _ _ k hk];exact h3),hc.own h.next (fun k hk=>by rw[key _ _ _ k hk];exact h4),hc.own h.rank (fun k hk=>by rw[key _ _ _ k hk];exact h5),h.ne,h.lo⟩
theorem RowsSt.still (h:RowsSt B w n bn br qr gn g c1 c2 c3 fr fn fk)(hb:Below w.heap.size w w'):RowsSt B w' n bn br qr gn g c1 c2 c3 fr fn fk:=
 h.chg (Chg.of_below (S:=fun _=>False) hb) id id id id id
theorem RowsSt.drewN (h:RowsSt B w n bn br qr gn g c1 c2 c3 fr fn fk)(m:Nat):RowsSt B (w.drewN m) n bn br qr gn g c1 c2 c3 fr fn fk:=⟨h.nb,h.rb,h.rows,h.next,h.rank,h.ne,h.lo⟩
theorem Vf{f:Nat→Int}{j n:Nat}{x:Int}:aP (fun i=>if i=j then Value.int .i64 x else Value.int .i64 (f i)) n=aP (fun i=>Value.int .i64 (if i=j then x else f i)) n:=
 iF (fun i _=>by split<;>rfl)
theorem RowsSt.setRows (h:RowsSt B w n bn br qr gn g c1 c2 c3 fr fn fk)(j:Nat)(x:Int):RowsSt B (w.setCell ⟨qr,j,none⟩ (.int .i64 x)) n bn br qr gn g c1 c2 c3 (fun i=>if i=j then x else fr i) fn fk:=by
 have hc:Chg (fun b=>b=qr) w (w.setCell ⟨qr,j,none⟩ (.int .i64 x)):=Chg.refl.setCell (S:=fun b=>b=qr) ⟨qr,j,none⟩ (Ei rfl) _;obtain⟨a1,a2,a3,a4,a5,a6,a7,a8,a9,a10⟩:=h.ne;have key:∀q n c,(∀k,(Value.slice (some ⟨q,0,none⟩) n c).ownBlock=some k→k=q):=fun q n c k hk=>by simp[Value.ownBlock]at hk;exact hk.symm
 have ho:=vZ h.rows j (.int .i64 x);rw[Vf]at ho;exact⟨hc.heap h.nb a4,hc.heap h.rb a7,ho,hc.own h.next (fun k hk e=>a1 ((key _ _ _ k hk▸e:gn=qr).symm)),hc.own h.rank (fun k hk e=>a2 ((key _ _ _ k hk▸e:g=qr).symm)),h.ne,h.lo⟩
theorem RowsSt.setNext (h:RowsSt B w n bn br qr gn g c1 c2 c3 fr fn fk)(j:Nat)(x:Int):RowsSt B (w.setCell ⟨gn,j,none⟩ (.int .i64 x)) n bn br qr gn g c1 c2 c3 fr (fun i=>if i=j then x else fn i) fk:=by
 have hc:Chg (fun b=>b=gn) w (w.setCell ⟨gn,j,none⟩ (.int .i64 x)):=Chg.refl.setCell (S:=fun b=>b=gn) ⟨gn,j,none⟩ (Ei rfl) _;obtain⟨a1,a2,a3,a4,a5,a6,a7,a8,a9,a10⟩:=h.ne;have key:∀q n c,(∀k,(Value.slice (some ⟨q,0,none⟩) n c).ownBlock=some k→k=q):=fun q n c k hk=>by simp[Value.ownBlock]at hk;exact hk.symm
 have ho:=vZ h.next j (.int .i64 x);rw[Vf]at ho;exact⟨hc.heap h.nb a5,hc.heap h.rb a8,hc.own h.rows (fun k hk e=>a1 (key _ _ _ k hk▸e:qr=gn)),ho,hc.own h.rank (fun k hk e=>a3 ((key _ _ _ k hk▸e:g=gn).symm)),h.ne,h.lo⟩
theorem RowsSt.swap (h:RowsSt B w n bn br qr gn g c1 c2 c3 fr fn fk):RowsSt B (w.setCell ⟨br,0,none⟩ (.slice (some ⟨gn,0,none⟩) n c2)) n bn br qr g gn c1 c3 c2 fr fk fn:=by
 have hc:Chg (fun b=>b=br) w (w.setCell ⟨br,0,none⟩ (.slice (some ⟨gn,0,none⟩) n c2)):=Chg.refl.setCell (S:=fun b=>b=br) ⟨br,0,none⟩ (Ei rfl) _;obtain⟨a1,a2,a3,a4,a5,a6,a7,a8,a9,a10⟩:=h.ne;have key:∀q n c,(∀k,(Value.slice (some ⟨q,0,none⟩) n c).ownBlock=some k→k=q):=fun q n c k hk=>by simp[Value.ownBlock]at hk;exact hk.symm
 exact⟨hc.heap h.nb a10,aH6 w br 0 _ _ _ h.rb,hc.own h.rows (fun k hk e=>a7 ((key _ _ _ k hk▸e:qr=br).symm)),hc.own h.rank (fun k hk e=>a9 ((key _ _ _ k hk▸e:g=br).symm)),hc.own h.next (fun k hk e=>a8 ((key _ _ _ k hk▸e:gn=br).symm)),⟨a2,a1,fun e=>a3 e.symm,a4,a6,a5,a7,a9,a8,a10⟩,h.lo⟩
theorem RowsSt.cells (h:RowsSt B w n bn br qr gn g c1 c2 c3 fr fn fk):w.cell? ⟨bn,0,none⟩=some (.int .i64 n)∧w.cell? ⟨br,0,none⟩=some (.slice (some ⟨g,0,none⟩) n c3)∧
  (∀j,j<n→w.cell? ⟨qr,j,none⟩=some (.int .i64 (fr j)))∧(∀j,j<n→w.cell? ⟨gn,j,none⟩=some (.int .i64 (fn j)))∧(∀j,j<n→w.cell? ⟨g,j,none⟩=some (.int .i64 (fk j)))∧
  (∀j,w.frozen? ⟨qr,j,none⟩=false)∧(∀j,w.frozen? ⟨gn,j,none⟩=false)∧(∀j,w.frozen? ⟨br,j,none⟩=false):=
 ⟨by rw[aG7 w bn 0 _ _ _ h.nb];rfl,by rw[aG7 w br 0 _ _ _ h.rb];rfl,fun j hj=>jD h.rows hj,fun j hj=>jD h.next hj,fun j hj=>jD h.rank hj,sC h.rows,sC h.next,fun j=>aH3 w br j _ _ h.rb⟩
theorem RowsSt.newRows (h:RowsSt B w n bn br qr gn g c1 c2 c3 fr fn fk)(hc:Chg (fun b=>b=qr) w w'){fr':Nat→Int}(ho:w'.ownsRow B 3 1 (.slice (some ⟨qr,0,none⟩) n c1) n (aP (fun i=> .int .i64 (fr' i)) n)):RowsSt B w' n bn br qr gn g c1 c2 c3 fr' fn fk:=by
 obtain⟨a1,a2,a3,a4,a5,a6,a7,a8,a9,a10⟩:=h.ne;have key:∀q n c,(∀k,(Value.slice (some ⟨q,0,none⟩) n c).ownBlock=some k→k=q):=fun q n c k hk=>by simp[Value.ownBlock]at hk;exact hk.symm
 exact⟨hc.heap h.nb a4,hc.heap h.rb a7,ho,hc.own h.next (fun k hk e=>a1 ((key _ _ _ k hk▸e:gn=qr).symm)),hc.own h.rank (fun k hk e=>a2 ((key _ _ _ k hk▸e:g=qr).symm)),h.ne,h.lo⟩
theorem RowsSt.congr (h:RowsSt B w n bn br qr gn g c1 c2 c3 fr fn fk){fr' fn' fk':Nat→Int}(e1:∀i,i<n→fr i=fr' i)(e2:∀i,i<n→fn i=fn' i)(e3:∀i,i<n→fk i=fk' i):RowsSt B w n bn br qr gn g c1 c2 c3 fr' fn' fk':=
 ⟨h.nb,h.rb,by rw[iF (g:=fun i=> .int .i64 (fr i)) (fun i hi=>by rw[e1 i hi])];exact h.rows,by rw[iF (g:=fun i=> .int .i64 (fn i)) (fun i hi=>by rw[e2 i hi])];exact h.next,by rw[iF (g:=fun i=> .int .i64 (fk i)) (fun i hi=>by rw[e3 i hi])];exact h.rank,h.ne,h.lo⟩
end
def Pg(n:Nat)(l:List Int)(W:World)(e:Ending)(w':World):Prop:=∃g cap,e= .returned (.slice (some ⟨g,0,none⟩) n cap)∧w'.ownsRow W.heap.size 3 1 (.slice (some ⟨g,0,none⟩) n cap) n (aP (fun i=> .int .i64 (sy l i)) n)∧Below W.heap.size W w'
theorem Jv{l:List Int}{n:Nat}(h:l.length=n):l.map (Value.int .i64)=aP (fun i=> .int .i64 (sy l i)) n:=by
 apply aq3;intro i;by_cases hi:i<n
 ·rw[dN hi,ar6,ar3 E,jY E];rfl
 ·rw[ar4 (by simp;omega),ar4 (by rw[cM];omega)]
theorem Qa{w0 W:World}{g0 cap0 n:Nat}{l:List Int}(hr:∀j,j<n→w0.cell? ⟨g0,j,none⟩=some (.int .i64 (sy l j)))(hg:g0<w0.heap.size)(hb:Below w0.heap.size w0 W)(hn:l.length=n)(h0:0<n)(hm:n≤1000000000):
  Calls Tryz.prog 92 #[.slice (some ⟨g0,0,none⟩) n cap0] W (Pg n l W):=by
 refine(Tryz.slices_Clone_int g0 0 n cap0 l W E E (fun j hj=>?_)).mono ?_
 ·rw[aC7,(hb.cell (p:=⟨g0,j,none⟩) hg).trans (hr j E),jY hj];simp[hj]
 ·rintro e w' ⟨v',rfl,hown,_,hb'⟩;obtain⟨g,cap,rfl,_⟩:=cL hown h0;rw[az3 E,Jv hn]at hown;exact⟨g,cap,rfl,hown,hb'⟩
def Df(B:Nat)(w:World)(l:List Int)(e:Ending)(w':World):Prop:=∃r:List Nat,IsRows l r∧∃v,e= .returned v∧w'.ownsRow B 3 1 v r.length (r.map bG)∧Below B w w'
theorem vV{r:List Nat}{n:Nat}(h:r.length=n):r.map bG=aP (fun i=> .int .i64 ((r[i]?.getD 0:Nat):Int)) n:=by
 apply aq3;intro i;by_cases hi:i<n
 ·rw[dN hi,ar6,ar3 E];rfl
 ·rw[ar4 (by simp;omega),ar4 (by rw[cM];omega)]
theorem mQ{t:List Int}(h:oJ t):aU t:=by
 intro x hx;obtain⟨i,hi,rfl⟩:=as4 hx;have :=h i hi;rwa[bW hi]at this
def pN(w:World)(v:Value):Nat:=match v with
 | .pointer (some p)=>(match w.cell? p with | some (.int _ x)=>x.toNat | _=>0)
 | _=>0
theorem xU{w:World}{p:Addr}{k:IntKind}{x:Nat}(h:w.cell? p=some (.int k (x:Int))):pN w (.pointer (some p))=x:=by
 unfold pN;simp only[h];omega
theorem zT(f:Nat→Int){n i:Nat}(h:i<n):sy ((List.range n).map f) i=f i:=by unfold sy;simp[h]
def ac8(B:Nat)(w wr:World)(l:List Int)(n bn br qr c1:Nat)(v7 v9:Value):Prop:=
 ∃(bw gn g c2 c3 wide:Nat) (rk:List Int) (fn:Nat→Int) (r:List Nat),v7= .slice (some ⟨gn,0,none⟩) n c2∧v9= .pointer (some ⟨bw,0,none⟩)∧wr.heap[bw]? =some (.cells #[.int .i64 wide] 3 (0,0))∧
  RowsSt B wr n bn br qr gn g c1 c2 c3 (fun i=>((r[i]?.getD 0:Nat):Int)) fn (sy rk)∧RankOf l wide rk∧r.Perm (List.range n)∧0<wide∧(wide<n∨wide=1)∧(∀i,i<n→sy rk i≤1000000)∧bw≠qr∧bw≠gn∧bw≠g∧B≤bw∧Below B w wr
structure RgI (W0:World) (n:Nat) (f3:Nat→Int) (b1 b3 b5 b6 b8:Bool) (q1 q3 c3 q5 q6:Nat) (W:World):Prop where
 bl:Below W0.heap.size W0 W
 o1:b1=true→W.heap[q1]? =some (.cells (aP (fun _=> .int .i64 0) n).toArray 3 (0,0))∧W0.heap.size≤q1∧q1<W.heap.size
 o3:b3=true→W.ownsRow W0.heap.size 3 1 (.slice (some ⟨q3,0,none⟩) n c3) n (aP (fun i=> .int .i64 (f3 i)) n)∧W0.heap.size≤q3∧q3<W.heap.size
 o5:b5=true→W.heap[q5]? =some (.cells (aP (fun _=> .int .i64 0) n).toArray 3 (0,0))∧W0.heap.size≤q5∧q5<W.heap.size
 o6:b6=true→W.heap[q6]? =some (.cells #[if b8 then .slice (some ⟨q3,0,none⟩) n c3 else .slice none 0 0] 36 (0,0))∧W0.heap.size≤q6∧q6<W.heap.size
 ne:(b1=true→b3=true→q1≠q3)∧(b1=true→b5=true→q1≠q5)∧(b1=true→b6=true→q1≠q6)∧(b3=true→b5=true→q3≠q5)∧(b3=true→b6=true→q3≠q6)∧(b5=true→b6=true→q5≠q6)
 b8:b8=true→b3=true
section
variable {W0 W W':World}{n q1 q3 c3 q5 q6 q:Nat}{f3:Nat→Int}{b1 b3 b5 b6 b8:Bool}
theorem RgI.grow (h:RgI W0 n f3 b1 b3 b5 b6 b8 q1 q3 c3 q5 q6 W)(hb:Below W.heap.size W W'):RgI W0 n f3 b1 b3 b5 b6 b8 q1 q3 c3 q5 q6 W':=by
 have hs:=hb.size;have hc:Chg (fun _=>False) W W':=Chg.of_below hb;exact⟨h.bl.trans (hb.mono h.bl.size),fun e=>by obtain⟨x,y,z⟩:=h.o1 e;exact⟨hc.heap x id,y,E⟩,fun e=>by obtain⟨x,y,z⟩:=h.o3 e;exact⟨hc.own x (fun _ _ hf=>hf),y,E⟩,
  fun e=>by obtain⟨x,y,z⟩:=h.o5 e;exact⟨hc.heap x id,y,E⟩,fun e=>by obtain⟨x,y,z⟩:=h.o6 e;exact⟨hc.heap x id,y,E⟩,h.ne,h.b8⟩
theorem RgI.zero (hb:Below W0.heap.size W0 W):RgI W0 n f3 false false false false false q1 q3 c3 q5 q6 W:=⟨hb,Es,Es,Es,Es,Es,Es⟩
theorem RgI.mk1 (h:RgI W0 n f3 false b3 b5 b6 b8 q1 q3 c3 q5 q6 W):RgI W0 n f3 true b3 b5 b6 b8 W.heap.size q3 c3 q5 q6 (W.alloc (.cells (aP (fun _=> .int .i64 0) n).toArray 3)):=by
 obtain⟨k0,_,k3,k5,k6,⟨n1,n2,n3,n4,n5,n6⟩,k8⟩:=h.grow (aC W (.cells (aP (fun _=> .int .i64 0) n).toArray 3));exact⟨k0,fun _=>⟨aH5 W _,h.bl.size,Es⟩,k3,k5,k6,⟨fun _ e=>by have :=(h.o3 e).2.2;omega,fun _ e=>by have :=(h.o5 e).2.2;omega,fun _ e=>by have :=(h.o6 e).2.2;omega,n4,n5,n6⟩,k8⟩
theorem RgI.mk5 (h:RgI W0 n f3 b1 b3 false b6 b8 q1 q3 c3 q5 q6 W):RgI W0 n f3 b1 b3 true b6 b8 q1 q3 c3 W.heap.size q6 (W.alloc (.cells (aP (fun _=> .int .i64 0) n).toArray 3)):=by
 obtain⟨k0,k1,k3,_,k6,⟨n1,n2,n3,n4,n5,n6⟩,k8⟩:=h.grow (aC W (.cells (aP (fun _=> .int .i64 0) n).toArray 3));exact⟨k0,k1,k3,fun _=>⟨aH5 W _,h.bl.size,Es⟩,k6,⟨n1,fun e _=>by have :=(h.o1 e).2.2;omega,n3,fun e _=>by have :=(h.o3 e).2.2;omega,n5,fun _ e=>by have :=(h.o6 e).2.2;omega⟩,k8⟩
theorem RgI.mk6 (h:RgI W0 n f3 b1 b3 b5 false false q1 q3 c3 q5 q6 W):RgI W0 n f3 b1 b3 b5 true false q1 q3 c3 q5 W.heap.size (W.alloc (.cells #[.slice none 0 0] 36)):=by
 obtain⟨k0,k1,k3,k5,_,⟨n1,n2,n3,n4,n5,n6⟩,k8⟩:=h.grow (aC W (.cells #[.slice none 0 0] 36));exact⟨k0,k1,k3,k5,fun _=>⟨aH5 W _,h.bl.size,Es⟩,⟨n1,n2,fun e _=>by have :=(h.o1 e).2.2;omega,n4,fun e _=>by have :=(h.o3 e).2.2;omega,fun e _=>by have :=(h.o5 e).2.2;omega⟩,k8⟩
theorem RgI.mk3 (h:RgI W0 n f3 b1 false b5 b6 false q1 q3 c3 q5 q6 W){c:Nat}(ho:W'.ownsRow W.heap.size 3 1 (.slice (some ⟨q,0,none⟩) n c) n (aP (fun i=> .int .i64 (f3 i)) n))(hb:Below W.heap.size W W'):RgI W0 n f3 b1 true b5 b6 false q1 q c q5 q6 W':=by
 obtain⟨k0,k1,_,k5,k6,⟨n1,n2,n3,n4,n5,n6⟩,k8⟩:=h.grow hb;have hq:W.heap.size≤q∧q<W'.heap.size:=bX ho rfl;have hz:=h.bl.size;exact⟨k0,k1,fun _=>⟨mV ho hz,E,hq.2⟩,k5,k6,⟨fun e _=>by have :=(h.o1 e).2.2;omega,n2,n3,fun _ e=>by have :=(h.o5 e).2.2;omega,fun _ e=>by have :=(h.o6 e).2.2;omega,n6⟩,fun e=>nomatch e⟩
theorem RgI.mk8 (h:RgI W0 n f3 b1 true b5 true false q1 q3 c3 q5 q6 W):RgI W0 n f3 b1 true b5 true true q1 q3 c3 q5 q6 (W.setCell ⟨q6,0,none⟩ (.slice (some ⟨q3,0,none⟩) n c3)):=by
 obtain⟨k0,k1,k3,k5,k6,⟨n1,n2,n3,n4,n5,n6⟩,k8⟩:=h;have hc:Chg (fun j=>j=q6) W (W.setCell ⟨q6,0,none⟩ (.slice (some ⟨q3,0,none⟩) n c3)):=(Chg.refl (S:=fun j=>j=q6) (w:=W)).setCell ⟨q6,0,none⟩ (Ei rfl) _;obtain⟨x6,y6,z6⟩:=k6 rfl;have hs:(W.setCell ⟨q6,0,none⟩ (.slice (some ⟨q3,0,none⟩) n c3)).heap.size=W.heap.size:=by simp[World.setCell]
 refine⟨k0.trans (hc.below (fun j e=>E) k0.size),fun e=>?_,fun e=>?_,fun e=>?_,fun e=>⟨aH6 W q6 0 _ _ _ x6,y6,E⟩,⟨n1,n2,n3,n4,n5,n6⟩,fun _=>rfl⟩
 ·obtain⟨x,y,z⟩:=k1 e;exact⟨hc.heap x (n3 e rfl),y,E⟩
 ·obtain⟨x,y,z⟩:=k3 e;exact⟨hc.own x (fun k hk hf=>by have hk:some q3=some k:=hk;injection hk with hk;exact n5 rfl rfl (hk.trans hf)),y,E⟩
 ·obtain⟨x,y,z⟩:=k5 e;exact⟨hc.heap x (n6 e rfl),y,E⟩
end
theorem Gc(a:Option Addr)(c:Nat)(t:List Int)(w:World)(hr:Reads w .u8 a t)(hb:oJ t)(hl:t.length≤1000000):
  Calls Tryz.prog 49 #[.slice a t.length c] w (Df w.heap.size w (aA t)):=by
 go_enter Tryz.func49,Tryz.ntmps49;go_wp2_with fail;have hb0:=aC w (.cells #[.slice a t.length c] 32);refine(Lp w.heap.size 1 a c t _ Es Es (hr.below hb0) hb E).mono ?_;rintro e w1 ⟨v,rfl,hown,hb1⟩;obtain⟨g0,cap0,rfl,hg1,hg2,_,_,hcell,_⟩:=cL hown E;have hbw:Below w.heap.size w w1:=hb0.trans (hb1.mono Es);have hls:(aA t).length=t.length+1:=aI t;have hrc:∀j,j<t.length+1→w1.cell? ⟨g0,j,none⟩=some (.int .i64 (sy (aA t) j)):=by
  intro j hj;rw[hcell j hj];have e:t.map lT++[.int .i64 0]=(aA t).map (Value.int .i64):=by simp[aA,lT,Function.comp]
  rw[e,ar6,ar3 E,jY E];rfl
 have hgw:g0<w1.heap.size:=hg2;have hgb:w.heap.size≤g0:=by simp at hg1;omega
 clear hown hcell hb0 hb1 hg1 hg2;go_upto_region 3 with fail
 have ecast:((t.length:Int)+1)=((t.length+1:Nat):Int):=E;rw[ecast];obtain⟨n,hn⟩:∃n,t.length+1=n:=⟨_,rfl⟩;have hn0:0<n:=E;have hnm:n≤1000001:=E;rw[hn]at hls hrc⊢;have HN:=θ hn;have HLS:=θ hls;have HRC:=θ hrc;have HBW:=θ hbw;obtain⟨bn,hbn⟩:∃bn,w1.heap.size=bn:=⟨_,rfl⟩;obtain⟨w2,hw2⟩:∃w2,w1.alloc (.cells #[.int .i64 n] 3)=w2:=⟨_,rfl⟩;have hc2:w2.cell? ⟨bn,0,none⟩=some (.int .i64 n):=by rw[←hw2,←hbn];simp
 have hs2:bn<w2.heap.size:=by rw[←hw2,←hbn];simp
 rw[hbn,hw2];have HW2:=θ hw2;have HBN:=θ hbn;have hmk:=Bk n E;have HB2:Hid (∀W,Below w2.heap.size w2 W→∀j,j<n→W.cell? ⟨g0,j,none⟩=some (.int .i64 (sy (aA t) j))):=by
  intro W hW j hj;rw[hW.cell (p:=⟨g0,j,none⟩) (by show g0<_;rw[←HW2.o];simp;omega),←HW2.o];rw[(aC w1 _).cell (p:=⟨g0,j,none⟩) (by show g0<_;omega)];exact HRC.o j hj
 have HCL:Hid (∀W,Below w2.heap.size w2 W→Calls Tryz.prog 92 #[.slice (some ⟨g0,0,none⟩) n cap0] W (Pg n (aA t) W)):=by
  intro W hW;exact Qa (w0:=W) (HB2.o W hW) (by
                         have :=hW.size;have :g0<w2.heap.size:=by rw[←HW2.o];simp;omega
                         omega) (am4 _ _) HLS.o hn0 E
 clear hls hrc hbw hn hw2 hbn;have HB0:Hid (Below w2.heap.size w2 w2.drew):=(am4 _ _).drew;have HH:Hid (∀W,Below w2.heap.size w2 W→W.cell? ⟨bn,0,none⟩=some (.int .i64 n)):=fun W h=>(h.cell (p:=⟨bn,0,none⟩) hs2).trans hc2;have HN2:Hid (∀W,Below w2.heap.size w2 W→W.heap[bn]? =some (.cells #[.int .i64 n] 3 (0,0))):=fun W h=>(h.block bn hs2).trans (by rw[←HW2.o,←HBN.o];exact aH5 _ _);have hbnB:w.heap.size≤bn:=by rw[←HBN.o];exact HBW.o.size
 go_cut [5,6,7] (fun r5 r6 r7 wx=>∃br qr gn g c1 c2 c3,r5= .slice (some ⟨qr,0,none⟩) n c1∧r6= .pointer (some ⟨br,0,none⟩)∧r7= .slice (some ⟨gn,0,none⟩) n c2∧RowsSt w.heap.size wx n bn br qr gn g c1 c2 c3 (fun _=>0) (fun _=>0) (sy (aA t))∧Below w2.heap.size w2 wx);case first=>as_aux_lemma=>
  clear hc2;obtain⟨F,hF⟩:∃F:Value→Value→Value→Value→Value→Value→Value→Value→Value→Act,F=fun s5 s6 s7 s18 s19 s20 s21 s22 s23=>{tmps:=#[.slice a t.length c,undef, .slice none 0 0, .slice (some ⟨g0,0,none⟩) n cap0, .pointer (some ⟨bn,0,none⟩),s5,s6,s7,undef,undef,undef,undef,undef, .slice a t.length c, .slice (some ⟨w.heap.size,0,none⟩) 1 1, .slice (some ⟨g0,0,none⟩) n cap0, .slice (some ⟨g0,0,none⟩) n cap0, .int .i64 n,s18,s19,s20,s21,s22,s23,undef,undef,undef,undef,undef,undef,undef,undef,undef,undef,undef,undef,undef,undef,undef,undef,undef,undef,undef,undef,undef,undef,undef,undef,undef,undef,undef,undef,undef,undef,undef,undef,undef,undef,undef,undef,undef,undef,undef,undef,undef,undef,undef,undef,undef,undef,undef,undef,undef,undef,undef,undef,undef,undef,undef,undef,undef,undef,undef,undef,undef,undef,undef,undef,undef,undef,undef,undef,undef,undef,undef,undef,undef,undef,undef,undef,undef],defers:=[]}:=⟨_,rfl⟩;refine Zi (fun l a w=>∃(b0 b1 b2 b3 b4 b5 b6 b7 b8 b9:Bool) (q1 q3 k3 q5 q6:Nat),l=#[b0,b1,b2,b3,b4,b5,b6,b7,b8,b9]∧
   a=F (if b7 then .slice (some ⟨q1,0,none⟩) n n else undef) (if b6 then .pointer (some ⟨q6,0,none⟩)else undef) (if b9 then .slice (some ⟨q5,0,none⟩) n n else undef) (if b0 then .int .i64 n else undef) (if b1 then .slice (some ⟨q1,0,none⟩) n n else undef) (if b2 then .slice (some ⟨g0,0,none⟩) n cap0 else undef) (if b3 then .slice (some ⟨q3,0,none⟩) n k3 else undef) (if b4 then .int .i64 n else undef) (if b5 then .slice (some ⟨q5,0,none⟩) n n else undef)∧
   (b7=true→b1=true)∧(b8=true→b6=true)∧(b9=true→b5=true)∧RgI w2 n (sy (aA t)) b1 b3 b5 b6 b8 q1 q3 k3 q5 q6 w) Ek ?hz ?h0 ?hs ?he Ek
  case hz=>rintro l A W ⟨b0,b1,b2,b3,b4,b5,b6,b7,b8,b9,q1,q3,k3,q5,q6,rfl,_⟩;rfl
  case h0=>
   exact⟨false,false,false,false,false,false,false,false,false,false,0,0,0,0,0,rfl,by rw[hF];rfl,Es,Es,Es,RgI.zero HB0.o⟩
  case he=>
   rintro l A W ⟨b0,b1,b2,b3,b4,b5,b6,b7,b8,b9,q1,q3,k3,q5,q6,rfl,rfl,_,_,_,hI⟩ hall;obtain rfl:b0=true:=hall 0 Ed;obtain rfl:b1=true:=hall 1 Ed;obtain rfl:b2=true:=hall 2 Ed;obtain rfl:b3=true:=hall 3 Ed;obtain rfl:b4=true:=hall 4 Ed;obtain rfl:b5=true:=hall 5 Ed;obtain rfl:b6=true:=hall 6 Ed;obtain rfl:b7=true:=hall 7 Ed;obtain rfl:b8=true:=hall 8 Ed;obtain rfl:b9=true:=hall 9 Ed;have HI:=θ hI;clear hI hall;simp only[aI0];rw[hF];clear hF F;go_wp2_with fail;go_meet;case rel=>
    obtain⟨k0,k1,k3',k5,k6,⟨n1,n2,n3,n4,n5,n6⟩,_⟩:=HI.o;obtain⟨x1,y1,z1⟩:=k1 rfl;obtain⟨x3,y3,z3⟩:=k3' rfl;obtain⟨x5,y5,z5⟩:=k5 rfl;obtain⟨x6,y6,z6⟩:=k6 rfl;have hbw0:w.heap.size≤w2.heap.size:=by have :=HBW.o.size;rw[←HW2.o];simp;omega
    exact⟨q6,q1,q5,q3,n,n,k3,rfl,rfl,rfl,⟨HN2.o _ k0,x6,vY x1 E (by unfold maxLen;omega),vY x5 E (by unfold maxLen;omega),mV x3 hbw0,by have :=n1 rfl rfl;have :=n2 rfl rfl;have :=n3 rfl rfl;have :=n4 rfl rfl;have :=n5 rfl rfl;have :=n6 rfl rfl;omega,E,E⟩,k0⟩
  case hs=>
   rintro l A W i ⟨b0,b1,b2,b3,b4,b5,b6,b7,b8,b9,q1,q3,k3,q5,q6,rfl,rfl,h71,h86,h95,hI⟩ hi;obtain⟨hf,o,ho,hall⟩:=mem_ready.1 hi;clear hi;have hbn:W.cell? ⟨bn,0,none⟩=some (.int .i64 n):=HH.o _ hI.bl;have HI:=θ hI;clear hI;rw[hF];match i,hf,ho,hall with
   | 0,hf,ho,hall=>
    obtain rfl:b0=false:=hf;refine lA rfl rfl (fun K hK=>?_);go_simp;exact hK.out _ _ ⟨true,b1,b2,b3,b4,b5,b6,b7,b8,b9,q1,q3,k3,q5,q6,rfl,rfl,h71,h86,h95,HI.o⟩
   | 1,hf,ho,hall=>
    obtain rfl:b1=false:=hf;injection ho with ho
    subst ho;obtain rfl:b0=true:=hall ⟨0, .data⟩ Es rfl;obtain rfl:b7=false:=by cases b7 with | false=>rfl | true=>exact absurd (h71 rfl) Ed
    refine lA rfl rfl (fun K hK=>?_);go_simp;exact hK.out _ _ ⟨true,true,b2,b3,b4,b5,b6,false,b8,b9,W.heap.size,q3,k3,q5,q6,rfl,rfl,fun _=>rfl,h86,h95,HI.o.mk1⟩
   | 2,hf,ho,hall=>
    obtain rfl:b2=false:=hf;refine lA rfl rfl (fun K hK=>?_);go_simp;exact hK.out _ _ ⟨b0,b1,true,b3,b4,b5,b6,b7,b8,b9,q1,q3,k3,q5,q6,rfl,rfl,h71,h86,h95,HI.o⟩
   | 3,hf,ho,hall=>
    obtain rfl:b3=false:=hf;injection ho with ho
    subst ho;obtain rfl:b2=true:=hall ⟨2, .data⟩ Es rfl;obtain rfl:b8=false:=by cases b8 with | false=>rfl | true=>exact absurd (HI.o.b8 rfl) Ed
    refine lA rfl rfl (fun K hK=>?_);go_simp;refine(HCL.o _ HI.o.bl).mono ?_;rintro e x2 ⟨q,cp,rfl,hown,hbC⟩;have HI2:=θ (HI.o.mk3 hown hbC);clear hown hbC;exact hK.out _ _ ⟨b0,b1,true,true,b4,b5,b6,b7,false,b9,q1,q,cp,q5,q6,rfl,rfl,h71,h86,h95,HI2.o⟩
   | 4,hf,ho,hall=>
    obtain rfl:b4=false:=hf;refine lA rfl rfl (fun K hK=>?_);go_simp;exact hK.out _ _ ⟨b0,b1,b2,b3,true,b5,b6,b7,b8,b9,q1,q3,k3,q5,q6,rfl,rfl,h71,h86,h95,HI.o⟩
   | 5,hf,ho,hall=>
    obtain rfl:b5=false:=hf;injection ho with ho
    subst ho;obtain rfl:b4=true:=hall ⟨4, .data⟩ Es rfl;obtain rfl:b9=false:=by cases b9 with | false=>rfl | true=>exact absurd (h95 rfl) Ed
    refine lA rfl rfl (fun K hK=>?_);go_simp;exact hK.out _ _ ⟨b0,b1,b2,b3,true,true,b6,b7,b8,false,q1,q3,k3,W.heap.size,q6,rfl,rfl,h71,h86,fun _=>rfl,HI.o.mk5⟩
   | 6,hf,ho,hall=>
    obtain rfl:b6=false:=hf;obtain rfl:b8=false:=by cases b8 with | false=>rfl | true=>exact absurd (h86 rfl) Ed
    refine lA rfl rfl (fun K hK=>?_);go_simp;exact hK.out _ _ ⟨b0,b1,b2,b3,b4,b5,true,b7,false,b9,q1,q3,k3,q5,W.heap.size,rfl,rfl,h71,fun _=>rfl,h95,HI.o.mk6⟩
   | 7,hf,ho,hall=>
    obtain rfl:b7=false:=hf;injection ho with ho
    subst ho;obtain rfl:b1=true:=hall ⟨1, .data⟩ Es rfl;refine lA rfl rfl (fun K hK=>?_);go_simp;exact hK.out _ _ ⟨b0,true,b2,b3,b4,b5,b6,true,b8,b9,q1,q3,k3,q5,q6,rfl,rfl,fun _=>rfl,h86,h95,HI.o⟩
   | 8,hf,ho,hall=>
    obtain rfl:b8=false:=hf;injection ho with ho
    subst ho;obtain rfl:b6=true:=hall ⟨6, .data⟩ Es rfl;obtain rfl:b3=true:=hall ⟨3, .data⟩ Es rfl;refine lA rfl rfl (fun K hK=>?_);have x6:=(HI.o.o6 rfl).1;have c6:=aG7 W q6 0 _ _ _ x6;have f6:=aH3 W q6 0 _ _ x6;clear x6;go_simp;exact hK.out _ _ ⟨b0,b1,b2,true,b4,b5,true,b7,true,b9,q1,q3,k3,q5,q6,rfl,rfl,h71,fun _=>rfl,h95,HI.o.mk8⟩
   | 9,hf,ho,hall=>
    obtain rfl:b9=false:=hf;injection ho with ho
    subst ho;obtain rfl:b5=true:=hall ⟨5, .data⟩ Es rfl;refine lA rfl rfl (fun K hK=>?_);go_simp;exact hK.out _ _ ⟨b0,b1,b2,b3,b4,true,b6,b7,b8,true,q1,q3,k3,q5,q6,rfl,rfl,h71,h86,fun _=>rfl,HI.o⟩
   | n+10,hf,_,_=>simp at hf
 case rest=>
  obtain⟨br,qr,gn,g,c1,c2,c3,rfl,rfl,rfl,hst,hb⟩:=hcut;have hbw:Below w.heap.size w wc:=by
   have h1:Below w.heap.size w w2:=by rw[←HW2.o];exact HBW.o.alloc HBW.o.size _
   exact h1.trans (hb.mono h1.size)
  have hn63:(n:Int)≤1000001:=E;clear hc2 hb HB0 HH HN2 HCL HRC hmk hr;go_wp2_with fail;go_loopw [26,8] (fun i s8 wr=>∃k:Nat,k≤n∧i= .int .i64 k∧RowsSt w.heap.size wr n bn br qr gn g c1 c2 c3 (fun j=>if j<k then (j:Int)else 0) (fun _=>0) (sy (aA t))∧Below w.heap.size w wr) (fun i _ _=>n-(intOf i).toNat);case atStart=>exact⟨0,aC8 _,rfl,hst.congr (fun i _=>Es) (fun _ _=>rfl) (fun _ _=>rfl),hbw⟩
  case round=>
   clear hst hbw;obtain⟨k,hk,rfl,hst,hbw⟩:=hrel;have hs:=hbw.size;by_cases hlt:k<n
   ·obtain⟨_,_,d3,_,_,d6,_,_⟩:=hst.cells;have e3:=d3 k hlt;have e6:=d6 k;simp only[aA7,aH7]at e3;have HST:=θ hst;have hq:=(bX hst.rows (k:=qr) rfl).1;clear d3 d6 hst;go_wp2_with fail;go_roundw;case rel=>
     refine⟨k+1,E,by go_num,(HST.o.setRows k k).congr (fun i _=>?_) (fun _ _=>rfl) (fun _ _=>rfl),lW hbw hs hq _⟩;by_cases e:i=k
     ·subst e;simp
     ·rw[aH8 e];by_cases e2:i<k
      ·rw[aH9 e2,aH9 E]
      ·rw[aH8 e2,aH8 E]
    case measure=>simp[intOf];omega
   ·obtain rfl:k=n:=E;have hst:=hst.congr (fr':=fun i=>(((List.range k)[i]?.getD 0:Nat):Int)) (fun i hi=>by simp[hi]) (fun _ _=>rfl) (fun _ _=>rfl);have HST:=θ hst;have HBW:=θ hbw;clear hst;go_wp2_with fail;go_loopw [7,9] (fun v7 v9 wr=>ac8 w.heap.size w wr (aA t) k bn br qr c1 v7 v9) (fun _ v9 wr=>k+1-pN wr v9);case atStart=>
     have hbw:=HBW.o;have hs:=hbw.size;have hal:=aH5 wr (.cells #[.int .i64 1] 3);have hst2:=HST.o.still (aC wr (.cells #[.int .i64 1] 3));have l1:=(bX HST.o.rows (k:=qr) rfl).2;have l2:=(bX HST.o.next (k:=gn) rfl).2;have l3:=(bX HST.o.rank (k:=g) rfl).2;refine⟨wr.heap.size,gn,g,c2,c3,1,aA t,_,List.range k,rfl,rfl,hal,hst2,Nk (dY (mQ hb)).nn,ao5 _,E,Ej rfl,?_,E,E,E,hs,hbw.alloc hs _⟩;intro i hi;have :=(lB (mQ hb)) (sy (aA t) i) (by rw[jY (by rw[HLS.o];exact hi)];exact as3 _);omega
    case round=>
     clear hbw HST HBW hs hlt;obtain⟨wo,rfl⟩:∃wo:World,wo=wr:=⟨_,rfl⟩;obtain⟨bw,gn,g,c2,c3,wide,rk,fn,r,rfl,rfl,hbx,hst,hrk,hp,hw0,hw1,hrm,hq1,hq2,hq3,hbB,hbw⟩:=hrel;have hs:=hbw.size;have hrkl:rk.length=k:=by rw[hrk.len];exact HLS.o
     have hrl:r.length=k:=by have :=hp.length_eq;simpa using this
     have hwm:wide≤1000001:=E;have HMEA:Hid (pN wo (.pointer (some ⟨bw,0,none⟩))=wide):=xU (aG7 wo bw 0 _ _ _ hbx);have hst2:=hst.still (aC wo (.cells #[.func (.func 93) #[] #[.pointer (some ⟨bw,0,none⟩), .pointer (some ⟨bn,0,none⟩), .pointer (some ⟨br,0,none⟩)]] 87));have hbx2:=Lt (aC wo (.cells #[.func (.func 93) #[] #[.pointer (some ⟨bw,0,none⟩), .pointer (some ⟨bn,0,none⟩), .pointer (some ⟨br,0,none⟩)]] 87)) hbx;have hbf:=aH5 wo (.cells #[.func (.func 93) #[] #[.pointer (some ⟨bw,0,none⟩), .pointer (some ⟨bn,0,none⟩), .pointer (some ⟨br,0,none⟩)]] 87);have hbw2:=hbw.alloc hs (.cells #[.func (.func 93) #[] #[.pointer (some ⟨bw,0,none⟩), .pointer (some ⟨bn,0,none⟩), .pointer (some ⟨br,0,none⟩)]] 87);go_wp2_with fail;have l1:=(bX hst.rows (k:=qr) rfl);have l2:=(bX hst.next (k:=gn) rfl);have l3:=(bX hst.rank (k:=g) rfl);have l4:=(am0.1 hst.nb).1;have l5:=(am0.1 hst.rb).1;have l6:=(am0.1 hbx).1;generalize wo.alloc (.cells #[.func (.func 93) #[] #[.pointer (some ⟨bw,0,none⟩), .pointer (some ⟨bn,0,none⟩), .pointer (some ⟨br,0,none⟩)]] 87)=w3 at *;generalize wo.heap.size=bf at *;have hrkb:∀i,-1≤sy rk i∧sy rk i≤1000000000:=by
      intro i;by_cases hi:i<rk.length
      ·have a1:=hrk.nn i hi;have a2:=hrm i E;omega
      ·rw[dL E];omega
     obtain⟨d1,d2,d3,d4,d5,d6,d7,d8⟩:=hst2.cells;have hsort:=Ty (l:=aA t) (r:=r) (capr:=c1) (B:=w.heap.size) ⟨by rw[aG7 w3 bw 0 _ _ _ hbx2];rfl,by rw[hrkl];exact d1,by rw[hrkl];exact d2,fun i hi=>d5 i E⟩
      (by rw[aG7 w3 bf 0 _ _ _ hbf];rfl) hrk (by rw[HLS.o];exact hp) (by rw[vV hrl,hrl];exact hst2.rows) ⟨hq1,hst.ne.2.2.2.1,hst.ne.2.2.2.2.2.2.1,E,fun e=>hst.ne.2.1 e.symm⟩ (by rw[HLS.o];exact hn0) (by rw[HLS.o];omega) E hrkb
     rw[hrl]at hsort;clear d1 d2 d3 d4 d5 d6 d7 d8;refine hsort.mono ?_;clear hsort;rintro e w4 ⟨rfl,r',hsk,hl',hown',hchg⟩;have hst4:=hst2.newRows hchg (fr':=fun i=>((r'[i]?.getD 0:Nat):Int)) (by rw[←vV hl'];exact hown');have hbx4:=hchg.heap hbx2 (fun e=>hq1 e);have hbf4:=hchg.heap hbf (fun e=>by have e:bf=qr:=e;omega);have hbw4:Below w.heap.size w w4:=hbw2.trans (hchg.below (B:=w.heap.size) (fun b h=>by rw[h];exact l1.1) hbw2.size);have hr'lt:∀i,i<k→r'[i]?.getD 0<k:=by
      intro i hi;have h1:i<r'.length:=E;have h2:=ax4.1 (hsk.1.mem_iff.1 (as3 h1));have h3:=HLS.o;rw[bW h1];omega
     clear hown' hchg hst2 hbx2 hbf hbw2 hst hbx hp hrl l4 l5;clear hrm;obtain⟨d1,d2,d3,d4,d5,d6,d7,d8⟩:=hst4.cells;have e1:=d3 0 hn0;have hr0:=hr'lt 0 hn0;have e2:=d4 (r'[0]?.getD 0) hr0;have e3:=d7 (r'[0]?.getD 0);have hst5:=hst4.setNext (r'[0]?.getD 0) 0;have HST5:=θ hst5;have HBX4:=θ hbx4;have HBF4:=θ hbf4;have HSK:=θ hsk;have HRT:=θ hr'lt;have HRK:=θ hrk;have HRKB:=θ hrkb;have HRKL:=θ hrkl;have HL':=θ hl';clear d1 d2 d3 d4 d5 d6 d7 d8 hst4 hst5 hbx4 hbf4 hsk hr'lt hrk hrkb hrkl hl';generalize hr0e:r'[0]?.getD 0=r0 at *;have HR0:=θ hr0e;clear hr0e;go_wp2_with fail;obtain⟨wq,rfl⟩:∃wq:World,wq=w4:=⟨_,rfl⟩;go_loopw [12] (fun v12 wr=>∃(j:Nat) (fn:Nat→Int),1≤j∧j≤k∧v12= .int .i64 j∧RowsSt w.heap.size wr k bn br qr gn g c1 c2 c3 (fun i=>((r'[i]?.getD 0:Nat):Int)) fn (sy rk)∧
      wr.heap[bw]? =some (.cells #[.int .i64 wide] 3 (0,0))∧
      wr.heap[bf]? =some (.cells #[.func (.func 93) #[] #[.pointer (some ⟨bw,0,none⟩), .pointer (some ⟨bn,0,none⟩), .pointer (some ⟨br,0,none⟩)]] 87 (0,0))∧
      (∀i,i<j→fn (r'[i]?.getD 0)=(cS rk wide r' i:Int))∧Below w.heap.size w wr) (fun v12 _=>k-(intOf v12).toNat)
     case atStart=>
      have hc:Chg (fun b=>b=gn) wq (wq.setCell ⟨gn,r0,none⟩ (.int .i64 0)):=Chg.refl.setCell (S:=fun b=>b=gn) ⟨gn,r0,none⟩ (Ei rfl) _;refine⟨1,_,E,E,rfl,HST5.o,hc.heap HBX4.o (fun e=>hq2 e),hc.heap HBF4.o (fun e=>by have e:bf=gn:=e;omega),?_,hbw4.trans (hc.below (fun b h=>by rw[h];exact l2.1) hbw4.size)⟩;intro i hi;obtain rfl:i=0:=E;rw[HR0.o,aH9 rfl];rfl
     case round=>
      clear hbw4 HST5 HBX4 HBF4 e1 e2 e3 hs hbw;obtain⟨j,fn,hj1,hj2,rfl,hst,hbx,hbf,hcnt,hbw⟩:=hrel;have hs:=hbw.size;have HST:=θ hst;have HBX:=θ hbx;have HBF:=θ hbf;have HCNT:=θ hcnt;obtain⟨d1,d2,d3,d4,d5,d6,d7,d8⟩:=hst.cells;by_cases hlt:j<k
      ·obtain⟨i,rfl⟩:∃i,j=i+1:=⟨j-1,E⟩;have e1:=d3 (i+1) hlt;have e2:=d3 i E;have ha:=HRT.o (i+1) hlt;have hb':=HRT.o i E;have e3:=d4 (r'[i]?.getD 0) hb';have e4:=d4 (r'[i+1]?.getD 0) ha;have e5:=d7 (r'[i+1]?.getD 0);have e6:w.heap.size≤gn:=l2.1;clear d2 d3 d4 d5 d6 d7 d8 hst hbx hbf hcnt;generalize hae:r'[i+1]?.getD 0=ra at *;generalize hbe:r'[i]?.getD 0=rb at *;have HAE:=θ hae;have HBE:=θ hbe;clear hae hbe;generalize hxe:fn rb=x at *;generalize hye:fn ra=y at *;have HXE:=θ hxe;have HYE:=θ hye;clear hxe hye;have hx:x=(cS rk wide r' i:Int):=by rw[←HXE.o,←HBE.o];exact HCNT.o i E
       have hxl:=pO rk wide r' i;have hx0:0≤x:=E;have hx1:x≤1000001:=E;have HX:=θ hx;have hc6:Chg (fun b=>b=gn) wr (wr.setCell ⟨gn,ra,none⟩ (.int .i64 x)).drew:=(Chg.refl.setCell (S:=fun b=>b=gn) ⟨gn,ra,none⟩ (Ei rfl) _).drew;have HST6:Hid (RowsSt w.heap.size (wr.setCell ⟨gn,ra,none⟩ (.int .i64 x)).drew k bn br qr gn g c1 c2 c3 (fun i=>((r'[i]?.getD 0:Nat):Int)) (fun z=>if z=ra then x else fn z) (sy rk)):=(HST.o.setNext ra x).drewN 1;have HBX6:=θ (hc6.heap HBX.o (fun e=>hq2 e));have HBF6:=θ (hc6.heap HBF.o (fun e=>by have e:bf=gn:=e;omega));have HBW6:=θ (hbw.trans (hc6.below (B:=w.heap.size) (fun b h=>by rw[h];exact l2.1) hbw.size));have hlast:cS rk wide r' (i+1)=cS rk wide r' i+(if fR rk wide rb ra=0 then 0 else 1):=by rw[←HAE.o,←HBE.o];rfl
       have HLAST:=θ hlast;have hnd:∀z,z≤i→r'[z]?.getD 0≠ra:=by
        intro z hz e;have hn:r'.Nodup:=HSK.o.1.nodup_iff.2 ax9;have h1:z<r'.length:=by have :=HL'.out;omega
        have h2:i+1<r'.length:=by have :=HL'.out;omega
        rw[←HAE.o,bW h1,bW h2]at e;exact ay2.1 hn z (i+1) h1 h2 E e
       have HND:=θ hnd;clear hlast hnd hx hxl hc6;go_wp2_with fail;go_region;clear e1 e2 e3 e4 e5 d1;generalize (wr.setCell ⟨gn,ra,none⟩ (.int .i64 x)).drew=w6 at *;have HORD:Hid (∀m,Calls Tryz.prog 94 #[.int .i64 rb, .int .i64 ra, .pointer (some ⟨br,0,none⟩), .pointer (some ⟨bf,0,none⟩)] (w6.drewN m) fun e w'=>e= .returned (.int .i64 (fR rk wide rb ra))∧∃q,w'=w6.drewN q):=by
        intro m;obtain⟨d1,d2,d3,d4,d5,d6,d7,d8⟩:=HST6.o.cells;have hat:RkAt w6 bw bn br g c3 wide rk:=⟨by rw[aG7 w6 bw 0 _ _ _ HBX6.o];rfl,by rw[HRKL.o];exact d1,by rw[HRKL.o];exact d2,fun i hi=>d5 i (by have :=HRKL.o;omega)⟩;refine(Bo (hat.drewN m) (by show w6.cell? _=_;rw[aG7 w6 bf 0 _ _ _ HBF6.o];rfl) rb ra (by have :=HRKL.o;omega) (by have :=HRKL.o;omega) (by have :=HRKL.o;omega) E HRKB.o).mono ?_;rintro e w' ⟨rfl,q,rfl⟩;exact⟨rfl,_,aG0 _ _ _⟩
       obtain⟨d1,d2,d3,d4,d5,d6,d7,d8⟩:=HST6.o.cells;have e1:=d3 (i+1) hlt;have e2:=d3 i E;rw[HAE.o]at e1;rw[HBE.o]at e2;clear d1 d2 d3 d4 d5 d6 d7 d8;generalize ho:fR rk wide rb ra=o at *;have HO:=θ ho;clear ho;by_cases hoz:o=0
       ·subst hoz;go_wp2_with fail;go_quiet ((go_at_call 94;exact HORD.o _));go_wp2_with fail;go_roundw;case rel=>
         refine⟨i+2,_,E,E,by go_num,HST6.o.drewN _,HBX6.o,HBF6.o,?_,aX HBW6.o _⟩;intro z hz;by_cases e:z≤i
         ·rw[aH8 (HND.o z e)];exact HCNT.o z E
         ·obtain rfl:z=i+1:=E;have h1:=HX.o;have h2:=HLAST.o;simp only[aI0,aA0]at h2;rw[HAE.o,aH9 rfl,h2];exact h1
        case measure=>simp[intOf];omega
       ·have hob:(o != 0)=true:=by simp[hoz]
        have HOZ:=θ hoz;clear hoz;go_wp2_with fail;go_quiet ((go_at_call 94;exact HORD.o _));have HST7:Hid (RowsSt w.heap.size (w6.drewN nq) k bn br qr gn g c1 c2 c3 (fun i=>((r'[i]?.getD 0:Nat):Int)) (fun z=>if z=ra then x else fn z) (sy rk)):=HST6.o.drewN nq;have HBX7:Hid ((w6.drewN nq).heap[bw]? =_):=HBX6.o;have HBF7:Hid ((w6.drewN nq).heap[bf]? =_):=HBF6.o;have HBW7:=θ (aX HBW6.o nq);clear HORD e1 e2 HST6 HBX6 HBF6 HBW6;generalize w6.drewN nq=w7 at *;obtain⟨d1,d2,d3,d4,d5,d6,d7,d8⟩:=HST7.o.cells;have e1:=d3 (i+1) hlt;rw[HAE.o]at e1;have e2:=d4 ra ha;rw[aH9 rfl]at e2;have e3:=d7 ra;clear d1 d2 d3 d4 d5 d6 d7 d8;go_wp2_with fail;go_roundw;case rel=>
         have hc:Chg (fun b=>b=gn) w7 (w7.setCell ⟨gn,ra,none⟩ (.int .i64 (x+1))):=Chg.refl.setCell (S:=fun b=>b=gn) ⟨gn,ra,none⟩ (Ei rfl) _;refine⟨i+2,_,E,E,by go_num,HST7.o.setNext ra (x+1),hc.heap HBX7.o (fun e=>hq2 e),hc.heap HBF7.o (fun e=>by have e:bf=gn:=e;omega),?_,HBW7.o.trans (hc.below (B:=w.heap.size) (fun b h=>by rw[h];exact l2.1) HBW7.o.size)⟩;intro z hz;by_cases e:z≤i
         ·rw[aH8 (HND.o z e),aH8 (HND.o z e)];exact HCNT.o z E
         ·obtain rfl:z=i+1:=E;rw[HAE.o,aH9 rfl,HLAST.o,aH8 HOZ.o];have :=HX.o;omega
        case measure=>simp[intOf];omega
      ·obtain rfl:j=k:=E;obtain⟨i,rfl⟩:∃i,j=i+1:=⟨j-1,E⟩;have hsw:=hst.swap;have hc:Chg (fun b=>b=br) wr (wr.setCell ⟨br,0,none⟩ (.slice (some ⟨gn,0,none⟩) (i+1) c2)):=Chg.refl.setCell (S:=fun b=>b=br) ⟨br,0,none⟩ (Ei rfl) _;have hbr:br≠bw:=fun e=>by
        have h1:=hst.rb;rw[e,hbx]at h1;injection h1 with h1;injection h1 with h1 h2 _
        exact absurd h2 Ed
       have HBX8:=θ (hc.heap hbx (fun e=>hbr e.symm));have HBW8:=θ (hbw.trans (hc.below (B:=w.heap.size) (fun b h=>by rw[h];exact hst.lo.2) hbw.size));have HSW:=θ hsw;have HRW:=θ hst.rows;have hrl:=HRT.o i E;have hm:=hcnt i E;have HFN:=θ hcnt;have hml:=pO rk wide r' i;have d8':=d8 0;obtain⟨f1,f2,f3,f4,f5,f6,f7,f8⟩:=hsw.cells;have e1:=f3 i E;have e2:=f5 (r'[i]?.getD 0) hrl;rw[hm]at e2;clear hst hbx hbf hcnt hc hbr hsw d3 d4 d5 d6 d7 d8 f3 f4 f5 f6 f7 f8 hm;generalize r'[i]?.getD 0=rl at *;generalize hme:cS rk wide r' i=m at *;have HM:=θ hme;clear hme;by_cases hmi:m=i
       ·have dm:((m:Int)==(i:Int))=true:=by simp[hmi]
        have HMI:=θ hmi;clear hmi;go_wp2_with fail;go_quiet (fail);go_wp2_with fail;go_ret;have hrl:=HL'.out;refine⟨r',Te HRK.o HSK.o (by rw[hrl];show cS rk wide r' i=i;have :=HM.o;have :=HMI.o;omega),_,rfl,?_,aX HBW8.o _⟩;rw[hrl,vV hrl];exact(HSW.o.drewN nq).rows
       ·have dm:((m:Int)==(i:Int))=false:=by simp;omega
        have HMI:=θ hmi;clear hmi;have hwz:(0:Int)≤(wide:Int):=E;have hwz1:(wide:Int)≤1000001:=E;have hbq:=aG7 _ bw 0 _ _ _ HBX8.o;simp only[as0,List.getElem?_cons_zero]at hbq;go_wp2_with fail;go_quiet (fail);go_wp2_with fail;go_roundw;case rel=>
         have hrl:=HL'.out;have hls:=HLS.o;have hsk:=HSK.o;have hnn:Nn (aA t):=(dY (mQ hb)).nn;have hmore:=By hnn HRK.o hsk (by rw[hrl];show cS rk wide r' i≠i;have :=HM.o;have :=HMI.o;omega);have hfn:∀z,z<i+1→fn (r'[z]?.getD 0)=(cS rk wide r' z:Int):=HFN.o;have hrn:RankOf (aA t) (wide+wide) ((List.range (i+1)).map fn):=by
          refine Sv HRK.o hw0 hnn hsk (by simp[hls]) (fun z hz=>?_);rw[zT fn (HRT.o z E)];exact hfn z E
         have hz:(wr.setCell ⟨br,0,none⟩ (.slice (some ⟨gn,0,none⟩) (i+1) c2)).heap.size=wr.heap.size:=by simp[World.setCell]
         have HS9:=(HSW.o.drewN nq).still (aC _ (.cells #[.int .i64 ((wide:Int)*2)] 3));have z1:=(bX HSW.o.rows (k:=qr) rfl).2;have z2:=(bX HSW.o.next (k:=g) rfl).2;have z3:=(bX HSW.o.rank (k:=gn) rfl).2;rw[hz]at z1 z2 z3;have hal:=aH5 ((wr.setCell ⟨br,0,none⟩ (.slice (some ⟨gn,0,none⟩) (i+1) c2)).drewN nq) (.cells #[.int .i64 ((wide:Int)*2)] 3);have hsz:((wr.setCell ⟨br,0,none⟩ (.slice (some ⟨gn,0,none⟩) (i+1) c2)).drewN nq).heap.size=wr.heap.size:=hz;rw[hsz]at hal;have hB9:=aX HBW8.o nq;refine⟨wr.heap.size,g,gn,c3,c2,wide+wide,(List.range (i+1)).map fn,_,r',rfl,rfl,?_,HS9.congr (fun _ _=>rfl) (fun _ _=>rfl) (fun z hz=>(zT fn hz).symm),hrn,hls▸hsk.1,E,Ei E,?_,E,E,E,by have :=HBW8.o.size;omega,hB9.alloc hB9.size _⟩
         ·have e:((wide+wide:Nat):Int)=(wide:Int)*2:=E;rw[hal,e]
         ·intro z hz;rw[zT fn hz];obtain⟨y,hy,hy2⟩:=as4 (hsk.1.mem_iff.2 (ax4.2 (show z<(aA t).length by omega)));have h1:=hfn y E;rw[bW hy,hy2]at h1;have h2:=pO rk wide r' y;omega
        case measure=>
         have hz:((wr.setCell ⟨br,0,none⟩ (.slice (some ⟨gn,0,none⟩) (i+1) c2)).drewN nq).heap.size=wr.heap.size:=by show (wr.setCell _ _).heap.size=_;simp[World.setCell]
         have hal:=aH5 ((wr.setCell ⟨br,0,none⟩ (.slice (some ⟨gn,0,none⟩) (i+1) c2)).drewN nq) (.cells #[.int .i64 ((wide:Int)*2)] 3);rw[hz]at hal;have h2:pN _ (.pointer (some ⟨wr.heap.size,0,none⟩))=wide*2:=xU (k:= .i64) (aG7 _ wr.heap.size 0 _ _ _ hal);rw[HMEA.o,h2];have hmore:=By (dY (mQ hb)).nn HRK.o HSK.o (by rw[HL'.out];show cS rk wide r' i≠i;have :=HM.o;have :=HMI.o;omega);have :=HLS.o;omega
def Pi(B:Nat)(w:World)(m:List Int)(e:Ending)(w':World):Prop:=∃v,e= .returned v∧w'.ownsRow B 3 1 v m.length (m.map (Value.int .i64))∧Below B w w'
def vI(B:Nat)(w:World)(t:List Int)(e:Ending)(w':World):Prop:=∃m,IsLast t m∧Pi B w m e w'
theorem Xi(n:Nat)(h:n≤1000000000)(w:World):(Instr.makeSlice 36 (.int .i64 0) (.int .i64 (n:Int))).run Tryz.prog w= .ok (.slice (some ⟨w.heap.size,0,none⟩) 0 n) (w.alloc (.cells (aP (fun _=> .int .i64 0) n).toArray 3)):=by
 obtain⟨i,hi,hiz,hsz,hby⟩:=aI1 Tryz.infoIntG;have h2:=run_make (P:=Tryz.prog) w 36 3 i (.int .i64 0) aF0 hi hiz .i64 .i64 0 (n:Int) E E (by rw[hby];omega) E;rw[h2,hsz,ao2,aB6];show Result.ok (Value.slice _ (0:Int).toNat n) (w.alloc (.cells (madeCells #[.int .i64 0] n) 3))=_;rw[pT];rfl
theorem ag1{w:World}{q n base:Nat}{f:Nat→Value}{e:TypeId}(h:w.heap[q]? =some (.cells (aP f n).toArray e (0,0)))(hb:base≤q)(hn:n≤maxLen):w.ownsRow base e 1 (.slice (some ⟨q,0,none⟩) 0 n) 0 []:=
 ⟨rfl, .inr ⟨q,n,(aP f n).toArray,rfl,hb,h,aC8 _,hn,by simp[cM],Es⟩⟩
theorem Wp(a:Option Addr)(c:Nat)(t:List Int)(w:World)(hr:Reads w .u8 a t)(hb:oJ t)(hl:t.length≤1000000):
  Calls Tryz.prog 89 #[.slice a t.length c] w (vI w.heap.size w t):=by
 have HR:=θ hr;have hls:(aA t).length=t.length+1:=aI t;have HLS:=θ hls;clear hls;go_enter Tryz.func89,Tryz.ntmps89;go_wp2_with fail;have hb0:=aC w (.cells #[.slice a t.length c] 32);refine(Lp w.heap.size 1 a c t _ Es Es (hr.below hb0) hb E).mono ?_;rintro e w1 ⟨v,rfl,hown,hb1⟩;obtain⟨g0,cap0,rfl,hg1,hg2,_,_,hcell,_⟩:=cL hown E;have hbw:Below w.heap.size w w1:=hb0.trans (hb1.mono Es);have hrc:∀j,j<t.length+1→w1.cell? ⟨g0,j,none⟩=some (.int .i64 (sy (aA t) j)):=by
  intro j hj;rw[hcell j hj];have e:t.map lT++[.int .i64 0]=(aA t).map (Value.int .i64):=by simp[aA,lT,Function.comp]
  rw[e,ar6,ar3 (by have :=HLS.o;omega),jY (by have :=HLS.o;omega)];rfl
 have HRC:Hid (∀W,Below w1.heap.size w1 W→∀j,j<t.length+1→W.cell? ⟨g0,j,none⟩=some (.int .i64 (sy (aA t) j))):=fun W hW j hj=>(hW.cell (p:=⟨g0,j,none⟩) hg2).trans (hrc j hj);have HBW:=θ hbw;have hgb:g0<w1.heap.size:=hg2;clear hown hcell hb0 hb1 hg1 hg2 hrc hr hbw;obtain⟨n,hn⟩:∃n,t.length+1=n:=⟨_,rfl⟩;have hn0:0<n:=E;have hnm:n≤1000001:=E;have hmk:=Xi n E;rw[hn]at HRC HLS⊢;have HN:=θ hn;clear hn;go_wp2_with fail;have hown:(w1.alloc (.cells (aP (fun _=> .int .i64 0) n).toArray 3)).ownsRow w.heap.size 3 1 (.slice (some ⟨w1.heap.size,0,none⟩) 0 n) 0 []:=ag1 (heap_alloc_new w1 _) HBW.o.size (by unfold maxLen;omega);have hbw2:=HBW.o.alloc HBW.o.size (.cells (aP (fun _=> .int .i64 0) n).toArray 3);have HRC2:Hid (∀W,Below (w1.alloc (.cells (aP (fun _=> .int .i64 0) n).toArray 3)).heap.size (w1.alloc (.cells (aP (fun _=> .int .i64 0) n).toArray 3)) W→∀j,j<n→W.cell? ⟨g0,j,none⟩=some (.int .i64 (sy (aA t) j))):=
  fun W hW=>HRC.o W ((aC w1 _).trans (hW.mono Es))
 generalize w1.alloc (.cells (aP (fun _=> .int .i64 0) n).toArray 3)=w2 at *;generalize w1.heap.size=q0 at *;have HO:=θ hown;have HB2:=θ hbw2;have hs2:=hbw2.size;have hq2:q0<w2.heap.size:=(bX hown (k:=q0) rfl).2;have hrd:Reads w2 .u8 a t:=by
  intro i hi;obtain⟨b,off,h1,h2,h3⟩:=HR.o i hi;exact⟨b,off,h1,E,fun j hj=>(hbw2.cell (p:=⟨b,off+j,none⟩) h2).trans (h3 j hj)⟩
 clear hown hbw2;refine(Gc a c t w2 hrd hb hl).mono ?_;rintro e w3 ⟨r,hrw,v,rfl,hown,hb3⟩;have hrl:r.length=n:=by rw[hrw.len];exact HLS.o
 rw[hrl]at hown;obtain⟨g3,cap3,rfl,hg3a,hg3b,_,_,hc3,_⟩:=cL hown hn0;have h23:=hb3.size;have HO3:=θ (sB HO.o hb3 (fun k hk=>(bX HO.o hk).2));have HB3:=θ (HB2.o.trans (hb3.mono hs2));have HC3:Hid (∀W,Below w3.heap.size w3 W→∀j,j<n→W.cell? ⟨g3,j,none⟩=some (.int .i64 ((r[j]?.getD 0:Nat):Int))∧W.cell? ⟨g0,(r[j]?.getD 0+n-1)%n,none⟩=some (.int .i64 (sy (aA t) ((r[j]?.getD 0+n-1)%n)))):=by
  intro W hW j hj;refine⟨(hW.cell (p:=⟨g3,j,none⟩) hg3b).trans ?_,HRC2.o W (hb3.trans (hW.mono hb3.size)) _ (aB4 _ hn0)⟩;rw[hc3 j hj,ar6,ar3 E];rfl
 have HLM:Hid (∀k,k<n→(bZ (aA t) r)[k]? =some (sy (aA t) ((r[k]?.getD 0+n-1)%n))):=by
  intro k hk;have h1:=HLS.o;unfold bZ;rw[ar6,ar3 (show k<r.length by omega),h1];simp
 have HIS:Hid (IsLast t (bZ (aA t) r)):=⟨mQ hb,r,hrw,rfl⟩;have hml:(bZ (aA t) r).length=n:=by rw[lG];exact hrl
 have HML:=θ hml;have hrlt:∀k,k<n→r[k]?.getD 0<n:=by
  intro k hk;have h1:k<r.length:=E;have h2:=hrw.lt h1;have h3:=HLS.o;rw[bW h1];omega
 have HRL:=θ hrlt;clear hown hb3 hrw hc3 hrl hml hrlt HRC HRC2 HO hrd hb HBW HB2;generalize bZ (aA t) r=m at *;go_wp2_with fail;go_loopw [4,16] (fun v i wr=>∃k:Nat,k≤n∧i= .int .i64 k∧wr.ownsRow w.heap.size 3 1 v k ((m.take k).map (Value.int .i64))∧Below w.heap.size w wr∧(∀q,v.ownBlock=some q→q≠g3∧q≠g0)∧g3<wr.heap.size∧g0<wr.heap.size∧∀j,j<n→wr.cell? ⟨g3,j,none⟩=some (.int .i64 ((r[j]?.getD 0:Nat):Int))∧wr.cell? ⟨g0,(r[j]?.getD 0+n-1)%n,none⟩=some (.int .i64 (sy (aA t) ((r[j]?.getD 0+n-1)%n)))) (fun _ i _=>n-(intOf i).toNat);case atStart=>exact⟨0,Nat.zero_le _,rfl,by simpa using HO3.o,HB3.o,(fun q hq=>by simp[Value.ownBlock]at hq;omega),hg3b,E,HC3.o w3 (am4 _ _)⟩
 case round=>
  obtain⟨k,hk,rfl,hown,hbw,hqs,hz1,hz2,hcs⟩:=hrel;have hs:=hbw.size;by_cases hlt:k<n
  ·obtain⟨c1,c2⟩:=hcs k hlt;have HCS:=θ hcs;have hx:=HRL.o k hlt;have hm:=HLM.o k hlt;have htk:m.take (k+1)=m.take k++[sy (aA t) ((r[k]?.getD 0+n-1)%n)]:=by
    rw[ay9,hm];rfl
   have HTK:=θ htk;clear hcs htk hm;generalize r[k]?.getD 0=x at *;generalize hu:(x+n-1)%n=u at *;have hu2:(((x:Int)+(n:Int)-1)%(n:Int))=(u:Int):=by
    have e:((x+n-1:Nat):Int)=(x:Int)+(n:Int)-1:=E;rw[←hu,←e];rfl
   have hun:u<n:=by rw[←hu];exact aB4 _ hn0
   have HU:=θ hu;clear hu;generalize sy (aA t) u=y at *;obtain⟨a4,c4,rfl,_,_⟩:=aM hown;have HQ:=θ hqs;have HOW:=θ hown;clear hqs;go_wp2_with (at_builtin;refine oI rfl _ _ 36 rfl w.heap.size 3 Tryz.infoIntG aF0 rfl _ _ _ rfl hown rfl rfl ?c1 ?c2 ?c3 ?_);case c1=>unfold maxLen;omega
   case c2=>omega
   case c3=>omega
   intro g cap w5 hown' hgrow hor hgl;have hch:Below w.heap.size w w5:=hbw.grown hgrow hs (fun j hj=>(HOW.o.lt j hj).1);have hcg:Chg (fun b=>(Value.slice a4 k c4).ownBlock=some b) wr w5:=(Chg.refl (S:=fun b=>(Value.slice a4 k c4).ownBlock=some b)).grown hgrow (fun k hk=>Ei hk);have HO5:Hid (w5.ownsRow w.heap.size 3 1 (.slice (some ⟨g,0,none⟩) (k+1) cap) (k+1) ((m.take (k+1)).map (Value.int .i64))):=by
    show w5.ownsRow _ _ _ _ _ _;rw[HTK.o,at6,av6];exact hown'
   have HCH:=θ hch;have HC5:Hid (∀j,j<n→w5.cell? ⟨g3,j,none⟩=some (.int .i64 ((r[j]?.getD 0:Nat):Int))∧w5.cell? ⟨g0,(r[j]?.getD 0+n-1)%n,none⟩=some (.int .i64 (sy (aA t) ((r[j]?.getD 0+n-1)%n)))):=by
    intro j hj;obtain⟨k1,k2⟩:=HCS.o j hj;exact⟨hcg.cell k1 (fun e=>(HQ.o _ e).1 rfl),hcg.cell k2 (fun e=>(HQ.o _ e).2 rfl)⟩
   have HQ5:Hid (g≠g3∧g≠g0):=by
    rcases hor with e | e
    ·exact HQ.o g e
    ·exact⟨E,E⟩
   have hsz:=hcg.size;clear hown hown' hgrow hor hch hcg;go_wp2_with fail;go_roundw;case rel=>exact⟨k+1,E,by go_num,HO5.o,HCH.o,(fun q hq=>by simp[Value.ownBlock]at hq;rw[←hq];exact HQ5.o),E,E,HC5.o⟩
   case measure=>simp[intOf];omega
  ·obtain rfl:k=n:=E;rw[az3 (by rw[HML.o];exact aA5 _)]at hown;go_wp2_with fail;go_ret;exact⟨m,HIS.o,_,rfl,by rw[HML.o];exact hown,hbw⟩
section
variable {B:Nat}{w w':World}{p qs qt Q n:Nat}{T:Tl}{fs ft ff:Nat→Int}
end
theorem Tryz.infoU8:(Tryz.prog.info? 5).map (fun i=>(i.zero,i.size,i.bytes))=some (some (.int .u8 0),1,1):=by kernel_rfl
theorem Yj{w:World}{base:Nat}{e:TypeId}{v:Value}{n:Nat}{xs:List Value}(h:w.ownsRow base e 1 v n xs)(hn:0<n):∃g cap,v= .slice (some ⟨g,0,none⟩) n cap∧w.ownsRow base e 1 (.slice (some ⟨g,0,none⟩) 0 cap) 0 []:=by
 rcases h.2 with ⟨_,h0⟩ | ⟨g,cap,cur,hv,hb,hg,hc,hm,hs,ht⟩
 ·omega
 ·exact⟨g,cap,hv,rfl, .inr ⟨g,cap,cur,rfl,hb,hg,aC8 _,hm,hs,Es⟩⟩
theorem Wi(n:Nat)(hn:n≤1000000)(w:World):Calls Tryz.prog 87 #[.slice none 0 0, .int .i64 n] w (Pj w.heap.size w []):=by
 have d0:decide ((n:Int)<0)=false:=aG9 E;rcases aA2 n with rfl | h0
 ·have e:((0:Nat):Int)=0:=rfl;rw[e]at d0⊢;go_enter Tryz.func87,Tryz.ntmps87;go_wp2_with fail;go_ret;exact⟨_,rfl,aG2 _ _ _ _,am4 _ _⟩
 ·have d1:decide ((0:Int)<(n:Int))=true:=aH1 E;have hs0:∀w:World,(Instr.slice 32 (.slice none 0 0) none (some (.int .i64 0)) none).run Tryz.prog w= .ok (.slice none 0 0) w:=fun w=>by
   have :=gA (P:=Tryz.prog) (w:=w) (t:=32) (a:=none) (len:=0) (cap:=0) (k:=0) aE9 Ek E;exact this
  go_enter Tryz.func87,Tryz.ntmps87;go_wp2_with (at_builtin;refine Aj rfl _ _ 32 3 rfl w.heap.size 5 Tryz.infoU8 aE9 aE8 rfl rfl _ 0 [] rfl (aG2 _ _ _ _) n rfl E (aA5 _) ?_);intro v' w' hown hgr;obtain⟨g,cap,rfl,hz⟩:=Yj hown E;have hb:Below w.heap.size w w':=(am4 _ _).grown hgr (aA5 _) (fun k hk=>by simp[Value.ownBlock]at hk);have HZ:=θ hz;have HB:=θ hb;have hs1:∀w:World,(Instr.slice 32 (.slice (some ⟨g,0,none⟩) (0+n) cap) none (some (.int .i64 0)) none).run Tryz.prog w= .ok (.slice (some ⟨g,0,none⟩) 0 cap) w:=fun w=>by
   have :=gA (P:=Tryz.prog) (w:=w) (t:=32) (a:=some ⟨g,0,none⟩) (len:=0+n) (cap:=cap) (k:=0) aE9 Ek E;exact this
  clear hown hgr hz hb;go_wp2_with fail;go_ret;exact⟨_,rfl,HZ.o,HB.o⟩
def bJ(ps:List Row):List Int:=ps.flatMap (·.l)
def kO(r:Row):Value:= .slice r.a r.l.length r.cap
theorem Pz(ps:List Row)(r:Row):bJ (ps++[r])=bJ ps++r.l:=by unfold bJ;simp
theorem Am{ps:List Row}{k:Nat}{r:Row}(h:ps[k]? =some r):bJ (ps.take (k+1))=bJ (ps.take k)++r.l:=by
 rw[ay9,h];exact Pz _ _
theorem Kd{ps:List Row}(k:Nat):(bJ (ps.take k)).length≤(bJ ps).length:=by
 unfold bJ;have :ps=ps.take k++ps.drop k:=(az0 k ps).symm;conv=>rhs;rw[this,aq6,as6]
 omega
theorem yA(pa:Option Addr)(pc:Nat)(ps:List Row)(w:World)(hp:ReadsV w pa (ps.map kO))(hr:∀r∈ps,Reads w .u8 r.a r.l∧(r.a=none→r.l.length=0∧r.cap=0))(hl:(bJ ps).length≤1000000)(hk:ps.length≤1000000):
  Calls Tryz.prog 46 #[.slice pa ps.length pc] w (Pj w.heap.size w (bJ ps)):=by
 have HP:=θ hp;have HR:=θ hr;clear hp hr;go_enter Tryz.func46,Tryz.ntmps46;go_wp2_with fail;go_loopw [3,11] (fun s i wx=>∃k:Nat,k≤ps.length∧i= .int .i64 k∧s= .int .i64 ((bJ (ps.take k)).length:Nat)∧∃m,wx=w.drewN m) (fun _ i _=>ps.length-(intOf i).toNat);case atStart=>exact⟨0,aC8 _,rfl,rfl,0,rfl⟩
 case round=>as_aux_lemma=>
  obtain⟨k,hk2,rfl,rfl,m,hm⟩:=hrel;have HM:=θ hm;clear hm;by_cases hlt:k<ps.length
  ·have hget:=ar3 hlt;obtain⟨b,off,rfl,hbl,hcells⟩:=HP.o.some (by rw[at1];omega);have hc:wr.cell? ⟨b,off+k,none⟩=some (kO ps[k]):=by
    have :=hcells k (kO ps[k]) (by rw[ar6,hget];rfl);rw[HM.o];exact this
   have hcat:=Am hget;have hle:=Kd (ps:=ps) (k+1);generalize ps[k]=r at *;have hlen:(bJ (ps.take (k+1))).length=(bJ (ps.take k)).length+r.l.length:=by rw[hcat,as6]
   have HLEN:=θ hlen;obtain⟨n0,hn0⟩:∃n0,(bJ (ps.take k)).length=n0:=⟨_,rfl⟩;rw[hn0]at hlen⊢;have hn9:n0+r.l.length≤1000000:=E;have hkc:(0:Int)≤(k:Int):=E;have hkc2:(k:Int)<(ps.length:Int):=E;unfold kO at hc;have hk9:k≤1000000:=E;have d2:decide ((n0:Int)+(r.l.length:Int)<0)=false:=aG9 E;clear hget hcells hcat hle hlen;go_wp2_with fail;go_roundw;case rel=>exact⟨k+1,E,by first | rfl | go_num,by rw[HLEN.o,hn0];first | rfl | go_num,m,HM.o⟩
   case measure=>simp[intOf];omega
  ·obtain rfl:k=ps.length:=E;rw[az2];have HG:=θ (Wi (bJ ps).length hl wr);clear hlt;go_wp2_with fail;refine HG.o.mono ?_;rintro e w1 ⟨v1,rfl,hown,hb1⟩;have hb:Below w.heap.size w w1:=by
    have hm:=HM.o;subst hm;exact(aG4 (am4 _ _) m).trans hb1
   have HOWN:Hid (w1.ownsRow w.heap.size 5 1 v1 0 []):=θ (by have hm:=HM.o;subst hm;exact hown);have HB:=θ hb;clear hown hb1 hb HG HM;go_wp2_with fail;go_loopw [6,27] (fun v i wx=>∃k:Nat,k≤ps.length∧i= .int .i64 k∧wx.ownsRow w.heap.size 5 1 v (bJ (ps.take k)).length ((bJ (ps.take k)).map (Value.int .u8))∧Below w.heap.size w wx) (fun _ i _=>ps.length-(intOf i).toNat);case atStart=>exact⟨0,aC8 _,rfl,HOWN.o,HB.o⟩
   case round=>as_aux_lemma=>
    clear HOWN HB;obtain⟨k,hk2,rfl,hown,hb⟩:=hrel;have HB:=θ hb;have HOWN:=θ hown;by_cases hlt:k<ps.length
    ·have hget:=ar3 hlt;obtain⟨b,off,rfl,hbl,hcells⟩:=HP.o.some (by rw[at1];omega);have hc:wr.cell? ⟨b,off+k,none⟩=some (kO ps[k]):=by
      have :=hcells k (kO ps[k]) (by rw[ar6,hget];rfl);exact(hb.cell (p:=⟨b,off+k,none⟩) hbl).trans this
     have hcat:=Am hget;have hle:=Kd (ps:=ps) (k+1);have hrr:=HR.o ps[k] (as3 hlt);generalize ps[k]=r at *;have hlen:(bJ (ps.take (k+1))).length=(bJ (ps.take k)).length+r.l.length:=by rw[hcat,as6]
     have HLEN:=θ hlen;have HCAT:=θ hcat;have hn9:(bJ (ps.take k)).length+r.l.length≤1000000:=E;have HRV:Hid (ReadsV wr r.a (r.l.map (Value.int .u8))):=θ (Zd (Reads.below hrr.1 hb));have HNIL:=θ hrr.2;have hkc:(0:Int)≤(k:Int):=E;have hkc2:(k:Int)<(ps.length:Int):=E;unfold kO at hc;have hk9:k≤1000000:=E;clear hget hcells hcat hle hlen hrr hown hb;go_wp2_with (at_builtin;refine fM rfl _ _ 32 rfl w.heap.size 5 Tryz.infoU8 Tryz.underlying32 rfl _ _ _ rfl HOWN.o r.a r.l.length r.cap (r.l.map (Value.int .u8)) rfl Es HNIL.o HRV.o.hnews (zW .u8 _) (by unfold maxLen;omega) E HB.o.size ?_);intro a' c' w3 hown3 hgr hor;have HO3:Hid (w3.ownsRow w.heap.size 5 1 (.slice a' ((bJ (ps.take k)).length+r.l.length) c') (bJ (ps.take (k+1))).length ((bJ (ps.take (k+1))).map (Value.int .u8))):=θ (by rw[HLEN.o,HCAT.o,at6];exact hown3);have HB3:Hid (Below w.heap.size w w3):=θ (HB.o.grown hgr HB.o.size (fun j hj=>(HOWN.o.lt j hj).1));clear hown3 hgr hor;go_wp2_with fail;go_roundw;case rel=>exact⟨k+1,E,by first | rfl | go_num,HO3.o,HB3.o⟩
     case measure=>simp[intOf];omega
    ·obtain rfl:k=ps.length:=E;rw[az2]at HOWN;clear hown;go_wp2_with fail;go_ret;exact⟨_,rfl,HOWN.o,HB.o⟩
attribute [local go_sem] Oper.semAt_some
theorem Vp(l m bx n sc:Nat)(sa:Option Addr)(s:List Int)(hs:s.length=n)(hn:n≤1000000)(J:Nat→World→Prop)
  (hrd:∀k W,J k W→W.cell? ⟨bx,0,none⟩=some (.slice sa n sc)∧Reads W .u8 sa s)
  (hY:∀k W1,k<n→J k W1→YieldAt Fence.wide m Tryz.prog l #[.int .i64 ((n:Int)-1-k), .int .u8 (s[n-1-k]?.getD 0)] W1 fun e W'=>e= .returned (.bool true)∧J (k+1) W')
  (W:World) (h0:J 0 W):CallsIn Fence.wide (m+1) Tryz.prog 180 #[.func (.yield l) #[] #[], .pointer (some ⟨bx,0,none⟩)] W fun e W'=>(∃v,e= .returned v)∧J n W':=by
 obtain⟨c0,r0⟩:=hrd 0 W h0;have hw0:IntKind.i64.wrap ((n:Int)-1)=(n:Int)-1:=ao4 _ E;refine callsIn_of_wp Tryz.func180 rfl trivial ?_ rfl;simp only[Tryz.ntmps180,ay7,as7,at2,Nat.reduceAdd,Nat.reduceSub,Array.replicate_succ,Array.replicate_zero,List.push_toArray,List.append_toArray,ax5,ap1]
 gi_wp2
 gi_loopw [3] (fun p wr=>∃k:Nat,k≤n∧p= .int .i64 ((n:Int)-1-k)∧J k wr) (fun p _=>(intOf p+1).toNat)
 case atStart=>exact⟨0,aC8 _,Es,h0⟩
 case round=>
  obtain⟨k,hk,rfl,hJ⟩:=hrel;by_cases hlt:k<n
  ·obtain⟨c1,r1⟩:=hrd k wr hJ;obtain⟨fn,tmps,assign,body,hy,hR⟩:=hY k wr hlt hJ;obtain⟨b,off,rfl,hbl,hcells⟩:=r1.some E;have hcx:=hcells (n-1-k) E;obtain⟨x,hx⟩:∃x,s[n-1-k]?.getD 0=x:=⟨_,rfl⟩;obtain⟨j,hj⟩:∃j,n-1-k=j:=⟨_,rfl⟩;have hjI:(n:Int)-1-k=(j:Int):=E;rw[hx]at hy hcx;rw[hj]at hcx;rw[hjI]at hy;rw[hjI];have d1:decide ((0:Int)≤(j:Int))=true:=aH1 E;have i1:(0:Int)≤(j:Int):=E;have i2:(j:Int)<(n:Int):=E;have hw:IntKind.i64.wrap ((j:Int)-1)=(j:Int)-1:=ao4 _ E;have HR:=θ hR;clear hcells r1 hR hJ hx
   gi_wp2
   refine HR.o.mono ?_;rintro e W' ⟨rfl,hJ'⟩
   gi_wp2
   go_roundw;case rel=>exact⟨k+1,E,by congr 1;omega,hJ'⟩
   case measure=>simp[intOf]
  ·obtain rfl:k=n:=E;have e1:(k:Int)-1-k= -1:=E;rw[e1]
   gi_wp2
   go_end0;exact⟨⟨_,rfl⟩,hJ⟩
section
variable {P:Program}{ops:Array Oper}{Q:Exit→Act→World→Prop}
theorem Ye(r n:Nat){o:Oper}(hd:∀c,o.op≠ .defer c){a:Act}{w:World}{nx nx':Act→World→Prop}(h:o.wp P a w nx Q)(hn:∀a w,nx a w→nx' a w):o.wpIn (Fence.wide.inRound r) n P a w nx' Q:=by
 refine⟨fun _ _=>trivial,?_⟩;rw[Oper.semAt_plain _ _ _ hd];unfold Oper.wp at h;cases hr:(execOp a.eval o).run P w with
 | ok x w'=>
  rw[hr]at h;cases x with
  | value v=>exact hn _ _ h
  | skip=>exact hn _ _ h
  | defer d=>exact hn _ _ h
  | enter f args=>
   refine⟨fun h=>(nomatch h),CallsIn.inRound r (callsIn_wide.2 (Calls.mono h fun e w2 he=>?_))⟩;cases e with
   | returned v=>exact hn _ _ he
   | panicked c=>exact he
   | outgrown=>exact he
  | row row args=>
   refine⟨fun h=>(nomatch h),fun c cs _=>?_⟩;obtain⟨v,w2,h1,h2⟩:=h c cs;exact⟨v,w2,hn _ _ h1,stepsIn_wide.2 h2⟩
  | round l f t s b=>exact(h:False).elim
  | _=>exact(h:False).elim
 | halt x w'=>
  rw[hr]at h;cases x with
  | panic v=>exact h
  | _=>exact(h:False).elim
theorem oT(hd:∀(i:Nat) (o:Oper),ops[i]? =some o→∀c,o.op≠ .defer c)(hQ:∀a w,¬Q .outgrown a w)(r n:Nat):∀(l:List Nat) (a:Act) (w:World),wpOps P ops Q l a w→wpOpsIn (Fence.wide.inRound r) n P ops Q l a w
 | [],_,_,h=>h
 | i::rest,a,w,h=>by
  unfold wpOps at h;unfold wpOpsIn;cases ho:ops[i]? with
  | none=>rw[ho]at h;exact oT hd hQ r n rest a w h
  | some o=>
   rw[ho]at h;simp only at h⊢;by_cases hw:Region.wanted o (yielded ops a.tmps)=true
   ·rw[aH9 hw]at h⊢;rcases h with h | ⟨_,a',w',h⟩
    ·exact Ye r n (hd i o ho) h (fun a w=>oT hd hQ r n rest a w)
    ·exact(hQ a' w' h).elim
   ·rw[aH8 hw]at h⊢;exact⟨fun _ _=>trivial,oT hd hQ r n rest _ w h⟩
def Kx(o:Oper):Bool:=match o.op with | .defer _=>false | _=>true
theorem Ir{l:List Oper}{a:Act}{w:World}{id r n:Nat}(S:World→Prop)(hm:P.follows .mixedOrders=true)(hS:S w.drew)(hd:l.all Kx=true)(hQ:∀a w,¬Q .outgrown a w)
  (h:S w.drew→wpAnyH P .any l.toArray (NoPanic Q) S l.length (Array.replicate l.length false) a w.drew):(Code.region id l.toArray true).wpIn (Fence.wide.inRound r) n P Q a w:=by
 refine wpIn_mono (wpIn_region_draw (Q:=NoPanic Q) fun t=>?_) NoPanic.imp;simp only[Region.schedule,hm,Bool.true_or,aI0];refine oT (Q:=NoPanic Q) (fun i o ho c e=>?_) hQ r n _ _ _ (show wpOps P l.toArray (NoPanic Q) (Region.linearise .any l.toArray t) a w.drew from wpAny_sound l.toArray.size t _ a _ (wpAny_of_held (S:=S) _ _ _ _ ?_))
 ·have :=List.all_eq_true.1 hd o (List.mem_of_getElem? (by simpa using ho));unfold Kx at this;rw[e]at this;cases this
 ·rw[ay7];exact h hS
end
def oK(P:Program)(Q:Exit→Act→World→Prop)(o:Oper)(a:Act)(v:Value)(w:World):Prop:=∀K:Act→World→Prop,K (a.put o.dst v) w→o.wp P a w K (NoPanic Q)
section
variable {P:Program}{md:Region.Mode}{l:List Oper}{Q:Exit→Act→World→Prop}{S:World→Prop}{i j k:Nat}{oi oj ok:Oper}{fuel:Nat}{listed:Array Bool}{a:Act}{w:World}{vi vj vk:Value}
theorem kQ{ls:Array Bool}(h:oK P Q oi a vi w)(hw:Region.wanted oi (yielded l.toArray a.tmps)=true)(hS:S w)(hn:wpAnyH P md l.toArray (NoPanic Q) S fuel ls (a.put oi.dst vi) w)(K:Act→World→Prop)(hK:Shut (∀a w,S w→(S w→wpAnyH P md l.toArray (NoPanic Q) S fuel ls a w)→K a w)):
  (if Region.wanted oi (yielded l.toArray a.tmps)=true then oi.wp P a w K (NoPanic Q)else K (a.put oi.dst undef) w):=by
 rw[aH9 hw];exact h K (hK.out _ _ hS (fun _=>hn))
theorem set_comm(x:Array Bool)(i j:Nat):(x.setIfInBounds i true).setIfInBounds j true=(x.setIfInBounds j true).setIfInBounds i true:=by
 by_cases h:i=j
 ·rw[h]
 ·exact Array.setIfInBounds_comm _ _ h
theorem xE(hS:S w)(h:wpAnyH P md l.toArray (NoPanic Q) S fuel ((listed.setIfInBounds i true).setIfInBounds j true) ((a.put oi.dst vi).put oj.dst vj) w)(hi:(l.drop i).head?=some oi)(hj:(l.drop j).head?=some oj)(hr:Region.ready md l.toArray listed=[i,j])(hr1:Region.ready md l.toArray (listed.setIfInBounds i true)=[j])(hr2:Region.ready md l.toArray (listed.setIfInBounds j true)=[i])(hd:∀d,oi.dst=some d→oj.dst≠some d)
  (wi:Region.wanted oi (yielded l.toArray a.tmps)=true) (wj:Region.wanted oj (yielded l.toArray a.tmps)=true) (wi':Region.wanted oi (yielded l.toArray (a.put oj.dst vj).tmps)=true) (wj':Region.wanted oj (yielded l.toArray (a.put oi.dst vi).tmps)=true)
  (si:oK P Q oi a vi w) (si':oK P Q oi (a.put oj.dst vj) vi w) (sj:oK P Q oj a vj w) (sj':oK P Q oj (a.put oi.dst vi) vj w):wpAnyH P md l.toArray (NoPanic Q) S (fuel+2) listed a w:=
 aJ0 hr Es (al6 (cO hi) (kQ si wi hS (aJ0 hr1 Es (al6 (cO hj) (kQ sj' wj' hS h) al7)))
  (al6 (cO hj) (kQ sj wj hS (aJ0 hr2 Es (al6 (cO hi) (kQ si' wi' hS (by rw[set_comm,Act.put_comm _ _ _ (fun d h1 h2=>hd d h2 h1)];exact h)) al7))) al7))
theorem ai6(hS:S w)(h:wpAnyH P md l.toArray (NoPanic Q) S fuel (((listed.setIfInBounds i true).setIfInBounds j true).setIfInBounds k true) (((a.put oi.dst vi).put oj.dst vj).put ok.dst vk) w)(hi:(l.drop i).head?=some oi)(hj:(l.drop j).head?=some oj)(hk:(l.drop k).head?=some ok)
  (hr:Region.ready md l.toArray listed=[i,j,k]∧Region.ready md l.toArray (listed.setIfInBounds i true)=[j,k]∧Region.ready md l.toArray (listed.setIfInBounds j true)=[i,k]∧Region.ready md l.toArray (listed.setIfInBounds k true)=[i,j])
  (hr2:Region.ready md l.toArray ((listed.setIfInBounds i true).setIfInBounds j true)=[k]∧Region.ready md l.toArray ((listed.setIfInBounds i true).setIfInBounds k true)=[j]∧Region.ready md l.toArray ((listed.setIfInBounds j true).setIfInBounds k true)=[i])
  (hd:(∀d,oi.dst=some d→oj.dst≠some d)∧(∀d,oi.dst=some d→ok.dst≠some d)∧(∀d,oj.dst=some d→ok.dst≠some d))
  (hw:oi.guard=none∧oj.guard=none∧ok.guard=none)
  (si:∀a',a'=a∨a'=a.put oj.dst vj∨a'=a.put ok.dst vk∨a'=(a.put oj.dst vj).put ok.dst vk→oK P Q oi a' vi w)
  (sj:∀a',a'=a∨a'=a.put oi.dst vi∨a'=a.put ok.dst vk∨a'=(a.put oi.dst vi).put ok.dst vk→oK P Q oj a' vj w)
  (sk:∀a',a'=a∨a'=a.put oi.dst vi∨a'=a.put oj.dst vj∨a'=(a.put oi.dst vi).put oj.dst vj→oK P Q ok a' vk w):wpAnyH P md l.toArray (NoPanic Q) S (fuel+3) listed a w:=by
 obtain⟨r1,r2,r3,r4⟩:=hr;obtain⟨p1,p2,p3⟩:=hr2;obtain⟨d1,d2,d3⟩:=hd;obtain⟨g1,g2,g3⟩:=hw;have wn:∀(o:Oper) (t:Array Bool) (y:Option Tmp),o.guard=none→∀a:Act,Region.wanted o (yielded l.toArray a.tmps)=true:=fun o _ _ hg a=>by simp[Region.wanted,hg]
 have c1:=Act.put_comm a vi vj d1;have c2:=Act.put_comm a vi vk d2;have c3:=Act.put_comm a vj vk d3;refine aJ0 r1 Es (al6 (cO hi) (kQ (si a (.inl rfl)) (wn _ listed none g1 _) hS ?_) (al6 (cO hj) (kQ (sj a (.inl rfl)) (wn _ listed none g2 _) hS ?_) (al6 (cO hk) (kQ (sk a (.inl rfl)) (wn _ listed none g3 _) hS ?_) al7)))
 ·exact xE hS h hj hk r2 p1 p2 d3 (wn _ listed none g2 _) (wn _ listed none g3 _) (wn _ listed none g2 _) (wn _ listed none g3 _) (sj _ (.inr (.inl rfl))) (sj _ (.inr (.inr (.inr rfl)))) (sk _ (.inr (.inl rfl))) (sk _ (.inr (.inr (.inr rfl))))
 ·exact xE hS (by rw[set_comm listed j i,←c1];exact h) hi hk r3 (by rw[set_comm];exact p1) p3 d2 (wn _ listed none g1 _) (wn _ listed none g3 _) (wn _ listed none g1 _) (wn _ listed none g3 _) (si _ (.inr (.inl rfl))) (si _ (.inr (.inr (.inr rfl)))) (sk _ (.inr (.inr (.inl rfl)))) (sk _ (.inr (.inr (.inr c1.symm))))
 ·exact xE hS (by rw[set_comm listed k i,set_comm _ k j,←c2,Act.put_comm _ _ _ (fun d h1 h2=>d3 d h2 h1)];exact h) hi hj r4 (by rw[set_comm];exact p2) (by rw[set_comm];exact p3) d1 (wn _ listed none g1 _) (wn _ listed none g2 _) (wn _ listed none g1 _) (wn _ listed none g2 _) (si _ (.inr (.inr (.inl rfl)))) (si _ (.inr (.inr (.inr c3.symm)))) (sj _ (.inr (.inr (.inl rfl)))) (sj _ (.inr (.inr (.inr c2.symm))))
end
theorem St{P:Program}{g:Operand}{ps:Array Tmp}{assign body:Code}{Q:Exit→Act→World→Prop}{a:Act}{w:World}{gf:Nat}{lb:Array Value}{m N:Nat}(hg:a.eval g= .func (.func gf) #[] lb)(eg:∀args w,(callFunc gf args).run P w= .ok (.enter gf args) w)
  (I:Nat→World→Prop) (x:Nat→Array Value) (hps:∀k,(x k).size=ps.size)
  (hit:∀(l:Nat) (J:Nat→World→Prop),(∀k W,J k W→I k W)→(∀k W1,k<N→J k W1→YieldAt Fence.wide m P l (x k) W1 fun e W'=>e= .returned (.bool true)∧J (k+1) W')→∀W,J 0 W→CallsIn Fence.wide (m+1) P gf (#[.func (.yield l) #[] #[]]++lb) W fun e W'=>(∃v,e= .returned v)∧J N W')
  (hI:∀k A o,w.heap.size+1<A.heap.size→I k A→I k (A.putObj (w.heap.size+1) o)) (h0:∀o o',I 0 ((w.alloc o).alloc o'))
  (hround:∀(l k:Nat) (W:World),k<N→assign.wpIn (Fence.wide.inRound l) m P (Exit.then (fun a1 W1=>W1=W∧∀W2,w.heap.size+1<W2.heap.size→I k W2→body.wpIn (Fence.wide.inRound l) m P (fun e _ W'=>e= .normal∧I (k+1) W'∧W'.heap[w.heap.size]? =W2.heap[w.heap.size]? ∧W'.heap[w.heap.size+1]? =W2.heap[w.heap.size+1]?) a1 W2) (fun _ _ _=>False)) {tmps:=(ps.zip (x k)).foldl (fun t (p,v)=>t.setIfInBounds p v) a.tmps,defers:=[]} W)
  (hdone:∀W,I N W→w.heap.size<W.heap.size→W.heap[w.heap.size]? =some (.deferred (some []))→Q .normal {a with defers:={target:= .collected w.heap.size,args:=#[]}::a.defers} W):
  (Code.rangeFunc g ps assign body).wpIn Fence.wide (m+2) P Q a w:=by
 refine wpIn_rangeFunc ?_;intro fn hfn;obtain⟨rec,hrec⟩:∃rec:LoopState→Option Code→Loop,rec=fun st pe=>{state:=st,pending:=pe,fn,tmps:=a.tmps,params:=ps,assign,body,defers:=w.heap.size}:=⟨_,rfl⟩;obtain⟨W1,hW1⟩:∃W1,(w.alloc (.deferred (some []))).alloc (.loop (rec .ready none))=W1:=⟨_,rfl⟩;have hL1:W1.heap[w.heap.size+1]? =some (.loop (rec .ready none)):=by
  rw[←hW1];have :=World.alloc_heap_new (w.alloc (.deferred (some []))) (.loop (rec .ready none));rwa[aG3]at this
 have hK1:W1.heap[w.heap.size]? =some (.deferred (some [])):=by
  rw[←hW1];exact(am3 _ _ _ Es).trans (World.alloc_heap_new w _)
 have hI1:I 0 W1:=by rw[←hW1];exact h0 _ _
 have hlt:∀(W:World) (o:Obj),W.heap[w.heap.size+1]? =some o→w.heap.size+1<W.heap.size:=fun W o h=>(am0.1 h).1;refine⟨w.heap.size+1,[{target:= .collected w.heap.size,args:=#[]}],W1,{target:= .fn (.func gf) lb,args:=#[.func (.yield (w.heap.size+1)) #[] #[]]},W1,gf,
  #[.func (.yield (w.heap.size+1)) #[] #[]]++lb,W1,?_,?_,fun _ _=>trivial,?_,fun h=>(nomatch h),?_⟩
 ·rw[←hW1,hrec];exact run_enterLoop_outer _ _ _ _ _
 ·simp only[resolve,hg];simp[go_sem]
 ·simp[invoke,go_sem,eg]
 ·refine CallsIn.mono (hit (w.heap.size+1) (fun k W=>I k W∧W.heap[w.heap.size+1]? =some (.loop (rec .ready none))∧W.heap[w.heap.size]? =some (.deferred (some []))) (fun k W h=>h.1) ?_ W1 ⟨hI1,hL1,hK1⟩) ?_
  ·rintro k W hk ⟨hi,hl,hd⟩;have hy:=run_yield (P:=P) (args:=x k) hl (by rw[hrec];exact hps k);rw[hrec]at hy;refine⟨fn,_,assign,body,hy,roundIn_of_wpIn trivial (wpIn_mono (hround _ k W hk) ?_)⟩;rintro e a1 W2 h;cases e with
   | normal=>
    obtain⟨rfl,hbody⟩:=h;refine⟨_,run_beginRound hl (by rw[hrec]),?_⟩;have hs:=hlt _ _ hl;have hl2:=World.putObj_heap_same (o:= .loop {rec .ready none with state:= .busy}) hs;have hd2:(W2.putObj (w.heap.size+1) (.loop {rec .ready none with state:= .busy})).heap[w.heap.size]? =some (.deferred (some [])):=(World.putObj_heap_other E).trans hd;refine wpIn_mono (hbody _ (hlt _ _ hl2) (hI _ _ _ hs hi)) ?_;rintro e a3 W3 ⟨rfl,hi3,hk3,hl3⟩;rw[hd2]at hk3;rw[hl2]at hl3;have hr:=run_endRound (P:=P) none hl3;have hs3:=hlt _ _ hl3;rw[hrec]at hr⊢;refine⟨_,_,hr,rfl,hI _ _ _ hs3 hi3,?_,(World.putObj_heap_other E).trans hk3⟩;exact World.putObj_heap_same hs3
   | _=>exact h.elim
  ·rintro e W2 ⟨⟨v,rfl⟩,hi,hl,hk⟩;have hr:=run_endLoop (P:=P) hl (by rw[hrec];simp);have hs:=hlt _ _ hl;rw[hrec]at hr;exact⟨none,_,hr,hdone _ (hI _ _ _ hs hi) (by simp[World.putObj];omega) ((World.putObj_heap_other E).trans hk)⟩
def RowsAt(B:Nat)(w:World)(t:List Int)(e:Ending)(w':World):Prop:=∃a c r,e= .returned (.slice a (t.length+1) c)∧IsRows (aA t) r∧w'.ownsRow B 3 1 (.slice a (t.length+1) c) (t.length+1) (r.map bG)∧Below B w w'
theorem ai8{n:Nat}{w:World}(a:Option Addr)(c:Nat)(t:List Int)(hn:n=t.length)(hr:Reads w .u8 a t)(hb:oJ t)(hl:t.length≤1000000):
  Calls Tryz.prog 49 #[.slice a n c] w (RowsAt w.heap.size w t):=by
 subst hn;refine(Gc a c t w hr hb hl).mono ?_;rintro e w' ⟨r,hrw,v,rfl,hown,hb'⟩;have hlen:r.length=t.length+1:=by rw[hrw.len,aI]
 rw[hlen]at hown;obtain⟨a',c',rfl,_,_⟩:=aM hown;exact⟨a',c',r,rfl,hrw,hown,hb'⟩
def LastAt(B:Nat)(w:World)(t:List Int)(e:Ending)(w':World):Prop:=∃a c m,e= .returned (.slice a (t.length+1) c)∧IsLast t m∧w'.ownsRow B 3 1 (.slice a (t.length+1) c) (t.length+1) (m.map (Value.int .i64))∧Below B w w'
theorem ae5{n:Nat}{w:World}(a:Option Addr)(c:Nat)(t:List Int)(hn:n=t.length)(hr:Reads w .u8 a t)(hb:oJ t)(hl:t.length≤1000000):
  Calls Tryz.prog 89 #[.slice a n c] w (LastAt w.heap.size w t):=by
 subst hn;refine(Wp a c t w hr hb hl).mono ?_;rintro e w' ⟨m,hm,v,rfl,hown,hb'⟩;rw[hm.len]at hown;obtain⟨a',c',rfl,_,_⟩:=aM hown;exact⟨a',c',m,rfl,hm,hown,hb'⟩
theorem Ra(xs:List Int)(W:World):Reads (W.alloc (.cells (xs.map (Value.int .i64)).toArray 3)) .i64 (some ⟨W.heap.size,0,none⟩) xs:=fun i hi=>⟨_,_,rfl,Es,fun j hj=>by
 rw[aC7,aG7 _ W.heap.size j _ _ _ (aH5 W _)];simp[hj]⟩
theorem No{w:World}{a:Option Addr}{L:List Nat}(h:ReadsV w a ((bF L).map (Value.int .i64))):ReadsV w a (L.map wsV):=by
 unfold bF at h;rw[av0]at h;exact h
theorem Vj{n:Nat}{w:World}(a:Option Addr)(c:Nat)(t:List Int)(hn:n=t.length)(hr:Reads w .u8 a t)(hb:oJ t)(hl:t.length≤100000):
  Calls Tryz.prog 47 #[.slice a n c] w fun e w'=>∃p r L,e= .returned (.pointer (some ⟨p,0,none⟩))∧RW t r L∧WkT w.heap.size (fun _=>False) w' p L (Tl.of (bF L))∧Below w.heap.size w w':=by
 subst hn;have HL:=θ (ae5 a c t rfl hr hb E);clear hr hb;go_enter Tryz.func47,Tryz.ntmps47;go_wp2_with fail;refine HL.o.mono ?_;rintro e w1 ⟨a1,c1,m,rfl,hm,hown,hb1⟩;obtain⟨r,hR,he⟩:=RW.of hm;generalize m.map Int.toNat=L at *;subst he;have HR:=θ hR;have HB1:=θ hb1;have ho:=ac1 (w:=w1) (a:=a1) (c:=c1) L (No (eB hown)) hR.syms (by rw[hR.len];omega);rw[hR.len]at ho;have HO:=θ ho;clear hm hown hb1 hR ho HL;go_wp2_with fail;refine HO.o.mono ?_;rintro e w2 ⟨p,rfl,hk,hb2⟩;have HK:Hid (WkT w.heap.size (fun _=>False) w2 p L (Tl.of (bF L))):=θ ((hk.base HB1.o.size).mono (fun k hk=>hk.elim));have HB:=θ (HB1.o.trans (hb2.mono HB1.o.size));clear hk hb2 HO;go_wp2_with fail;go_ret;exact⟨p,r,L,rfl,HR.o,HK.o,HB.o⟩
section
variable {B:Nat}{X:Nat→Prop}{w0 w w':World}{p:Nat}{L:List Nat}{r:List Nat}{ta:Option Addr}{t:List Int}
end
section
variable {B:Nat}{X:Nat→Prop}{w w':World}{p:Nat}{L r:List Nat}{t:List Int}
end
section
variable {B:Nat}{w w':World}{p q:Nat}{L M:List Nat}
end
section
variable {B:Nat}{X:Nat→Prop}{w w':World}{p:Nat}{L r:List Nat}{t:List Int}
end
section
variable {B:Nat}{w:World}{p q:Nat}{M:List Nat}
end
section
variable {B:Nat}{X:Nat→Prop}{w0 w w':World}{p:Nat}{L r:List Nat}{ta:Option Addr}{t:List Int}
end
def cC(r:List Nat):List Int:=r.map fun x:Nat=>(x:Int)
theorem mU(r:List Nat):(cC r).length=r.length:=by simp[cC]
theorem eT(r:List Nat):r.map bG=(cC r).map (Value.int .i64):=by simp[cC,bG,Function.comp]
theorem Mq{w:World}{base n c:Nat}{a:Option Addr}{r:List Nat}(h:w.ownsRow base 3 1 (.slice a n c) n (r.map bG)):Reads w .i64 a (cC r):=by
 rw[eT]at h;exact jC h
def setA(cur:Array Value):Nat→List Value→Array Value
 | _,[]=>cur
 | o,v::r=>setA (cur.setIfInBounds o v) (o+1) r
theorem eU:∀(vs:List Value) (cur:Array Value) (o:Nat),(setA cur o vs).size=cur.size
 | [],_,_=>rfl
 | v::r,cur,o=>by
  show (setA (cur.setIfInBounds o v) (o+1) r).size=_;rw[eU r];simp
theorem gQ:∀(vs:List Value) (cur:Array Value) (o j:Nat),(j<o∨o+vs.length≤j)→(setA cur o vs)[j]? =cur[j]?
 | [],_,_,_,_=>rfl
 | v::r,cur,o,j,h=>by
  show (setA (cur.setIfInBounds o v) (o+1) r)[j]? =_;simp only[as7]at h;rw[gQ r _ _ _ E,Array.getElem?_setIfInBounds,aH8 E]
theorem kP:∀(vs:List Value) (cur:Array Value) (o j:Nat),o+vs.length≤cur.size→o≤j→j<o+vs.length→(setA cur o vs)[j]? =vs[j-o]?
 | [],_,_,_,_,h1,h2=>by simp at h2;omega
 | v::r,cur,o,j,hs,h1,h2=>by
  show (setA (cur.setIfInBounds o v) (o+1) r)[j]? =_;simp only[as7]at h2 hs;by_cases e:j=o
  ·subst e;rw[gQ r _ _ _ E,Array.getElem?_setIfInBounds,aH9 rfl,aH9 E,aC0];rfl
  ·rw[kP r _ _ _ (by simp;omega) E E,show j-o=(j-(o+1))+1 by omega];rfl
theorem dW:∀(vs:List Value) (w:World) (b o:Nat) (cur:Array Value) (e:TypeId),w.heap[b]? =some (.cells cur e (0,0))→(w.setCells b o vs).heap[b]? =some (.cells (setA cur o vs) e (0,0))
 | [],_,_,_,_,_,h=>h
 | v::r,w,b,o,cur,e,h=>dW r _ b (o+1) _ e (aH6 w b o cur e v h)
theorem eM{S:Nat→Prop}{b:Nat}:∀(vs:List Value) (w w':World) (o:Nat),Chg S w w'→(S b∨w.heap.size≤b)→Chg S w (w'.setCells b o vs)
 | [],_,_,_,h,_=>h
 | v::r,w,w',o,h,hb=>eM r w _ (o+1) (h.setCell ⟨b,o,none⟩ hb v) hb
theorem qR{α:Type}{l:List α}{k:Nat}{x:α}(hk:k≤l.length)(j:Nat):(bY l k x)[j]? =if j<k then l[j]? else if j=k then some x else l[j-1]? :=by
 unfold bY;rw[aq8];have hl:(l.take k).length=k:=by simp;omega
 rw[hl];by_cases h:j<k
 ·rw[aH9 h,aH9 h,ar9,aH9 h]
 ·rw[aH8 h,aH8 h];by_cases e:j=k
  ·subst e;simp
  ·rw[aH8 e,show j-k=(j-k-1)+1 by omega,ar1,ar2];congr 1;omega
theorem yI{B:Nat}{w:World}{a:Option Addr}{n c vb vc i:Nat}{xs:List Int}{x:Int}(h:w.ownsRow B 3 1 (.slice a n c) n (xs.map (Value.int .i64)))(hi:i≤n)
  (hv:w.heap[vb]? =some (.cells #[.int .i64 x] 3 (0,0))) (hvn:∀k,(Value.slice a n c).ownBlock=some k→k≠vb) (hn:n≤1000000000) (hB:B≤w.heap.size):
  Calls Tryz.prog 99 #[.slice a n c, .int .i64 i, .slice (some ⟨vb,0,none⟩) 1 vc] w fun e w'=>∃g c',e= .returned (.slice (some ⟨g,0,none⟩) (n+1) c')∧
   w'.ownsRow B 3 1 (.slice (some ⟨g,0,none⟩) (n+1) c') (n+1) ((bY xs i x).map (Value.int .i64))∧Chg (fun b=>(Value.slice a n c).ownBlock=some b) w w'∧((Value.slice a n c).ownBlock=some g∨w.heap.size≤g):=by
 have hxl:xs.length=n:=by have :=h.1;simpa using this
 have hm:(bY xs i x).map (Value.int .i64)=bY (xs.map (Value.int .i64)) i (.int .i64 x):=by simp[bY,av6,at9]
 rw[hm];have hil:(bY (xs.map (Value.int .i64)) i (.int .i64 x)).length=n+1:=by rw[kH (by simp;omega)];simp[hxl]
 have hone:∀v∈xs.map (Value.int .i64),v.oneCell'=true:=zW .i64 xs;have hone1:∀v∈[Value.int .i64 x],v.oneCell'=true:=zW .i64 [x];have hvs:∀(j:Nat) (v:Value),[Value.int .i64 x][j]? =some v→w.cell? ⟨vb,0+j,none⟩=some v:=by
  intro j v hj;match j,hj with
  | 0,hj=>rw[aG7 w vb 0 _ _ _ hv];simpa using hj
 have hcl:(xs.map (Value.int .i64)).length=n:=by simp[hxl]
 generalize xs.map (Value.int .i64)=cs at *;have hgc1:=grownCap_ge w (n+1) c 3;have hgc2:=grownCap_le_maxLen w (n+1) c 3 (by unfold maxLen;omega);rcases h.2 with ⟨hv0,h0⟩ | ⟨g,cap,cur,hv0,hb,hg,h1,h2,hsz,htk⟩
 ·injection hv0 with e1 _ e3
  subst e1;subst e3;subst h0;obtain rfl:i=0:=E;obtain rfl:cs=[]:=aq2 hcl;have key:=Any2.slices_Insert_int_end_grow Tryz.laysIns none 0 0 vb 0 1 vc [] [.int .i64 x] w E E E E rfl rfl (fun _=>rfl) (fun a h=>by cases h) hvs hone1;generalize hG:grownCap w (0+1) 0 (Tryz.laysIns_ren.t 3)=G at key;have hG1:1≤G:=by rw[←hG];exact hgc1
  have hG2:G≤maxLen:=by rw[←hG];exact hgc2
  refine key.mono ?_;rintro e w' ⟨rfl,rfl⟩;refine⟨_,_,rfl,⟨by simpa using hil, .inr ⟨_,_,_,rfl,hB,heap_alloc_new w.drew _,hG1,hG2,?_,?_⟩⟩,Chg.refl.drew.alloc _,Ej (Nat.le_refl _)⟩
  ·simp[size_zeroCells,Value.cells];omega
  ·simp[bY]
 ·injection hv0 with e1 _ e3
  subst e1;subst e3;have hgl:=(am0.1 hg).1;have hvg:vb≠g:=fun e=>hvn g rfl e.symm;have hcur:∀j,j<n→cur[j]? =cs[j]? :=by
   intro j hj;rw[←htk,ar9,aH9 E,am1]
  have hcs:∀(j:Nat) (v:Value),cs[j]? =some v→w.cell? ⟨g,0+j,none⟩=some v:=by
   intro j v hj;have hjn:j<n:=by have :=(ar5.1 hj).1;omega
   rw[aG7 w g (0+j) _ _ _ hg,aC7,hcur j hjn,hj]
  have hsp:∀j,j<c→(w.cell? ⟨g,0+j,none⟩).isSome=true:=by
   intro j hj;rw[aG7 w g (0+j) _ _ _ hg,aC7,Array.getElem?_eq_getElem E];rfl
  have hfz:∀j,w.frozen? ⟨g,j,none⟩=false:=fun j=>aH3 w g j _ _ hg;rcases aB0 i n with hin | hin
  ·rcases aB0 n c with hr | hr
   ·refine(Any2.slices_Insert_int_shift Tryz.laysIns g 0 n c i vb 0 1 vc cs [.int .i64 x] w hin E E h2 hvg hcl rfl hcs (fun j hj=>hsp j E) (fun j hj=>hfz _) hvs hone hone1 3 3 1 cur.size
     (by unfold World.shape?;rw[hv];rfl) (by unfold World.shape?;rw[hg]) E (aH3 w vb 0 _ _ hv) (aH3 w vb 1 _ _ hv)).mono ?_
    rintro e w' ⟨rfl,rfl⟩;have hh:=dW [.int .i64 x] _ g (0+i) _ _ (dW (cs.drop i) w.drew g (0+(i+1)) cur 3 hg);refine⟨g,c,rfl,⟨by simpa using hil, .inr ⟨g,c,_,rfl,hb,hh,E,h2,by rw[eU,eU];exact hsz,?_⟩⟩,eM _ _ _ _ (eM _ _ _ _ Chg.refl.drew (Ei rfl)) (Ei rfl),Ei rfl⟩;apply aq3;intro j;rw[ar9,qR E];by_cases hj:j<n+1
    ·rw[aH9 E,am1];by_cases e:j=i
     ·subst e;rw[kP _ _ _ _ (by rw[eU];simp;omega) E Es,aH8 E,aH9 rfl];simp
     ·rw[gQ _ _ _ _ (by simp;omega)];by_cases hlt:j<i
      ·rw[gQ _ _ _ _ E,aH9 hlt,hcur j E]
      ·rw[kP _ _ _ _ (by simp;omega) E (by simp;omega),aH8 hlt,aH8 e,ar2];congr 1;omega
    ·rw[aH8 E,aH8 E,aH8 E,ar4 E]
   ·obtain rfl:n=c:=E;have key:=Any2.slices_Insert_int_grow Tryz.laysIns g 0 n n i vb 0 1 vc cs [.int .i64 x] w hin E (aA5 _) E E hcl rfl hcs hvs hone hone1;generalize hG:grownCap w (n+1) n (Tryz.laysIns_ren.t 3)=G at key;have hG1:n+1≤G:=by rw[←hG];exact hgc1
    have hG2:G≤maxLen:=by rw[←hG];exact hgc2
    refine key.mono ?_;rintro e w' ⟨rfl,rfl⟩;have hsz2:((cs.take i).toArray++Builtin.zeroCells (Value.int .i64 0).cells (n+1-i)++Builtin.zeroCells (Value.int .i64 0).cells (G-(n+1))).size=G:=by
     simp[size_zeroCells,Value.cells,hcl];omega
    refine⟨_,_,rfl,⟨by simpa using hil, .inr ⟨_,_,_,rfl,hB,dW (cs.drop i) (World.drew _) _ (i+1) _ _ (dW [.int .i64 x] (World.drew _) _ i _ _ (heap_alloc_new w _)),hG1,hG2,?_,?_⟩⟩,?_,Ej (Nat.le_refl _)⟩
    ·rw[eU,eU,hsz2,aB6]
    ·apply aq3;intro j;rw[ar9,qR E];by_cases hj:j<n+1
     ·rw[aH9 E,am1];by_cases e:j=i
      ·subst e;rw[gQ _ _ _ _ E,kP _ _ _ _ (by simp only[List.length_singleton];rw[hsz2];omega) E Es,aH8 E,aH9 rfl];simp
      ·by_cases hlt:j<i
       ·rw[gQ _ _ _ _ E,gQ _ _ _ _ E,aH9 hlt];rw[al9 (by simp[size_zeroCells,Value.cells,hcl];omega),al9 (by simp[hcl];omega)];simp[ar9,hlt]
       ·rw[kP _ _ _ _ (by rw[eU,hsz2];simp;omega) E (by simp;omega),aH8 hlt,aH8 e,ar2];congr 1;omega
     ·rw[aH8 E,aH8 E,aH8 E,ar4 E]
    ·exact eM _ _ _ _ ((eM _ _ _ _ ((Chg.refl.alloc _).drew) (Ej (aA5 _))).drew) (Ej (aA5 _))
  ·obtain rfl:i=n:=E;have hins:bY cs i (.int .i64 x)=cs++[.int .i64 x]:=by unfold bY;rw[az3 E,List.drop_eq_nil_of_le E]
   rcases aB0 i c with hr | hr
   ·refine(Any2.slices_Insert_int_end_room Tryz.laysIns g 0 i c vb 0 1 vc [.int .i64 x] w E E h2 rfl (fun j hj=>by rw[az7];exact hsp _ E) (fun j hj=>hfz _) hvs hone1).mono ?_;rintro e w' ⟨rfl,rfl⟩;refine⟨g,c,rfl,⟨by simpa using hil, .inr ⟨g,c,_,rfl,hb,dW [.int .i64 x] w g (0+i) cur _ hg,E,h2,by rw[eU];exact hsz,?_⟩⟩,eM _ _ _ _ Chg.refl (Ei rfl),Ei rfl⟩;apply aq3;intro j;rw[ar9,qR E];by_cases hj:j<i+1
    ·rw[aH9 E,am1];by_cases e:j=i
     ·subst e;rw[kP _ _ _ _ (by simp;omega) E Es,aH8 E,aH9 rfl];simp
     ·rw[gQ _ _ _ _ E,aH9 E,hcur j E]
    ·rw[aH8 E,aH8 E,aH8 E,ar4 E]
   ·obtain rfl:i=c:=E;have key:=Any2.slices_Insert_int_end_grow Tryz.laysIns (some ⟨g,0,none⟩) i i vb 0 1 vc cs [.int .i64 x] w E E E E hcl rfl (fun h=>by cases h) (fun a h j v hj=>by cases h;rw[al5];exact hcs j v hj) hvs hone1;generalize hG:grownCap w (i+1) i (Tryz.laysIns_ren.t 3)=G at key;have hG1:i+1≤G:=by rw[←hG];exact hgc1
    have hG2:G≤maxLen:=by rw[←hG];exact hgc2
    refine key.mono ?_;rintro e w' ⟨rfl,rfl⟩;refine⟨_,_,rfl,⟨by simpa using hil, .inr ⟨_,_,_,rfl,hB,heap_alloc_new w.drew _,hG1,hG2,?_,?_⟩⟩,Chg.refl.drew.alloc _,Ej (Nat.le_refl _)⟩
    ·simp[size_zeroCells,Value.cells,hcl];omega
    ·rw[hins];simp only[Array.toList_append,aB6];rw[az1 (by simp[hcl]),az3 (by simp[hcl])]
def aD(L:List (Int×Int))(i:Nat):Int:=(L[i]?.getD (0,0)).1
def aH(L:List (Int×Int))(i:Nat):Int:=(L[i]?.getD (0,0)).2
structure PmRd (w:World) (bp p gl cap:Nat) (L:List (Int×Int)):Prop where
 ptr:w.cell? ⟨bp,0,none⟩=some (.pointer (some ⟨p,0,none⟩))
 tab:w.cell? ⟨p,1,none⟩=some (.slice (some ⟨gl,0,none⟩) L.length cap)
 rd:∀i,i<L.length→w.cell? ⟨gl,i*2,none⟩=some (.int .i64 (aD L i))∧w.cell? ⟨gl,i*2+1,none⟩=some (.int .i64 (aH L i))
theorem PmRd.chg {w w':World}{S:Nat→Prop}{bp p gl cap:Nat}{L:List (Int×Int)}(h:PmRd w bp p gl cap L)(hc:Chg S w w')(h1:¬S bp)(h2:¬S p)(h3:¬S gl):PmRd w' bp p gl cap L:=
 ⟨hc.cell h.ptr h1,hc.cell h.tab h2,fun i hi=>⟨hc.cell (h.rd i hi).1 h3,hc.cell (h.rd i hi).2 h3⟩⟩
theorem PmRd.below {w w':World}{bp p gl cap:Nat}{L:List (Int×Int)}(h:PmRd w bp p gl cap L)(hb:Below w.heap.size w w'):PmRd w' bp p gl cap L:=h.chg (Chg.of_below (S:=fun _=>False) hb) id id id
theorem ac9{w:World}{bp p gl cap:Nat}{L:List (Int×Int)}(h:PmRd w bp p gl cap L)(i:Nat)(x:Int)(hi:i<L.length)(hl:L.length≤1000000000):
  Calls Tryz.prog 149 #[.int .i64 i, .int .i64 x, .pointer (some ⟨bp,0,none⟩)] w fun e w'=>e= .returned (.int .i64 (Lib.compareInt (aD L i) x))∧w=w':=by
 obtain⟨h1,h2,h3⟩:=h;obtain⟨h4,_⟩:=h3 i hi;clear h3;generalize aD L i=y at *;have hc:=Tryz.cmp_Compare_int y x w;generalize Lib.compareInt y x=z at *;go_enter Tryz.func149,Tryz.ntmps149;go_wp2_with (go_at_call 150;refine hc.mono ?_;rintro e w' ⟨rfl,rfl⟩);go_ret;exact⟨rfl,rfl⟩
theorem Wk{w:World}{bp bx p gl cap:Nat}{L:List (Int×Int)}(h:PmRd w bp p gl cap L)(i:Nat)(x:Int)(hx:w.cell? ⟨bx,0,none⟩=some (.int .i64 x))(hi:i<L.length)(hl:L.length≤1000000000):
  Calls Tryz.prog 152 #[.int .i64 i, .pointer (some ⟨bp,0,none⟩), .pointer (some ⟨bx,0,none⟩)] w fun e w'=>e= .returned (.bool (aH L i==x))∧∃q,w'=w.drewN q:=by
 obtain⟨h1,h2,h3⟩:=h;obtain⟨_,h4⟩:=h3 i hi;clear h3;generalize aH L i=y at *;have i0:(0:Int)≤(i:Int):=E;have i1:(i:Int)<(L.length:Int):=E;go_enter Tryz.func152,Tryz.ntmps152;go_wp2_with fail;go_quiet (fail);go_wp2_with fail;go_ret;exact⟨rfl,_,rfl⟩
theorem Rl{w:World}{bp p gl cap:Nat}{L:List (Int×Int)}(h:PmRd w bp p gl cap L)(i j:Nat)(hi:i<L.length)(hj:j<L.length)(hl:L.length≤1000000000):
  Calls Tryz.prog 172 #[.int .i64 i, .int .i64 j, .pointer (some ⟨bp,0,none⟩)] w fun e w'=>e= .returned (.int .i64 (Lib.compareInt (aD L i) (aD L j)))∧∃q,w'=w.drewN q:=by
 obtain⟨h1,h2,h3⟩:=h;obtain⟨h4,_⟩:=h3 i hi;obtain⟨h5,_⟩:=h3 j hj;clear h3;generalize aD L i=y at *;generalize aD L j=z at *;have HC:Hid (∀n,Calls Tryz.prog 150 #[.int .i64 y, .int .i64 z] (w.drewN n) fun e w'=>e= .returned (.int .i64 (Lib.compareInt y z))∧w.drewN n=w'):=fun n=>(Tryz.cmp_Compare_int y z (w.drewN n)).mono (fun e w' ⟨h,k⟩=>⟨h,k.symm⟩);generalize Lib.compareInt y z=u at *;have i0:(0:Int)≤(i:Int):=E;have i1:(i:Int)<(L.length:Int):=E;have j0:(0:Int)≤(j:Int):=E;have j1:(j:Int)<(L.length:Int):=E;go_enter Tryz.func172,Tryz.ntmps172;go_wp2_with fail;go_quiet ((go_at_call 150;with_reducible exact Ni (HC.o _)));go_wp2_with fail;go_ret;exact⟨rfl,_,rfl⟩
structure Pm where
 A:Ar
 L:List (Int×Int)
 O:List Nat
 R:Nat
 N:Nat
def bB:List (Int×Int)→List Value
 | []=>[]
 | x::l=> .int .i64 x.1:: .int .i64 x.2::bB l
theorem qO:∀l:List (Int×Int),(bB l).length=l.length*2
 | []=>rfl
 | x::l=>by simp only[bB,as7,qO l];omega
theorem jR:∀(l:List (Int×Int)) (i:Nat),i<l.length→(bB l)[i*2]? =some (.int .i64 (aD l i))∧(bB l)[i*2+1]? =some (.int .i64 (aH l i))
 | [],i,h=>absurd h (Nat.not_lt_zero _)
 | x::l,0,_=>⟨rfl,rfl⟩
 | x::l,i+1,h=>by
  obtain⟨h1,h2⟩:=jR l i (by simpa using h);refine⟨?_,?_⟩
  ·rw[show (i+1)*2=i*2+1+1 by omega];exact h1
  ·rw[show (i+1)*2+1=i*2+1+1+1 by omega];exact h2
structure Pm.Ok (m:Pm):Prop where
 most:m.A.M=268435456
 nd:m.O.Nodup
 iff:∀k,m.A.T[k]? =some true↔k∈m.O
 len:m.A.T.length=m.L.length
theorem Pm.Ok.lt {m:Pm}(h:m.Ok){k:Nat}(hk:k∈m.O):k<m.L.length:=by
 have :=(ar5.1 ((h.iff k).2 hk)).1;have :=h.len;omega
structure PmIn (w:World) (p q:Nat) (SA:Nat→Prop) (lv ov:Value) (m:Pm):Prop where
 hp:w.heap[p]? =some (.cells #[.pointer (some ⟨q,0,none⟩),lv,ov, .int .i64 m.R, .int .i64 m.N] 145 (0,0))
 ar:IsArena w q SA m.A
 tab:w.ownsRow 0 134 2 lv m.L.length (bB m.L)
 ord:w.ownsRow 0 3 1 ov m.O.length (m.O.map bG)
 d1:¬SA p
 d2:∀g,lv.ownBlock=some g→g≠p∧¬SA g
 d3:∀g,ov.ownBlock=some g→g≠p∧¬SA g∧lv.ownBlock≠some g
def pmS(p:Nat)(SA:Nat→Prop)(lv ov:Value):Nat→Prop:=fun k=>k=p∨SA k∨lv.ownBlock=some k∨ov.ownBlock=some k
theorem PmIn.chg {w w':World}{S':Nat→Prop}{p q:Nat}{SA:Nat→Prop}{lv ov:Value}{m:Pm}(h:PmIn w p q SA lv ov m)(hc:Chg S' w w')(hd:∀k,pmS p SA lv ov k→¬S' k):PmIn w' p q SA lv ov m:=
 ⟨hc.heap h.hp (hd p (Ei rfl)),h.ar.chg hc (fun k hk=>hd k (Ej (Ei hk))),hc.own h.tab (fun k hk=>hd k (Ej (Ej (Ei hk)))),hc.own h.ord (fun k hk=>hd k (Ej (Ej (Ej hk)))),h.d1,h.d2,h.d3⟩
theorem PmIn.below {w w':World}{p q:Nat}{SA:Nat→Prop}{lv ov:Value}{m:Pm}(h:PmIn w p q SA lv ov m)(hb:Below w.heap.size w w'):PmIn w' p q SA lv ov m:=h.chg (Chg.of_below (S:=fun _=>False) hb) (fun _ _=>id)
theorem PmIn.lt {w:World}{p q:Nat}{SA:Nat→Prop}{lv ov:Value}{m:Pm}(h:PmIn w p q SA lv ov m):∀k,pmS p SA lv ov k→k<w.heap.size:=by
 rintro k (rfl | hk | hk | hk)
 ·exact(am0.1 h.hp).1
 ·exact h.ar.lt k hk
 ·exact(bX h.tab hk).2
 ·exact(bX h.ord hk).2
theorem PmIn.cells {w:World}{p q:Nat}{SA:Nat→Prop}{lv ov:Value}{m:Pm}(h:PmIn w p q SA lv ov m):
  w.cell? ⟨p,0,none⟩=some (.pointer (some ⟨q,0,none⟩))∧w.cell? ⟨p,1,none⟩=some lv∧w.cell? ⟨p,2,none⟩=some ov∧w.cell? ⟨p,3,none⟩=some (.int .i64 m.R)∧w.cell? ⟨p,4,none⟩=some (.int .i64 m.N)∧(∀j,w.frozen? ⟨p,j,none⟩=false):=
 ⟨by rw[aG7 w p 0 _ _ _ h.hp];rfl,by rw[aG7 w p 1 _ _ _ h.hp];rfl,by rw[aG7 w p 2 _ _ _ h.hp];rfl,by rw[aG7 w p 3 _ _ _ h.hp];rfl,by rw[aG7 w p 4 _ _ _ h.hp];rfl,fun j=>aH3 w p j _ _ h.hp⟩
theorem PmIn.rd {w:World}{p q:Nat}{SA:Nat→Prop}{lv ov:Value}{m:Pm}(h:PmIn w p q SA lv ov m)(hl:0<m.L.length){bp:Nat}(hb:w.cell? ⟨bp,0,none⟩=some (.pointer (some ⟨p,0,none⟩))):
  ∃gl cap,lv= .slice (some ⟨gl,0,none⟩) m.L.length cap∧PmRd w bp p gl cap m.L:=by
 rcases h.tab.2 with ⟨_,h0⟩ | ⟨g,cap,cur,rfl,_,hg,h1,h2,hsz,htk⟩
 ·omega
 ·refine⟨g,cap,rfl,hb,h.cells.2.1,fun i hi=>?_⟩;have hc:∀j,j<m.L.length*2→cur[j]? =(bB m.L)[j]? :=fun j hj=>by rw[←htk,ar9,aH9 E,am1]
  obtain⟨e1,e2⟩:=jR m.L i hi;exact⟨by rw[aG7 w g (i*2) _ _ _ hg,hc _ E,e1],by rw[aG7 w g (i*2+1) _ _ _ hg,hc _ E,e2]⟩
def Pm.cnt (m:Pm)(x:Int):Nat:=m.O.countP fun k=>decide (aD m.L k<x)
def Pm.is (m:Pm)(x:Int):Bool:=m.O.any fun k=>aD m.L k==x
def Pm.Sorted (m:Pm):Prop:=m.O.Pairwise fun a b=>aD m.L a<aD m.L b
theorem xZ(a b:Int):Lib.compareInt a b<0↔a<b:=by unfold Lib.compareInt;split<;>(try split)<;>omega
theorem cmp_eq(a b:Int):Lib.compareInt a b=0↔a=b:=by unfold Lib.compareInt;split<;>(try split)<;>omega
theorem Ns{w:World}{p q bp:Nat}{SA:Nat→Prop}{lv ov:Value}{m:Pm}(h:PmIn w p q SA lv ov m)(hok:m.Ok)(hs:m.Sorted)(hb:w.cell? ⟨bp,0,none⟩=some (.pointer (some ⟨p,0,none⟩)))(hbn:¬pmS p SA lv ov bp)
  (hl:m.L.length≤1000000000) (x:Int):
  Calls Tryz.prog 148 #[ov, .int .i64 x, .func (.func 149) #[] #[.pointer (some ⟨bp,0,none⟩)]] w fun e w'=>
   e= .returned (.tuple #[.int .i64 (m.cnt x), .bool (m.is x)])∧PmIn w' p q SA lv ov m∧Chg (fun b=>ov.ownBlock=some b) w w':=by
 by_cases h0:m.O.length=0
 ·have e0:m.O=[]:=aq2 h0;obtain⟨a,c,rfl,_,_⟩:=aM h.ord;have e1:m.cnt x=0:=by unfold Pm.cnt;rw[e0];rfl
  have e2:m.is x=false:=by unfold Pm.is;rw[e0];rfl
  have key:Calls Tryz.prog 148 #[.slice a m.O.length c, .int .i64 x, .func (.func 149) #[] #[.pointer (some ⟨bp,0,none⟩)]] w fun e w'=>e= .returned (.tuple #[.int .i64 0, .bool false])∧w'=w:=by
   rw[h0];exact Any.slices_BinarySearchFunc_none Tryz.laysBS a c _ _ w
  rw[e1,e2];refine key.mono ?_;rintro e w' ⟨rfl,rfl⟩;exact⟨rfl,h,Chg.refl⟩
 ·rcases h.ord.2 with ⟨_,h1⟩ | ⟨g,cap,cur,rfl,_,hg,hc1,hc2,hsz,htk⟩
  ·omega
  have hlen:0<m.L.length:=by
   have :=hok.lt (as3 (l:=m.O) (n:=0) E);omega
  obtain⟨gl,capl,rfl,hrd⟩:=h.rd hlen hb
  letI:Inhabited (Fin m.L.length):=⟨⟨0,hlen⟩⟩
  let d:Array (Fin m.L.length):=(m.O.attach.map fun x=>⟨x.1,hok.lt x.2⟩).toArray
  have hdv:d.toList.map Fin.val=m.O:=by
   show (m.O.attach.map _).map _=m.O;rw[av0];exact ao9 m.O
  have hds:d.size=m.O.length:=by rw[←Array.length_toList,←at1 (f:=Fin.val),hdv]
  have henc:d.toList.map (fun x:Fin m.L.length=>bG x.1)=m.O.map bG:=by
   have e:=aG8 (List.map bG) hdv;rw[av0]at e;exact e
  have hqlt:=(bX h.ord (k:=g) rfl).2;have hH:Go.Sort.Holds (fun x:Fin m.L.length=>bG x.1) w g 0 d:=by
   intro j hj;refine⟨?_,aH3 w g _ _ _ hg⟩;rw[aC7,aG7 w g j _ _ _ hg,←am1];have e:(cur.toList.take (m.O.length*1))[j]? =(m.O.map bG)[j]? :=by rw[htk]
   rw[ar9,aH9 E]at e;rw[e,←henc,ar6];simp[hj]
  obtain⟨n1,n2,n3⟩:=h.d3 g rfl;have hcmp:CmpLaysT Tryz.prog 149 #[.pointer (some ⟨bp,0,none⟩)] (fun x:Fin m.L.length=>bG x.1) (.int .i64 x) (fun y=>Lib.compareInt (aD m.L y.1) x) g 0 d.size w:=by
   intro mm os dk _ y;have hc:=dX (fun x:Fin m.L.length=>bG x.1) w g mm dk os;refine(ac9 (hrd.chg hc (fun e=>hbn (by rw[e];exact Ej (Ej (Ej rfl)))) (fun e=>n1 e.symm) (fun e=>n3 (by rw[←e];rfl))) y.1 x y.2 hl).mono ?_;rintro e w' ⟨rfl,rfl⟩;exact⟨rfl,0,#[],by rw[Go.Sort.grow_empty];rfl⟩
  have hget:∀j (hj:j<m.O.length),(d[j]!).1=m.O[j]:=by
   intro j hj;rw[aH4 d j E];have :(d.toList.map Fin.val)[j]? =m.O[j]? :=by rw[hdv]
   rw[ar6,ar3 hj]at this;simpa[show j<d.size by omega]using this
  have hmono:∀a b,a≤b→b<d.size→(fun y:Fin m.L.length=>Lib.compareInt (aD m.L y.1) x) d[b]! <0→(fun y:Fin m.L.length=>Lib.compareInt (aD m.L y.1) x) d[a]! <0:=by
   intro a b hab hbd hlt;show Lib.compareInt _ _<0;have hlt:Lib.compareInt (aD m.L (d[b]!).1) x<0:=hlt;rw[xZ,hget b E]at hlt;rw[xZ,hget a E];rcases aB0 a b with k | k
   ·have :=ay2.1 hs a b E E k;omega
   ·obtain rfl:a=b:=E;exact hlt
  have eg:∀args w,(callFunc 149 args).run Tryz.prog w= .ok (.enter 149 args) w:=enters_of Tryz.func149 Ek rfl;have key:=Any.slices_BinarySearchFunc Tryz.laysBS (fun x:Fin m.L.length=>bG x.1) (fun _=>rfl) (.int .i64 x) (fun y=>Lib.compareInt (aD m.L y.1) x) 149 #[.pointer (some ⟨bp,0,none⟩)] g 0 cap d w eg hcmp hH hqlt (by rw[hds];have :=(hok.nd).length_le_of_subset (l₂:=List.range m.L.length) (fun k hk=>ax4.2 (hok.lt hk));simp at this;omega) hmono;have hcnt:d.toList.countP (fun y=>decide (Lib.compareInt (aD m.L y.1) x<0))=m.cnt x:=by
   have e:m.cnt x=(d.toList.map Fin.val).countP fun k=>decide (aD m.L k<x):=by rw[hdv];rfl
   have e2:(d.toList.map Fin.val).countP (fun k=>decide (aD m.L k<x))=d.toList.countP ((fun k=>decide (aD m.L k<x))∘Fin.val):=ap7;rw[e,e2];refine ap3 (fun y _=>?_);show decide _=true↔decide _=true;rw[aH2,aH2,xZ]
  have his:(decide (m.cnt x<d.size)&&decide (Lib.compareInt (aD m.L (d[m.cnt x]!).1) x=0))=m.is x:=by
   rw[am6];unfold Pm.is;rw[ao6,am5,aH2,aH2,cmp_eq];constructor
   ·rintro⟨k1,k2⟩;have k3:m.cnt x<m.O.length:=E;rw[hget _ k3]at k2;exact⟨_,as3 k3,by simp[k2]⟩
   ·rintro⟨k,hk,he⟩;obtain⟨j,hj,rfl⟩:=as4 hk;have he:aD m.L m.O[j]=x:=by simpa using he
    have hc:m.cnt x=j:=by
     refine Lib.countP_boundary _ m.O j E (fun t ht=>?_) (fun t h3 h4=>?_)
     ·rw[aH4 m.O t E,aH2];have :=ay2.1 hs t j E hj ht;omega
     ·rw[aH4 m.O t h4,aH0];rcases aB0 j t with k | k
      ·have :=ay2.1 hs j t hj h4 k;omega
      ·obtain rfl:t=j:=E;omega
    rw[hc,hget j hj];exact⟨E,he⟩
  rw[hcnt,his,hds]at key;refine key.mono ?_;rintro e w' ⟨rfl,mm,os,rfl⟩;have hch:Chg (fun b=>b=g) w (sortWorld (fun x:Fin m.L.length=>bG x.1) w g 0 mm d os):=dX _ _ _ _ _ _;refine⟨rfl,⟨hch.heap h.hp (fun e=>n1 e.symm),h.ar.chg hch (fun k hk e=>n2 (e▸hk)),hch.own h.tab (fun k hk e=>n3 (e▸hk)),?_,h.d1,h.d2,h.d3⟩,hch.mono (fun b e=>by rw[e];rfl)⟩;have :=iM (fun x:Fin m.L.length=>bG x.1) h.ord mm d os hds;rw[henc]at this;exact this
end
end Go.Proofs.YtchinbgemenenaaGreatDoor
