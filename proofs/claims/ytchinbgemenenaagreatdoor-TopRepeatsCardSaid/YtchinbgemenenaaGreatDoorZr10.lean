/- Lemmas and contracts under the claims of this seat. No condition. -/
import Derived.Deep.DeepCutAuto
import Derived.Deep.CutBlock
import Derived.Deep.CutRange
import Derived.Test.YtchinbgemenenaaGreatDoorZr1
import Derived.Test.YtchinbgemenenaaGreatDoorZr7
import Derived.Test.YtchinbgemenenaaGreatDoorZr9
namespace Go.Proofs.YtchinbgemenenaaGreatDoor
set_option linter.unusedVariables false
set_option linter.unusedSimpArgs false
set_option maxRecDepth 100000
set_option maxHeartbeats 12800000
def bF(L:List Nat):List Int:=L.map Int.ofNat
theorem kI(L:List Nat):(bF L).length=L.length:=by simp[bF]
theorem Ko{L:List Nat}{k s:Nat}(h:L[k]? =some s):sy (bF L) k=(s:Int):=by
 unfold sy bF;rw[ar6,h];rfl
theorem Wl{L M:List Nat}(h:bF L=bF M):L=M:=by
 have :=aG8 (List.map Int.toNat) h;unfold bF at this;rw[av0,av0]at this;have e:(Int.toNat∘Int.ofNat)=id:=by funext x;rfl
 rwa[e,List.map_id,List.map_id]at this
theorem ae3{m:List Int}(h:∀x∈m,0≤x):m=bF (m.map Int.toNat):=by
 unfold bF;rw[av0];conv=>lhs;rw[←List.map_id m]
 apply at7;intro x hx;have :=h x hx;show x=((x.toNat:Nat):Int);omega
theorem Dy(L:List Nat)(k s:Nat):cnt ((bF L).take k) (s:Int)=aV L k s:=by
 unfold cnt aV bF;rw[←av6,ap7,List.count];congr 1;funext x;by_cases e:x=s
 ·subst e;simp
 ·have e2:¬(x:Int)=(s:Int):=E;show ((x:Int)==(s:Int))=(x==s);rw[aG5.2 e2,aG5.2 e]
theorem ad4(L:List Nat)(s:Nat):cnt (bF L) (s:Int)=L.count s:=by
 have :=Dy L L.length s;rw[az3 (by rw[kI];exact aA5 _)]at this;rw[this,mC s (aA5 _)]
structure RW (t:List Int) (r:List Nat) (L:List Nat):Prop where
 byte:aU t
 rows:IsRows (aA t) r
 last:bZ (aA t) r=bF L
def ro(r:List Nat)(i:Nat):Nat:=r[i]?.getD 0
section
variable {t:List Int}{r L:List Nat}
theorem RW.isLast (h:RW t r L):IsLast t (bF L):=⟨h.byte,r,h.rows,h.last⟩
theorem RW.of {m:List Int}(h:IsLast t m):∃r,RW t r (m.map Int.toNat)∧m=bF (m.map Int.toNat):=by
 have e:=ae3 (fun x hx=>(h.range x hx).1);obtain⟨hb,r,hr,hl⟩:=h;exact⟨r,⟨hb,hr,by rw[hl];exact e⟩,e⟩
theorem RW.rlen (h:RW t r L):r.length=t.length+1:=by rw[h.rows.len,aI]
theorem RW.len (h:RW t r L):L.length=t.length+1:=by rw[←kI,h.isLast.len]
theorem RW.syms (h:RW t r L):∀s∈L,s<257:=by
 intro s hs;have :=h.isLast.range (s:Int) (ax1.2 ⟨s,hs,rfl⟩);omega
theorem RW.get (h:RW t r L){i:Nat}(hi:i≤t.length):∃s,L[i]? =some s∧s<257:=by
 have hl:=h.len;exact⟨_,ar3 E,h.syms _ (as3 _)⟩
theorem RW.roE (h:RW t r L){i:Nat}(hi:i≤t.length):∃hi':i<r.length,r[i]=ro r i:=by
 have :=h.rlen;exact⟨E,by unfold ro;rw[bW]⟩
theorem RW.roLt (h:RW t r L){i:Nat}(hi:i≤t.length):ro r i≤t.length:=by
 obtain⟨h1,h2⟩:=h.roE hi;have :=h.rows.lt h1;rw[aI,h2]at this;omega
theorem RW.inj (h:RW t r L){i j:Nat}(hi:i≤t.length)(hj:j≤t.length)(e:ro r i=ro r j):i=j:=by
 obtain⟨h1,h2⟩:=h.roE hi;obtain⟨h3,h4⟩:=h.roE hj;rw[←h2,←h4]at e;have hnd:=ay2.1 h.rows.nodup;rcases aB1 i j with hc | hc | hc
 ·exact absurd e (hnd i j h1 h3 hc)
 ·exact hc
 ·exact absurd e.symm (hnd j i h3 h1 hc)
theorem RW.ex (h:RW t r L){q:Nat}(hq:q≤t.length):∃i,i≤t.length∧ro r i=q:=by
 obtain⟨i,hi,e⟩:=h.rows.find (a:=q) (by rw[aI];omega);have :=h.rlen;exact⟨i,E,by unfold ro;rw[bW hi,e]⟩
theorem RW.sym (h:RW t r L){i s:Nat}(hs:L[i]? =some s):(s:Int)=sy (aA t) ((ro r i+t.length)%(t.length+1)):=by
 have hi:i≤t.length:=by have :=(ar5.1 hs).1;have :=h.len;omega
 obtain⟨h1,h2⟩:=h.roE hi;have :=vU (l:=aA t) h1;rw[h.last,Ko hs,h2,aI]at this;rw[this];rfl
theorem RW.back (h:RW t r L){i s:Nat}(hs:L[i]? =some s):aQ (bF L) (s:Int)+aV L i s≤t.length∧ro r (aQ (bF L) (s:Int)+aV L i s)=(ro r i+t.length)%(t.length+1):=by
 have hi:i≤t.length:=by have :=(ar5.1 hs).1;have :=h.len;omega
 obtain⟨h1,h2⟩:=h.roE hi;obtain⟨h3,h4⟩:=Kp (dY h.byte) h.rows h1;have e:lfL (bZ (aA t) r) i=aQ (bF L) (s:Int)+aV L i s:=by
  unfold lfL;rw[h.last,Ko hs,Dy]
 simp only[e]at h3 h4;have hl:=h.rlen;refine⟨E,?_⟩;unfold ro at h2⊢;rw[bW h3,h4,bW h1,aI];rfl
theorem Ak{n p:Nat}(hp:p≤n):((p+1)%(n+1)+n)%(n+1)=p:=by
 rcases aB0 p n with h | h
 ·rw[aB3 (E:p+1<n+1),show p+1+n=p+(n+1) by omega,az8,aB3 E]
 ·obtain rfl:p=n:=E;rw[Nat.mod_self,aC7,aB3 E]
def eI(t:List Int)(r:List Nat)(i:Nat):Nat:=(sy (aA t) (ro r i)).toNat
theorem RW.frowI (h:RW t r L){i:Nat}(hi:i≤t.length):(eI t r i:Int)=sy (aA t) (ro r i)∧eI t r i<257:=by
 have h1:=h.roLt hi;have h2:sy (aA t) (ro r i)∈aA t:=by
  rw[jY (by rw[aI];omega)];exact as3 _
 have :=lB h.byte _ h2;unfold eI;omega
theorem RW.belowE (h:RW t r L)(s:Int):aQ (bF L) s=(List.range (t.length+1)).countP (fun q=>decide (sy (aA t) q<s)):=by
 unfold aQ;rw[h.isLast.perm.countP_eq];have e:=aG8 (List.countP fun x=>decide (x<s)) (jX (aA t));rw[ap7,aI]at e;exact e.symm
theorem vQ:∀{n x:Nat},x<n→(List.range n).countP (fun q=>decide (q=x))=1
 | 0,x,h=>E
 | n+1,x,h=>by
  rw[ay4,ap2];by_cases e:x=n
  ·subst e;rw[ap5.2 (fun q hq=>by have :=ax4.1 hq;simp;omega)];simp
  ·rw[vQ (show x<n by omega)];have :¬n=x:=fun h=>e h.symm;simp[this]
theorem RW.first (h:RW t r L){i:Nat}(hi:i≤t.length):aQ (bF L) (eI t r i:Int)≤i∧i<aQ (bF L) ((eI t r i:Int)+1):=by
 obtain⟨h1,h2⟩:=h.roE hi;obtain⟨h3,_⟩:=h.frowI hi;have hp:=sE h.rows h1;rw[aI,h2]at hp;have hlt:=h.roLt hi;rw[h.belowE,h.belowE,h3];constructor
 ·conv=>rhs;rw[←hp]
  refine List.countP_mono_left (fun q _ hq=>?_);rw[eO,gT];exact Ei (by simpa using hq)
 ·have h4:=gY (l:=List.range (t.length+1)) (f:=fun q=>fK (aA t) q (ro r i)||decide (q=ro r i)) (g:=fun q=>fK (aA t) q (ro r i)) (h:=fun q=>decide (q=ro r i)) (fun _ _=>rfl) (fun q _ hh=>by
   obtain⟨a,b⟩:=hh
   simp only[aH2]at b
   subst b
   exact sufLt.irrefl (eO.1 a))
  rw[hp,vQ E]at h4;have h5:(List.range (t.length+1)).countP (fun q=>fK (aA t) q (ro r i)||decide (q=ro r i))≤(List.range (t.length+1)).countP (fun q=>decide (sy (aA t) q<sy (aA t) (ro r i)+1)):=by
   refine List.countP_mono_left (fun q _ hq=>?_);simp only[Bool.or_eq_true,aH2]at hq⊢;rcases hq with hq | hq
   ·rw[eO,gT]at hq;rcases hq with hq | hq<;>omega
   ·subst hq;omega
  omega
theorem RW.on (h:RW t r L){i:Nat}(hi:i≤t.length):∃j,j≤t.length∧ro r j=(ro r i+1)%(t.length+1)∧L[j]? =some (eI t r i)∧aQ (bF L) (eI t r i:Int)+aV L j (eI t r i)=i:=by
 have hlt:=h.roLt hi;obtain⟨j,hj,ej⟩:=h.ex (q:=(ro r i+1)%(t.length+1)) (by have :=aB4 (ro r i+1) (show 0<t.length+1 by omega);omega);obtain⟨s,hs,_⟩:=h.get hj;have hsy:=h.sym hs;rw[ej,Ak hlt]at hsy;have hf:=(h.frowI hi).1;obtain rfl:s=eI t r i:=E;obtain⟨hb1,hb2⟩:=h.back hs;rw[ej,Ak hlt]at hb2;exact⟨j,hj,ej,hs,h.inj hb1 hi hb2⟩
theorem RW.onSel (h:RW t r L){i:Nat}(hi:i≤t.length):∃j,j≤t.length∧ro r j=(ro r i+1)%(t.length+1)∧L[j]? =some (eI t r i)∧iV L ((i:Int)-(aQ (bF L) (eI t r i:Int):Nat)) (eI t r i)=j:=by
 obtain⟨j,h1,h2,h3,h4⟩:=h.on hi;exact⟨j,h1,h2,h3,Gi h3 E⟩
theorem tQ(m:List Int){a b:Int}(h:a≤b):aQ m a≤aQ m b:=by
 unfold aQ;refine List.countP_mono_left (fun q _ hq=>?_);simp only[aH2]at hq⊢;omega
theorem tR(L:List Nat)(s:Nat):aQ (bF L) ((s:Int)+1)=aQ (bF L) (s:Int)+L.count s:=by
 have :=tS (m:=bF L) (s:=s);rw[ad4]at this;exact_mod_cast this
theorem Pp(L:List Nat)(s:Int):aQ (bF L) s≤L.length:=by
 unfold aQ;exact aA6 ap6 (by rw[kI];exact aA5 _)
theorem RW.which (h:RW t r L){i:Nat}(hi:i≤t.length):IsWhich (Tl.of (bF L)) i (eI t r i:Nat):=by
 have hb:∀s:Nat,bl (Tl.of (bF L)).N s=(aQ (bF L) (s:Int):Int):=lD (fun x hx=>by obtain⟨y,_,rfl⟩:=ax1.1 hx;exact Int.natCast_nonneg y);have hall:(Tl.of (bF L)).all=((t.length+1:Nat):Int):=by
  show ((bF L).length:Int)=_;rw[kI,h.len]
 obtain⟨h1,h2⟩:=h.first hi
 refine⟨fun hk=>by rw[hall]at hk;omega,fun _=>⟨eI t r i,(h.frowI hi).2,rfl,?_,?_⟩⟩
 ·rw[hb];omega
 ·rw[hb];have e:(((eI t r i+1:Nat)):Int)=(eI t r i:Int)+1:=E;rw[e];omega
def nar(L:List Nat)(k s:Nat):Nat:=aQ (bF L) (s:Int)+aV L k s
theorem nar_le(L:List Nat)(k s:Nat):nar L k s≤L.length:=by
 unfold nar;have h1:=tR L s;have h2:=Pp L ((s:Int)+1);have h3:=(kN L k s).2;omega
theorem Xq(L:List Nat){j k:Nat}(h:j≤k)(s:Nat):nar L j s≤nar L k s:=by
 unfold nar;have :=fU L s h;omega
def jW(t:List Int)(u:List Int)(q:Nat):Prop:=∀d,d<u.length→sy (aA t) (q+d)=sy u d+1
theorem Sg(t:List Int)(q:Nat):jW t [] q:=fun d hd=>absurd hd Es
theorem Na{t u:List Int}{x:Int}{q:Nat}:jW t (x::u) q↔sy (aA t) q=x+1∧jW t u (q+1):=by
 constructor
 ·intro h;refine⟨by have :=h 0 (Es);simpa[sy]using this,fun d hd=>?_⟩;have :=h (d+1) (by simpa using hd);rw[show q+(d+1)=q+1+d by omega]at this;rw[this];simp[sy]
 ·rintro⟨h1,h2⟩ d hd;cases d with
  | zero=>simpa[sy]using h1
  | succ d=>
   have :=h2 d (by simpa using hd);rw[show q+(d+1)=q+1+d by omega,this];simp[sy]
def Nar(t:List Int)(r:List Nat)(u:List Int)(lo hi:Nat):Prop:=lo≤hi∧hi≤t.length+1∧∀i,i≤t.length→(jW t u (ro r i)↔lo≤i∧i<hi)
theorem Nar.nil (h:RW t r L):Nar t r [] 0 (t.length+1):=⟨E,aA5 _,fun i hi=>⟨fun _=>E,fun _=>Sg _ _⟩⟩
theorem Nar.cons (h:RW t r L){u:List Int}{lo hi b:Nat}(hn:Nar t r u lo hi)(hb:b<256):Nar t r ((b:Int)::u) (nar L lo (b+1)) (nar L hi (b+1)):=by
 obtain⟨h1,h2,h3⟩:=hn;have hlen:=h.len;refine⟨Xq L h1 _,by have :=nar_le L hi (b+1);omega,fun i hi'=>?_⟩;have hfr:=h.frowI hi';have hfi:=h.first hi'
 rw[Na,←hfr.1];have hbn:=tR L (b+1);have hr1:=(kN L hi (b+1)).2;by_cases e:eI t r i=b+1
 ·obtain⟨j,hj,hrj,hLj,hij⟩:=h.on hi';rw[e]at hLj hij;have hlt:=h.roLt hi';have hnz:ro r i≠t.length:=by
   intro hz;have :=hfr.1;rw[hz,oW]at this;omega
  rw[aB3 E]at hrj;have h4:=h3 j hj;rw[hrj]at h4;have hjl:j<L.length:=E;have hrs:=mD (b+1) hjl;rw[aH9 hLj]at hrs;unfold nar;constructor
  ·rintro⟨_,hp⟩;obtain⟨g1,g2⟩:=h4.1 hp;have q1:=fU L (b+1) g1;have q2:=fU L (b+1) (show j+1≤hi from g2);omega
  ·rintro⟨g1,g2⟩;refine⟨E,h4.2 ⟨?_,?_⟩⟩
   ·rcases aB0 j lo with hc | hc
    ·have :=fU L (b+1) (show j+1≤lo from hc);omega
    ·exact hc
   ·rcases aB0 j hi with hc | hc
    ·exact hc
    ·have :=fU L (b+1) hc;omega
 ·constructor
  ·rintro⟨g,_⟩;omega
  ·rintro⟨g1,g2⟩;exfalso;unfold nar at g1 g2;rcases aB0 (eI t r i) (b+1)with hc | hc
   ·have :=tQ (bF L) (a:=(eI t r i:Int)+1) (b:=((b+1:Nat):Int)) E;omega
   ·have :=tQ (bF L) (a:=((b+1:Nat):Int)+1) (b:=(eI t r i:Int)) E;omega
theorem Nar.count (h:RW t r L){u:List Int}{lo hi:Nat}(hn:Nar t r u lo hi){f:Nat→Bool}(hf:∀q,q≤t.length→(f q=true↔jW t u q)):(List.range (t.length+1)).countP f=hi-lo:=by
 obtain⟨h1,h2,h3⟩:=hn;have hp:=h.rows.1;rw[aI]at hp;rw[←hp.countP_eq];have hrl:=h.rlen;have e1:r=(List.range (t.length+1)).map (ro r):=by
  apply List.ext_getElem
  ·simp[hrl]
  ·intro i h4 h5;simp only[as2,List.getElem_range];unfold ro;rw[bW h4]
 rw[e1,ap7];have e2:(List.range (t.length+1)).countP (f∘ro r)=(List.range (t.length+1)).countP (fun i=>decide (lo≤i)&&decide (i<hi)):=by
  refine ap3 (fun i hi'=>?_);have hi2:=ax4.1 hi';simp only[Function.comp,am5,aH2];rw[hf _ (h.roLt E),h3 i E]
 rw[e2];have key:∀n,(List.range n).countP (fun i=>decide (lo≤i)&&decide (i<hi))=min hi n-lo:=by
  intro n;induction n with
  | zero=>simp
  | succ n ih=>
   rw[ay4,ap2,ih];by_cases hc:lo≤n∧n<hi
   ·simp[hc.1,hc.2];omega
   ·have :(decide (lo≤n)&&decide (n<hi))=false:=by
     rw[Bool.and_eq_false_iff,aH0,aH0];omega
    simp[this];omega
 rw[key];omega
end
section
open Go.RowKit
theorem ab9{B:Nat}{X:Nat→Prop}{w:World}{p n:Nat}{D:WD}{O:Nat→Nat→Option ST}{vis:Int}{Vb:Nat→Nat→Int→Prop}(h:WaveE B X w p D O n vis Vb):Calls Tryz.prog 118 #[.pointer (some ⟨p,0,none⟩)] w fun e w'=>e= .returned (.int .i64 n)∧w=w':=by
 obtain⟨hc0,c9,c10,fz,hp⟩:=h.cells;clear h hc0 fz;go_enter Tryz.func118,Tryz.ntmps118;go_wp2_with fail;go_ret;exact⟨rfl,rfl⟩
def RowC(w:World)(g:Nat)(xs:List Value)(T:TypeId):Prop:=w.heap[g]? =some (.cells xs.toArray T (0,0))
theorem RowC.new (w:World)(xs:List Value)(T:TypeId):RowC (w.alloc (.cells xs.toArray T)) w.heap.size xs T:=aH5 w _
theorem RowC.lt {w:World}{g:Nat}{xs:List Value}{T:TypeId}(h:RowC w g xs T):g<w.heap.size:=(am0.1 h).1
theorem RowC.chg {S:Nat→Prop}{w w':World}{g:Nat}{xs:List Value}{T:TypeId}(h:RowC w g xs T)(hc:Chg S w w')(hn:¬S g):RowC w' g xs T:=hc.heap h hn
theorem RowC.set {w:World}{g:Nat}{xs:List Value}{T:TypeId}(h:RowC w g xs T)(j:Nat)(u:Value):RowC (w.setCell ⟨g,j,none⟩ u) g (xs.set j u) T:=by
 have :=aH6 w g j _ _ u h;unfold RowC;rw[this,ay5]
theorem RowC.frz {w:World}{g:Nat}{xs:List Value}{T:TypeId}(h:RowC w g xs T)(j:Nat):w.frozen? ⟨g,j,none⟩=false:=aH3 w g j _ _ h
theorem RowC.cell {w:World}{g:Nat}{xs:List Value}{T:TypeId}(h:RowC w g xs T){j:Nat}{v:Value}(hj:xs[j]? =some v):w.cell? ⟨g,j,none⟩=some v:=by
 rw[aG7 w g j _ _ _ h,as0,hj]
def eW(L:List Nat)(k:Nat):List Value:=aP (fun i=> .int .i64 (if i<k then ((L[i]?.getD 0:Nat):Int)else 0)) L.length
theorem Ol(L:List Nat):aP (fun _=>Value.int .i64 0) L.length=eW L 0:=by simp[eW]
theorem Ul(L:List Nat){k s:Nat}(h:L[k]? =some s):(eW L k).set k (.int .i64 s)=eW L (k+1):=by
 unfold eW;rw[rL];congr 1;funext i;by_cases e:i=k
 ·subst e;simp[h]
 ·by_cases e2:i<k
  ·have e3:i<k+1:=E;simp[e,e2,e3]
  ·have e3:¬i<k+1:=E;simp[e,e2,e3]
theorem Uk(L:List Nat):eW L L.length=L.map (fun s:Nat=>Value.int .i64 s):=by
 apply aq3;intro i;by_cases hi:i<L.length
 ·rw[eW,dN hi,ar6];simp[hi]
 ·rw[ar4 (by rw[eW,cM];omega),ar4 (by rw[at1];omega)]
theorem WaveE.setRow {B:Nat}{Z:Nat→Prop}{w:World}{p n:Nat}{D:WD}{O:Nat→Nat→Option ST}{vis:Int}{Vb:Nat→Nat→Int→Prop}(h:WaveE B Z w p D O n vis Vb){b:Nat}(hb:Z b)(j:Nat)(u:Value):WaveE B Z (w.setCell ⟨b,j,none⟩ u) p D O n vis Vb:=
 h.chg (Z:=fun j=>j=b) (Chg.refl.setCell (S:=fun j=>j=b) ⟨b,j,none⟩ (Ei rfl) u) (fun k hk _ e=>hk.2 (by subst e;exact hb))
theorem ab8{B:Nat}{X:Nat→Prop}{w:World}{p:Nat}{D:WD}{O:Nat→Nat→Option ST}{L:List Nat}{vis:Int}(h:WaveE B X w p D O L.length vis bA)(hO:jM O L)(hL:Syms L)(hn:L.length≤1000000000){H:Nat}(hH:HiO O H)(hHm:H≤1000000000):
  Calls Tryz.prog 143 #[.pointer (some ⟨p,0,none⟩)] w fun e w'=>
   ∃g,e= .returned (.slice (some ⟨g,0,none⟩) L.length L.length)∧w.heap.size≤g∧RowC w' g (L.map (fun s:Nat=>Value.int .i64 s)) 3∧WaveE B (fun i=>X i∨i=g) w' p D O L.length vis bA∧Chg (exT B X) w w':=by
 have hb0:=aC w (.cells (eW L 0).toArray 3);have hr0:=RowC.new w (eW L 0) 3;have hX1:WaveE B (fun i=>X i∨i=w.heap.size) (w.alloc (.cells (eW L 0).toArray 3)) p D O L.length vis bA:=h.less hb0 (fun i hi=>hi.elim Ei (fun e=>Ej E)) (fun i hi=>hi.elim (fun g=>aA9 (h.x i g) hb0.size) (fun e=>by subst e;exact hr0.lt));have hmk:∀w:World,_:=Bk L.length hn;simp only[Ol]at hmk;obtain⟨hc0,c9,c10,fz,hp⟩:=h.cells;have HS0:Hid (WaveE B (fun i=>X i∨i=w.heap.size) (w.alloc (.cells (eW L 0).toArray 3)) p D O L.length vis bA∧RowC (w.alloc (.cells (eW L 0).toArray 3)) w.heap.size (eW L 0) 3∧Chg (exT B X) w (w.alloc (.cells (eW L 0).toArray 3))):=⟨hX1,hr0,Chg.of_below (S:=exT B X) hb0⟩;have HO:=θ hO;have HHi:=θ hH;have HLS:=θ hL;have HLEN:=θ hn;have HPW:=θ hp;clear h hc0 fz hO hH hL hn hX1 hb0 hr0;go_enter Tryz.func143,Tryz.ntmps143;go_wp2_with fail;generalize w.alloc (.cells (eW L 0).toArray 3)=ws at *;clear hmk c9 c10 hp;go_loopw [19] (fun x wr=>∃k:Nat,k≤L.length∧x= .int .i64 k∧RowC wr w.heap.size (eW L k) 3∧(∃vis':Int,WaveE B (fun i=>X i∨i=w.heap.size) wr p D O L.length vis' bA)∧Chg (exT B X) w wr) (fun x _=>L.length-(intOf x).toNat);case atStart=>exact⟨0,aC8 _,rfl,HS0.o.2.1,⟨vis,HS0.o.1⟩,HS0.o.2.2⟩
 case round=>as_aux_lemma=>
  clear HS0;obtain⟨k,hk,rfl,hr,⟨vis',hE⟩,hC⟩:=hrel;have hpr:=hE.cells.2.2.2.2;have hn1:=HLEN.o;by_cases hlt:k<L.length
  ·have i0:(0:Int)≤(k:Int):=E;have i1:(k:Int)<(L.length:Int):=E;obtain⟨s,hs⟩:∃s,L[k]? =some s:=⟨_,ar3 hlt⟩;have HG:=θ (Hm hE HO.o HLS.o HLEN.o HHi.o hHm k s hs);have HR:=θ hr;have HC:=θ hC;have HLT:=θ hlt;have HK:=θ hs;clear hE hr hC hs;go_wp2_with fail;refine HG.o.mono ?_;rintro e w2 ⟨rfl,v2,hv0,hv1,hE2,hC2⟩;have hr2:=HR.o.chg hC2 (fun hk=>hk.2 (Ej rfl));have frz:=hr2.frz k;have kcl:=hr2.cell (j:=k) (dN HLT.o);have HE2:=θ hE2;have HR2:=θ hr2;have HC2:Hid (Chg (exT B X) w w2):=HC.o.trans hC2 (fun j hj=>Ei (bS (fun i hi=>Ei hi) hj));clear hE2 hr2 hC2 hv0 hv1;go_wp2_with fail;go_roundw;case rel=>exact⟨k+1,HLT.o,by go_num,by rw[←Ul L HK.o];exact HR2.o.set _ _,⟨v2,HE2.o.setRow (Ej rfl) _ _⟩,HC2.o.setCell _ (Ej (aA5 _)) _⟩
   case measure=>have :=HLT.o;simp[intOf];omega
  ·obtain rfl:k=L.length:=E;obtain⟨hc0,c9,c10,fz,hp⟩:=hE.cells;have z10:=fz 10;have HST:=θ (hE.setVis vis);have HR:=θ hr;have HC:=θ hC;have hpw:p≠w.heap.size:=by have :=HPW.o;omega
   have HPN:=θ hpw;clear hE hr hC hc0 fz hpw;go_wp2_with fail;go_ret;refine⟨_,rfl,aA5 _,?_,HST.o.1,HC.o.trans HST.o.2 (fun j hj=>Ei (bS (fun i hi=>Ei hi) hj))⟩;rw[←Uk];exact HR.o.chg (S:=fun j=>j=p) (Chg.refl.setCell (S:=fun j=>j=p) ⟨p,10,none⟩ (Ei rfl) _) (fun e=>HPN.o e.symm)
def wsV(s:Nat):Value:= .int .i64 s
theorem Gt{w:World}{a:Option Addr}{L:List Nat}(hr:ReadsV w a (L.map wsV)){k s:Nat}(hk:L[k]? =some s):∃b off,a=some ⟨b,off,none⟩∧b<w.heap.size∧∀w',Below w.heap.size w w'→w'.cell? ⟨b,off+k,none⟩=some (.int .i64 s):=by
 have hlt:=(ar5.1 hk).1;obtain⟨b,off,rfl,hb,hc⟩:=hr k (by rw[at1];exact hlt);exact⟨b,off,rfl,hb,fun w' hbl=>(hbl.cell (p:=⟨b,off+k,none⟩) hb).trans (hc k _ (by rw[ar6,hk];rfl))⟩
def iP(l k:Nat):Nat→Nat:=fun l'=>if l'<l then pw l' else if l'=l then k else 0
theorem eQ(l k:Nat):iP l k l=k:=by simp[iP]
theorem Qd:iP 0 0=fun _=>0:=by funext l';simp[iP]
theorem vP(l k:Nat):mS (iP l k) l=iP l (k+1):=by
 funext l';unfold mS iP;by_cases h:l'=l
 ·subst h;simp
 ·simp[h]
theorem Qc(l:Nat):iP l (pw l)=iP (l+1) 0:=by
 funext l';unfold iP;by_cases h1:l'<l
 ·simp[h1,(E:l'<l+1)]
 ·by_cases h2:l'=l
  ·subst h2;simp
  ·have h3:¬l'<l+1:=E;simp[h1,h2,h3]
theorem Qb:∀l,l<9→iP 9 0 l=pw l:=fun l h=>by simp[iP,h]
def BitsOK(O:Nat→Nat→Option ST)(L:List Nat)(l k:Nat):Prop:=∀l' k',(l'<l∧k'<pw l')∨(l'=l∧k'<k)→aF (O l' k')=lvl L l' k'
theorem BitsOK.zero (O:Nat→Nat→Option ST)(L:List Nat):BitsOK O L 0 0:=fun l' k' h=>E
theorem BitsOK.next {O:Nat→Nat→Option ST}{L:List Nat}{l:Nat}(h:BitsOK O L l (pw l)):BitsOK O L (l+1) 0:=fun l' k' hh=>h l' k' (by
 rcases hh with ⟨h1,h2⟩ | ⟨_,h2⟩
 ·by_cases e:l'=l
  ·subst e;exact Ej ⟨rfl,h2⟩
  ·exact Ei ⟨E,h2⟩
 ·omega)
theorem BitsOK.push {O:Nat→Nat→Option ST}{L:List Nat}{l k:Nat}(h:BitsOK O L l k){o:Option ST}(ho:aF o=lvl L l k):BitsOK (dM O l k o) L l (k+1):=fun l' k' hh=>by
 by_cases e:l'=l∧k'=k
 ·obtain⟨rfl,rfl⟩:=e;rw[cA];exact ho
 ·rw[dI _ _ E];exact h l' k' E
theorem BitsOK.done {O:Nat→Nat→Option ST}{L:List Nat}(h:BitsOK O L 9 0):jM O L:=fun l k hl hk=>h l k (Ei ⟨hl,hk⟩)
theorem Rv{w:World}{base:Nat}{e:TypeId}{size n c:Nat}{a:Option Addr}{xs:List Value}(h:w.ownsRow base e size (.slice a n c) n xs):n≤c:=by
 rcases h.2 with ⟨h,_⟩ | ⟨g,cap,cur,hv,_,_,hc,_⟩
 ·injection h with _ h1 h2;omega
 ·injection hv with _ h1 h2;omega
theorem Vg{w:World}{a:Option Addr}{c:Nat}(L:List Nat)(hr:ReadsV w a (L.map wsV))(hL:Syms L)(hn:L.length≤1000000):
  Calls Tryz.prog 146 #[.slice a L.length c] w fun e w'=>∃p D O,e= .returned (.tuple #[.pointer (some ⟨p,0,none⟩), .int .i64 0])∧WaveE w.heap.size (fun _=>False) w' p D O L.length 0 bA∧jM O L∧Below w.heap.size w w':=by
 have HR:=θ hr;have HLS:=θ hL;have hb0:=aC w (.cells (iK (fun _=> .slice none 0 0) L.length) 178);have hP0:=WavePt.start (base:=w.heap.size) w L.length (aA5 _) (fun _ _=>0) (fun _ _=>none) (fun _ _ _=>False);have HS0:Hid (WavePt (w.alloc (.cells (iK (fun _=> .slice none 0 0) L.length) 178)) w.heap.size w.heap.size (fun _=> .slice none 0 0) (fun _=>0) (fun _ _=>0) (fun _ _=>none) (fun _ _ _=>False) L.length∧Below w.heap.size w (w.alloc (.cells (iK (fun _=> .slice none 0 0) L.length) 178))):=⟨hP0,hb0⟩;unfold iK at HS0;clear hb0 hP0 hr hL;go_enter Tryz.func146,Tryz.ntmps146;go_wp2_with fail;generalize w.alloc (.cells #[.slice none 0 0, .slice none 0 0, .slice none 0 0, .slice none 0 0, .slice none 0 0, .slice none 0 0, .slice none 0 0, .slice none 0 0, .slice none 0 0, .int .i64 L.length, .int .i64 0] 178)=w0 at *;go_loopw [20] (fun x wr=>∃k:Nat,k≤L.length∧x= .int .i64 k∧wr=w0) (fun x _=>L.length-(intOf x).toNat);case atStart=>exact⟨0,aC8 _,rfl,rfl⟩
 case round=>as_aux_lemma=>
  obtain⟨k,hk,rfl,rfl⟩:=hrel;by_cases hlt:k<L.length
  ·obtain⟨s,hs⟩:∃s,L[k]? =some s:=⟨_,ar3 hlt⟩;obtain⟨b,off,rfl,hbl,hcl⟩:=Gt HR.o hs;have hc:=hcl _ HS0.o.2;have hs257:=HLS.o s (ax2 hs);have his:dP (s:Int)=true:=dE E E;have HIS:Hid (∀w,Calls Tryz.prog 122 #[.int .i64 s] w fun e w'=>e= .returned (.bool true)∧w=w'):=fun w=>by rw[←his];exact bU s w
   have i0:(0:Int)≤(k:Int):=E;have i1:(k:Int)<(L.length:Int):=E;clear hcl his hs;go_wp2_with fail;refine(HIS.o _).mono ?_;rintro e w' ⟨rfl,rfl⟩;go_wp2_with fail;go_roundw;case rel=>exact⟨k+1,E,by go_num,trivial⟩
   case measure=>simp[intOf];omega
  ·obtain rfl:k=L.length:=E;go_wp2_with fail;clear hk hlt;go_loopw [28] (fun x wr=>∃l:Nat,l≤9∧x= .int .i64 l∧∃V Q O S,WavePt wr w.heap.size w.heap.size V (iP l 0) Q O S L.length∧BitsOK O L l 0∧(∀l',l≤l'→V l'= .slice none 0 0)∧Below w.heap.size w wr) (fun x _=>9-(intOf x).toNat);case atStart=>exact⟨0,E,rfl,_,_,_,_,by rw[Qd];exact HS0.o.1,BitsOK.zero _ _,fun _ _=>rfl,HS0.o.2⟩
   case round=>as_aux_lemma=>
    clear HS0;obtain⟨l,hl,rfl,V,Q,O,S,hP,hO,hVn,hb⟩:=hrel;by_cases hlt:l<9
    ·have hpl:=tH hlt;have hmk:∀w:World,_:=Rj (pw l) E;have d9:decide ((l:Int)<9)=true:=aH1 E;have hsh:wrap64 ((2:Int)^l)=((pw l:Nat):Int):=by
      have :l=0∨l=1∨l=2∨l=3∨l=4∨l=5∨l=6∨l=7∨l=8:=E;rcases this with rfl | rfl | rfl | rfl | rfl | rfl | rfl | rfl | rfl<;>simp[wrap64,pw]
     have HP:=θ hP;have HO:=θ hO;have HB:=θ hb;have HVN:=θ hVn;have HB0:Hid (BitsR (wr.alloc (.cells (aP (fun _=> .slice none 0 0) (pw l)).toArray 132)) wr.heap.size wr.heap.size (pw l) (fun _=> .slice none 0 0) (fY L l 0)∧Below wr.heap.size wr (wr.alloc (.cells (aP (fun _=> .slice none 0 0) (pw l)).toArray 132))):=θ ⟨by rw[Id];exact BitsR.start wr (pw l) (aA5 _),aC wr _⟩;clear hP hO hb hVn;go_wp2_with fail;clear hsh hmk d9;generalize wr.alloc (.cells (aP (fun _=> .slice none 0 0) (pw l)).toArray 132)=wm at *;obtain⟨wl,hwl⟩:∃wl,wl=wr:=⟨_,rfl⟩;rw[←hwl]at HP HB HB0⊢;clear hwl;go_loopw [37] (fun x wr=>∃j:Nat,j≤L.length∧x= .int .i64 j∧∃vs,BitsR wr wl.heap.size wl.heap.size (pw l) vs (fY L l j)∧Below wl.heap.size wl wr) (fun x _=>L.length-(intOf x).toNat);case atStart=>exact⟨0,E,rfl,_,HB0.o.1,HB0.o.2⟩
     case round=>as_aux_lemma=>
      clear HB0;obtain⟨j,hj,rfl,vs,hR,hbl⟩:=hrel;by_cases hjl:j<L.length
      ·obtain⟨s,hs⟩:∃s,L[j]? =some s:=⟨_,ar3 hjl⟩;obtain⟨b,off,rfl,hbk,hcl⟩:=Gt HR.o hs;have hc:=hcl wr (HB.o.trans (hbl.mono HB.o.size));have hs257:=HLS.o s (ax2 hs);have hpp:=pX hs257 hlt;have i0:(0:Int)≤(j:Int):=E;have i1:(j:Int)<(L.length:Int):=E;have HFS:=θ (Ic (l:=l) hs);have HPA:=θ (fun w=>qW hs257 (E:l≤9) w);have HBI:=θ (fun w=>tA hs257 hlt w);have HLL:=θ (Bj L l (pth s l) j);clear hcl hs;generalize pth s l=π at *;generalize cV s l=bt at *;have j0:(0:Int)≤(π:Int):=E;have j1:(π:Int)<((pw l:Nat):Int):=E;have kc:=hR.cell hpp;have kf:=hR.frz π;have HRR:=θ hR;have HBL:=θ hbl;have HPP:=θ hpp;have HJL:=θ hjl;clear hR hbl hpp;have hlw:wl.heap.size<wr.heap.size:=HRR.o.lt;have HLW:=θ hlw;go_wp2_with fail;refine(HPA.o _).mono ?_;rintro e w' ⟨rfl,rfl⟩;go_wp2_with fail;refine aE (fun _=>True) Ek trivial (fun hh=>?_);refine rt 0 hh ?_;refine rt 1 hh ?_;refine rt 2 hh ?_;refine rt 3 hh ?_;refine rt 4 hh ?_;refine rt 6 hh ?_;refine rt 7 hh ?_;refine dA (i:=5) (j:=8) rfl rfl Ek rfl rfl (fun κ hK=>?bbt5) (fun κ hK=>?bbt8);case bbt5=>
        go_simp;refine hK.out _ _ trivial ?_;intro hh;try simp only[pt]
        refine rg 8 fun κ hK=>?_;go_simp
        ((refine(HBI.o _).mono ?_))
        rintro e w2 ⟨rfl,rfl⟩;refine hK.out _ _ trivial ?_;intro hh;try simp only[pt]
        refine rg 9 fun κ hK=>?_;go_simp;refine hK.out _ _ trivial ?_;intro hh;try simp only[pt]
        refine rg 10 fun κ hK=>?_;refine gV _ _ 132 rfl wl.heap.size 4 Tryz.infoBoolR aE7 rfl Ed _ _ _ rfl (aG1 (HRR.o.rows π HPP.o) _) wr.heap.size 1 [.bool bt] rfl rfl ?hus ?h1 ?c1 ?c2 ?c3 ?_;case hus=>
         intro j u hj;have hx:=aG7 _ wr.heap.size j _ _ _ (aH5 wr (.cells #[.bool bt] 4));refine Eq.trans hx ?_;simpa using hj
        case h1=>intro u hu;simp at hu;subst hu;rfl
        case c1=>have :=HLL.o;unfold maxLen;omega
        case c2=>have :=HLL.o;omega
        case c3=>have :=HLW.o;simp;omega
        intro g cap w3 hown hgrow hor hlt3;have HM3:=θ (HRR.o.mid HPP.o (w2:=(wr.alloc (.cells #[.bool bt] 4)).drew) (aC wr _).drew hgrow);have HPU:=θ (HRR.o.push HPP.o (x:=bt) (w2:=(wr.alloc (.cells #[.bool bt] 4)).drew) (aC wr _).drew rfl hown hgrow hor);have HBN:=θ (HBL.o.trans (HPU.o.2.below (B:=wl.heap.size) (fun j hj=>hj.elim (fun e=>E) (fun e=>((HRR.o.rows π HPP.o).lt j e).1)) (by have :=HLW.o;omega)));have kc3:=HM3.o.1;have kf3:=HM3.o.2;clear hown hgrow hor hlt3;refine hK.out _ _ trivial ?_;intro hh;try simp only[pt]
        refine rt 11 hh ?_;refine rg 12 fun κ hK=>?_;go_simp;refine hK.out _ _ trivial ?_;intro hh;try simp only[pt]
        refine rz ?_;clear hh;go_wp2_with fail;go_roundw;case rel=>exact⟨j+1,by have :=HJL.o;omega,by go_num,_,by rw[HFS.o];exact HPU.o.1,HBN.o⟩
        case measure=>have :=HJL.o;simp[intOf];omega
       case bbt8=>
        go_simp
        ((refine(HBI.o _).mono ?_))
        rintro e w2 ⟨rfl,rfl⟩;refine hK.out _ _ trivial ?_;intro hh;try simp only[pt]
        refine dA (i:=5) (j:=9) rfl rfl Ek rfl rfl (fun κ hK=>?bbtb5) (fun κ hK=>?bbtb9);case bbtb5=>
         go_simp;refine hK.out _ _ trivial ?_;intro hh;try simp only[pt]
         refine rg 9 fun κ hK=>?_;go_simp;refine hK.out _ _ trivial ?_;intro hh;try simp only[pt]
         refine rg 10 fun κ hK=>?_;refine gV _ _ 132 rfl wl.heap.size 4 Tryz.infoBoolR aE7 rfl Ed _ _ _ rfl (aG1 (HRR.o.rows π HPP.o) _) wr.heap.size 1 [.bool bt] rfl rfl ?hus ?h1 ?c1 ?c2 ?c3 ?_;case hus=>
          intro j u hj;have hx:=aG7 _ wr.heap.size j _ _ _ (aH5 wr (.cells #[.bool bt] 4));refine Eq.trans hx ?_;simpa using hj
         case h1=>intro u hu;simp at hu;subst hu;rfl
         case c1=>have :=HLL.o;unfold maxLen;omega
         case c2=>have :=HLL.o;omega
         case c3=>have :=HLW.o;simp;omega
         intro g cap w3 hown hgrow hor hlt3;have HM3:=θ (HRR.o.mid HPP.o (w2:=(wr.alloc (.cells #[.bool bt] 4)).drew) (aC wr _).drew hgrow);have HPU:=θ (HRR.o.push HPP.o (x:=bt) (w2:=(wr.alloc (.cells #[.bool bt] 4)).drew) (aC wr _).drew rfl hown hgrow hor);have HBN:=θ (HBL.o.trans (HPU.o.2.below (B:=wl.heap.size) (fun j hj=>hj.elim (fun e=>E) (fun e=>((HRR.o.rows π HPP.o).lt j e).1)) (by have :=HLW.o;omega)));have kc3:=HM3.o.1;have kf3:=HM3.o.2;clear hown hgrow hor hlt3;refine hK.out _ _ trivial ?_;intro hh;try simp only[pt]
         refine rt 11 hh ?_;refine rg 12 fun κ hK=>?_;go_simp;refine hK.out _ _ trivial ?_;intro hh;try simp only[pt]
         refine rz ?_;clear hh;go_wp2_with fail;go_roundw;case rel=>exact⟨j+1,by have :=HJL.o;omega,by go_num,_,by rw[HFS.o];exact HPU.o.1,HBN.o⟩
         case measure=>have :=HJL.o;simp[intOf];omega
        case bbtb9=>
         go_simp;refine hK.out _ _ trivial ?_;intro hh;try simp only[pt]
         refine rg 5 fun κ hK=>?_;go_simp;refine hK.out _ _ trivial ?_;intro hh;try simp only[pt]
         refine rg 10 fun κ hK=>?_;refine gV _ _ 132 rfl wl.heap.size 4 Tryz.infoBoolR aE7 rfl Ed _ _ _ rfl (aG1 (HRR.o.rows π HPP.o) _) wr.heap.size 1 [.bool bt] rfl rfl ?hus ?h1 ?c1 ?c2 ?c3 ?_;case hus=>
          intro j u hj;have hx:=aG7 _ wr.heap.size j _ _ _ (aH5 wr (.cells #[.bool bt] 4));refine Eq.trans hx ?_;simpa using hj
         case h1=>intro u hu;simp at hu;subst hu;rfl
         case c1=>have :=HLL.o;unfold maxLen;omega
         case c2=>have :=HLL.o;omega
         case c3=>have :=HLW.o;simp;omega
         intro g cap w3 hown hgrow hor hlt3;have HM3:=θ (HRR.o.mid HPP.o (w2:=(wr.alloc (.cells #[.bool bt] 4)).drew) (aC wr _).drew hgrow);have HPU:=θ (HRR.o.push HPP.o (x:=bt) (w2:=(wr.alloc (.cells #[.bool bt] 4)).drew) (aC wr _).drew rfl hown hgrow hor);have HBN:=θ (HBL.o.trans (HPU.o.2.below (B:=wl.heap.size) (fun j hj=>hj.elim (fun e=>E) (fun e=>((HRR.o.rows π HPP.o).lt j e).1)) (by have :=HLW.o;omega)));have kc3:=HM3.o.1;have kf3:=HM3.o.2;clear hown hgrow hor hlt3;refine hK.out _ _ trivial ?_;intro hh;try simp only[pt]
         refine rt 11 hh ?_;refine rg 12 fun κ hK=>?_;go_simp;refine hK.out _ _ trivial ?_;intro hh;try simp only[pt]
         refine rz ?_;clear hh;go_wp2_with fail;go_roundw;case rel=>exact⟨j+1,by have :=HJL.o;omega,by go_num,_,by rw[HFS.o];exact HPU.o.1,HBN.o⟩
         case measure=>have :=HJL.o;simp[intOf];omega
      ·obtain rfl:j=L.length:=E;have hpl2:w.heap.size<wl.heap.size:=HP.o.tyP.lt;have HPL:=θ hpl2;have HP1:Hid (WavePt wr w.heap.size w.heap.size V (iP l 0) Q O S L.length):=θ (HP.o.below hbl);have HBE:Hid (Below w.heap.size w wr):=θ (HB.o.trans (hbl.mono HB.o.size));have HRR:=θ hR;clear hR hbl hpl2 HB HP hj hjl;go_wp2_with fail;obtain⟨we,hwe⟩:∃we,we=wr:=⟨_,rfl⟩;rw[←hwe]at HP1 HBE HRR⊢;clear hwe;go_loopw [59] (fun x wr=>∃k:Nat,k≤pw l∧x= .int .i64 k∧∃V Q O S,WavePt wr w.heap.size w.heap.size V (iP l k) Q O S L.length∧BitsOK O L l k∧Chg (fun j=>j=w.heap.size) we wr∧(∀g,(V l).ownBlock=some g→we.heap.size≤g)∧(∀l',l<l'→V l'= .slice none 0 0)) (fun x _=>pw l-(intOf x).toNat);case atStart=>exact⟨0,E,rfl,V,Q,O,S,HP1.o,HO.o,Chg.refl,fun g hg=>by rw[HVN.o l (aA5 _)]at hg;simp[Value.ownBlock]at hg,fun l' hl'=>HVN.o l' E⟩
       case round=>as_aux_lemma=>
        clear HP1 HO HVN;clear V Q O S;obtain⟨k,hk,rfl,V,Q,O,S,hP,hO,hC,hG,hVn⟩:=hrel;have HC:=θ hC;by_cases hkp:k<pw l
        ·have hBR:BitsR wr wl.heap.size wl.heap.size (pw l) vs (fY L l L.length):=HRR.o.chg hC (fun j hj e=>by have :=HPL.o;omega);have hown:=hBR.rows k hkp;rw[yE]at hown;obtain⟨a',c',hv,_,_⟩:=aM hown;have hkc:=hBR.cell hkp;rw[hv]at hown hkc;have hlv:(lvl L l k).length≤L.length:=by have :=Bj L l k L.length;rwa[yE]at this
         have hcap:=Rv hown;have HNEW:Hid (∀m,Calls Tryz.prog 195 #[.slice a' (lvl L l k).length c'] (wr.drewN m) fun e w'=>∃q S' o,e= .returned (.pointer (some ⟨q,0,none⟩))∧(∃mm,TreeIs S' w' q o mm 0)∧(∀j,S' j→wr.heap.size≤j)∧aF o=lvl L l k∧Chg (fun _=>False) wr w'):=θ (fun m=>by
          refine(ak3 (wr.drewN m) (lvl L l k) (eB (w:=wr.drewN m) hown) hcap E).mono ?_
          rintro e w' ⟨q,S',o,rfl,h1,h2,h3,h4⟩
          exact⟨q,S',o,rfl,⟨_,h1⟩,h2,h3,((Chg.refl (S:=fun _=>False) (w:=wr)).drewN m).trans h4 (fun b hb=>hb.elim)⟩)
         have i0:(0:Int)≤(k:Int):=E;have i1:(k:Int)<((pw l:Nat):Int):=E;have l0:(0:Int)≤(l:Int):=E;have l9:(l:Int)<9:=E;have pc:wr.cell? ⟨w.heap.size,l,none⟩=some (V l):=by rw[aG7 wr w.heap.size l _ _ _ hP.head,Az V _ hlt]
         have hpw:w.heap.size<wr.heap.size:=hP.tyP.lt;have HPP:=θ hP;have HO:=θ hO;have HG:=θ hG;have HVN:=θ hVn;have HKP:=θ hkp;have HPW:=θ hpw;have HLT:=θ hlt;clear hP hO hC hG hVn hBR hown hv hcap hlv;go_wp2_with fail;refine aE (fun _=>True) Ek trivial (fun hh=>?_);refine rt 0 hh ?_;refine rt 1 hh ?_;refine rt 2 hh ?_;refine rt 3 hh ?_;refine rt 4 hh ?_;refine rt 5 hh ?_;refine rt 6 hh ?_;refine rt 8 hh ?_;refine rt 10 hh ?_;refine rt 11 hh ?_;refine rt 15 hh ?_;refine rt 16 hh ?_;refine dA (i:=7) (j:=9) rfl rfl Ek rfl rfl (fun κ hK=>?btr7) (fun κ hK=>?btr9);case btr7=>
          go_simp;refine hK.out _ _ trivial ?_;intro hh;try simp only[pt]
          refine rg 9 fun κ hK=>?_;go_simp
          ((refine(HNEW.o 1).mono ?_))
          rintro e w2 ⟨q,S',o,rfl,⟨mm,hT⟩,hS',hbits,hC2⟩;have pc2:w2.cell? ⟨w.heap.size,l,none⟩=some (V l):=hC2.cell (p:=⟨w.heap.size,l,none⟩) pc id;have hpw2:w.heap.size<w2.heap.size:=by have :=hC2.size;have :=HPW.o;omega
          have HPW2:=θ hpw2;have HTR:=θ hT;have HSS:=θ hS';have HBT:=θ hbits;have HC2:=θ hC2;clear hT hS' hbits hC2 HNEW;refine hK.out _ _ trivial ?_;intro hh;try simp only[pt]
          refine rt 12 hh ?_;refine rg 13 fun κ hK=>?_;go_simp;refine hK.out _ _ trivial ?_;intro hh;try simp only[pt]
          refine rg 14 fun κ hK=>?_;have HROW:=θ (HC2.o.own (by have :=HPP.o.rows l HLT.o;rw[eQ]at this;exact this:wr.ownsRow w.heap.size 181 3 (V l) k (shC Q l k)) (fun _ _=>id));refine gV _ _ 175 rfl w.heap.size 181 Tryz.infoShelf Tryz.underlying175 rfl Ed _ _ _ rfl (aG1 HROW.o _) w2.heap.size 1 [.pointer (some ⟨q,0,none⟩), .int .i64 l, .int .i64 k] rfl rfl ?hus ?h1 ?c1 ?c2 ?c3 ?_;case hus=>
           intro j u hj;have hx:=aG7 _ w2.heap.size j _ _ _ (aH5 w2 (.cells #[.pointer (some ⟨q,0,none⟩), .int .i64 l, .int .i64 k] 181));refine Eq.trans hx ?_;simpa using hj
          case h1=>intro u hu;simp at hu;rcases hu with rfl | rfl | rfl<;>rfl
          case c1=>have :=HKP.o;unfold maxLen;omega
          case c2=>have :=HKP.o;omega
          case c3=>have :=HPW2.o;simp;omega
          intro g cap w3 hown hgrow hor hlt3;have hgrow:(w2.alloc (.cells #[.pointer (some ⟨q,0,none⟩), .int .i64 l, .int .i64 k] 181)).grownBy w3 (V l).ownBlock:=hgrow;have hor:(V l).ownBlock=some g∨(w2.alloc (.cells #[.pointer (some ⟨q,0,none⟩), .int .i64 l, .int .i64 k] 181)).heap.size≤g:=hor;have HM3:=θ (HPP.o.mid HLT.o HC2.o (w2:=(w2.alloc (.cells #[.pointer (some ⟨q,0,none⟩), .int .i64 l, .int .i64 k] 181))) (aC w2 _) hgrow);have hpu:=HPP.o.push HLT.o (m:=mm) (o:=o) HTR.o HSS.o HC2.o (w2:=(w2.alloc (.cells #[.pointer (some ⟨q,0,none⟩), .int .i64 l, .int .i64 k] 181))) (aC w2 _) (v:= .slice (some ⟨g,0,none⟩) (k+1) cap) (g:=g) rfl (by rw[eQ];exact hown) hgrow hor;rw[vP,eQ]at hpu;have HPU:=θ hpu;have hor2:(V l).ownBlock=some g∨we.heap.size≤g:=hor.elim Ei (fun h=>Ej (by simp at h;have :=HC2.o.size;have :=HC.o.size;omega));have HOR:=θ hor2;have HOK:=θ (HO.o.push HBT.o);have pc3:=HM3.o.1;have pf3:=HM3.o.2;clear hown hgrow hor hor2 hlt3 hpu pc2;refine hK.out _ _ trivial ?_;intro hh;try simp only[pt]
          refine rt 17 hh ?_;refine rg 18 fun κ hK=>?_;go_simp;refine hK.out _ _ trivial ?_;intro hh;try simp only[pt]
          refine rz ?_;clear hh;go_wp2_with fail;go_roundw;case rel=>exact⟨k+1,by have :=HKP.o;omega,by go_num,_,_,_,_,HPU.o.1,HOK.o,HC.o.trans HPU.o.2 (fun j hj=>hj.elim Ei (fun e=>Ej (HG.o j e))),fun g' hg'=>by
           have e1:bM V l (.slice (some ⟨g,0,none⟩) (k+1) cap) l= .slice (some ⟨g,0,none⟩) (k+1) cap:=by simp[bM]
           rw[e1]at hg'
           simp only[Value.ownBlock,aD4]at hg'
           subst hg'
           exact HOR.o.elim (fun e=>HG.o _ e) id,fun l' hl'=>by
           have e1:bM V l (.slice (some ⟨g,0,none⟩) (k+1) cap) l'=V l':=by unfold bM;rw[aH8 E]
           rw[e1];exact HVN.o l' hl'⟩
          case measure=>have :=HKP.o;simp[intOf];omega
         case btr9=>
          go_simp
          ((refine(HNEW.o 1).mono ?_))
          rintro e w2 ⟨q,S',o,rfl,⟨mm,hT⟩,hS',hbits,hC2⟩;have pc2:w2.cell? ⟨w.heap.size,l,none⟩=some (V l):=hC2.cell (p:=⟨w.heap.size,l,none⟩) pc id;have hpw2:w.heap.size<w2.heap.size:=by have :=hC2.size;have :=HPW.o;omega
          have HPW2:=θ hpw2;have HTR:=θ hT;have HSS:=θ hS';have HBT:=θ hbits;have HC2:=θ hC2;clear hT hS' hbits hC2 HNEW;refine hK.out _ _ trivial ?_;intro hh;try simp only[pt]
          refine rt 12 hh ?_;refine dA (i:=7) (j:=13) rfl rfl Ek rfl rfl (fun κ hK=>?btrb7) (fun κ hK=>?btrb13);case btrb7=>
           go_simp;refine hK.out _ _ trivial ?_;intro hh;try simp only[pt]
           refine rg 13 fun κ hK=>?_;go_simp;refine hK.out _ _ trivial ?_;intro hh;try simp only[pt]
           refine rg 14 fun κ hK=>?_;have HROW:=θ (HC2.o.own (by have :=HPP.o.rows l HLT.o;rw[eQ]at this;exact this:wr.ownsRow w.heap.size 181 3 (V l) k (shC Q l k)) (fun _ _=>id));refine gV _ _ 175 rfl w.heap.size 181 Tryz.infoShelf Tryz.underlying175 rfl Ed _ _ _ rfl (aG1 HROW.o _) w2.heap.size 1 [.pointer (some ⟨q,0,none⟩), .int .i64 l, .int .i64 k] rfl rfl ?hus ?h1 ?c1 ?c2 ?c3 ?_;case hus=>
            intro j u hj;have hx:=aG7 _ w2.heap.size j _ _ _ (aH5 w2 (.cells #[.pointer (some ⟨q,0,none⟩), .int .i64 l, .int .i64 k] 181));refine Eq.trans hx ?_;simpa using hj
           case h1=>intro u hu;simp at hu;rcases hu with rfl | rfl | rfl<;>rfl
           case c1=>have :=HKP.o;unfold maxLen;omega
           case c2=>have :=HKP.o;omega
           case c3=>have :=HPW2.o;simp;omega
           intro g cap w3 hown hgrow hor hlt3;have hgrow:(w2.alloc (.cells #[.pointer (some ⟨q,0,none⟩), .int .i64 l, .int .i64 k] 181)).grownBy w3 (V l).ownBlock:=hgrow;have hor:(V l).ownBlock=some g∨(w2.alloc (.cells #[.pointer (some ⟨q,0,none⟩), .int .i64 l, .int .i64 k] 181)).heap.size≤g:=hor;have HM3:=θ (HPP.o.mid HLT.o HC2.o (w2:=(w2.alloc (.cells #[.pointer (some ⟨q,0,none⟩), .int .i64 l, .int .i64 k] 181))) (aC w2 _) hgrow);have hpu:=HPP.o.push HLT.o (m:=mm) (o:=o) HTR.o HSS.o HC2.o (w2:=(w2.alloc (.cells #[.pointer (some ⟨q,0,none⟩), .int .i64 l, .int .i64 k] 181))) (aC w2 _) (v:= .slice (some ⟨g,0,none⟩) (k+1) cap) (g:=g) rfl (by rw[eQ];exact hown) hgrow hor;rw[vP,eQ]at hpu;have HPU:=θ hpu;have hor2:(V l).ownBlock=some g∨we.heap.size≤g:=hor.elim Ei (fun h=>Ej (by simp at h;have :=HC2.o.size;have :=HC.o.size;omega));have HOR:=θ hor2;have HOK:=θ (HO.o.push HBT.o);have pc3:=HM3.o.1;have pf3:=HM3.o.2;clear hown hgrow hor hor2 hlt3 hpu pc2;refine hK.out _ _ trivial ?_;intro hh;try simp only[pt]
           refine rt 17 hh ?_;refine rg 18 fun κ hK=>?_;go_simp;refine hK.out _ _ trivial ?_;intro hh;try simp only[pt]
           refine rz ?_;clear hh;go_wp2_with fail;go_roundw;case rel=>exact⟨k+1,by have :=HKP.o;omega,by go_num,_,_,_,_,HPU.o.1,HOK.o,HC.o.trans HPU.o.2 (fun j hj=>hj.elim Ei (fun e=>Ej (HG.o j e))),fun g' hg'=>by
            have e1:bM V l (.slice (some ⟨g,0,none⟩) (k+1) cap) l= .slice (some ⟨g,0,none⟩) (k+1) cap:=by simp[bM]
            rw[e1]at hg'
            simp only[Value.ownBlock,aD4]at hg'
            subst hg'
            exact HOR.o.elim (fun e=>HG.o _ e) id,fun l' hl'=>by
            have e1:bM V l (.slice (some ⟨g,0,none⟩) (k+1) cap) l'=V l':=by unfold bM;rw[aH8 E]
            rw[e1];exact HVN.o l' hl'⟩
           case measure=>have :=HKP.o;simp[intOf];omega
          case btrb13=>
           go_simp;refine hK.out _ _ trivial ?_;intro hh;try simp only[pt]
           refine rg 7 fun κ hK=>?_;go_simp;refine hK.out _ _ trivial ?_;intro hh;try simp only[pt]
           refine rg 14 fun κ hK=>?_;have HROW:=θ (HC2.o.own (by have :=HPP.o.rows l HLT.o;rw[eQ]at this;exact this:wr.ownsRow w.heap.size 181 3 (V l) k (shC Q l k)) (fun _ _=>id));refine gV _ _ 175 rfl w.heap.size 181 Tryz.infoShelf Tryz.underlying175 rfl Ed _ _ _ rfl (aG1 HROW.o _) w2.heap.size 1 [.pointer (some ⟨q,0,none⟩), .int .i64 l, .int .i64 k] rfl rfl ?hus ?h1 ?c1 ?c2 ?c3 ?_;case hus=>
            intro j u hj;have hx:=aG7 _ w2.heap.size j _ _ _ (aH5 w2 (.cells #[.pointer (some ⟨q,0,none⟩), .int .i64 l, .int .i64 k] 181));refine Eq.trans hx ?_;simpa using hj
           case h1=>intro u hu;simp at hu;rcases hu with rfl | rfl | rfl<;>rfl
           case c1=>have :=HKP.o;unfold maxLen;omega
           case c2=>have :=HKP.o;omega
           case c3=>have :=HPW2.o;simp;omega
           intro g cap w3 hown hgrow hor hlt3;have hgrow:(w2.alloc (.cells #[.pointer (some ⟨q,0,none⟩), .int .i64 l, .int .i64 k] 181)).grownBy w3 (V l).ownBlock:=hgrow;have hor:(V l).ownBlock=some g∨(w2.alloc (.cells #[.pointer (some ⟨q,0,none⟩), .int .i64 l, .int .i64 k] 181)).heap.size≤g:=hor;have HM3:=θ (HPP.o.mid HLT.o HC2.o (w2:=(w2.alloc (.cells #[.pointer (some ⟨q,0,none⟩), .int .i64 l, .int .i64 k] 181))) (aC w2 _) hgrow);have hpu:=HPP.o.push HLT.o (m:=mm) (o:=o) HTR.o HSS.o HC2.o (w2:=(w2.alloc (.cells #[.pointer (some ⟨q,0,none⟩), .int .i64 l, .int .i64 k] 181))) (aC w2 _) (v:= .slice (some ⟨g,0,none⟩) (k+1) cap) (g:=g) rfl (by rw[eQ];exact hown) hgrow hor;rw[vP,eQ]at hpu;have HPU:=θ hpu;have hor2:(V l).ownBlock=some g∨we.heap.size≤g:=hor.elim Ei (fun h=>Ej (by simp at h;have :=HC2.o.size;have :=HC.o.size;omega));have HOR:=θ hor2;have HOK:=θ (HO.o.push HBT.o);have pc3:=HM3.o.1;have pf3:=HM3.o.2;clear hown hgrow hor hor2 hlt3 hpu pc2;refine hK.out _ _ trivial ?_;intro hh;try simp only[pt]
           refine rt 17 hh ?_;refine rg 18 fun κ hK=>?_;go_simp;refine hK.out _ _ trivial ?_;intro hh;try simp only[pt]
           refine rz ?_;clear hh;go_wp2_with fail;go_roundw;case rel=>exact⟨k+1,by have :=HKP.o;omega,by go_num,_,_,_,_,HPU.o.1,HOK.o,HC.o.trans HPU.o.2 (fun j hj=>hj.elim Ei (fun e=>Ej (HG.o j e))),fun g' hg'=>by
            have e1:bM V l (.slice (some ⟨g,0,none⟩) (k+1) cap) l= .slice (some ⟨g,0,none⟩) (k+1) cap:=by simp[bM]
            rw[e1]at hg'
            simp only[Value.ownBlock,aD4]at hg'
            subst hg'
            exact HOR.o.elim (fun e=>HG.o _ e) id,fun l' hl'=>by
            have e1:bM V l (.slice (some ⟨g,0,none⟩) (k+1) cap) l'=V l':=by unfold bM;rw[aH8 E]
            rw[e1];exact HVN.o l' hl'⟩
           case measure=>have :=HKP.o;simp[intOf];omega
        ·obtain rfl:k=pw l:=E;have HN:=θ hO.next;have HP2:=θ hP;have HVN:=θ hVn;have hbn:Below w.heap.size we wr:=hC.below (fun j e=>E) HBE.o.size;have HB2:=θ (HBE.o.trans hbn);clear hP hO hC hG hVn hbn;go_wp2_with fail;go_roundw;case rel=>exact⟨l+1,E,by go_num,V,Q,O,S,by rw[←Qc];exact HP2.o,HN.o,fun l' hl'=>HVN.o l' E,HB2.o⟩
         case measure=>simp[intOf];omega
    ·obtain rfl:l=9:=E;have HD:=θ (hP.done Qb hb.size);have HL:=θ hO.done;have HB:=θ hb;clear hP hO hb hVn;go_wp2_with fail;go_ret2;obtain⟨D,hD⟩:=HD.o;exact⟨_,D,O,rfl,hD,HL.o,HB.o⟩
def zV(o:Option ST):Bool:=decide (0<(aF o).length)
def shL(O:Nat→Nat→Option ST)(l k:Nat):List (Option ST):=((List.range k).map (O l)).filter zV
def fJ(O:Nat→Nat→Option ST)(l:Nat):List (Option ST):=(List.range l).flatMap (fun l=>shL O l (pw l))
def gR(o:Option ST):List Value:=match o with
 | none=>[.int .i64 0, .int .i64 0, .int .i64 0, .int .i64 0]
 | some t=>[.int .i64 t.bits.length, .int .i64 t.high, .int .i64 t.leaves, .int .i64 t.size]
theorem Gl(o:Option ST):sN o= .agg (gR o).toArray:=by cases o<;>rfl
theorem rA(o:Option ST):(gR o).length=4:=by cases o<;>rfl
theorem Zv(O:Nat→Nat→Option ST)(l:Nat):shL O l 0=[]:=rfl
theorem Zt(O:Nat→Nat→Option ST)(l k:Nat):shL O l (k+1)=shL O l k++if zV (O l k)then [O l k]else []:=by
 unfold shL;rw[ay4,at6,aq4];congr 1;simp[aq5]
theorem sL(O:Nat→Nat→Option ST)(l:Nat):fJ O (l+1)=fJ O l++shL O l (pw l):=by
 unfold fJ;rw[ay4,aq6];simp
theorem Ts(O:Nat→Nat→Option ST)(l k:Nat):(shL O l k).length≤k:=by
 unfold shL;exact aA6 (as9 _ _) Es
theorem aj2(O:Nat→Nat→Option ST)(l:Nat)(h:l≤9):(fJ O l).length≤l*256:=by
 induction l with
 | zero=>simp[fJ]
 | succ l ih=>
  rw[sL,as6];have h1:=ih E;have h2:=Ts O l (pw l);have h3:pw l≤256:=tH E;omega
theorem Tryz.infoShape:(Tryz.prog.info? 85).map (fun i=>(i.zero,i.size,i.bytes))=some (some (.agg #[.int .i64 0, .int .i64 0, .int .i64 0, .int .i64 0]),4,32):=Ek
theorem yP{w w':World}{base:Nat}{e:TypeId}{size:Nat}{v:Value}{n:Nat}{xs:List Value}(h:w.ownsRow base e size v n xs)(hb:Below w.heap.size w w'):w'.ownsRow base e size v n xs:=
 h.kept (row:=none) ⟨hb.os,hb.tape,hb.output,hb.size,fun k hk _=>hb.block k hk⟩ (by cases hv:v.ownBlock<;>simp)
theorem Tx(o:Option ST):∃a0 a1 a2 a3:Nat,gR o=[.int .i64 a0, .int .i64 a1, .int .i64 a2, .int .i64 a3]:=by
 cases o with
 | none=>exact⟨0,0,0,0,rfl⟩
 | some t=>exact⟨_,_,_,_,rfl⟩
def ShRow(w:World)(base:Nat)(v:Value)(ys:List (Option ST)):Prop:=w.ownsRow base 85 4 v ys.length (ys.flatMap gR)
theorem Ka{B:Nat}{X:Nat→Prop}{w:World}{p n:Nat}{D:WD}{O:Nat→Nat→Option ST}{vis:Int}{Vb:Nat→Nat→Int→Prop}(h:WaveE B X w p D O n vis Vb):
  Calls Tryz.prog 86 #[.pointer (some ⟨p,0,none⟩)] w fun e w'=>∃v,e= .returned v∧ShRow w' w.heap.size v (fJ O 9)∧Below w.heap.size w w':=by
 obtain⟨hc0,c9,c10,fz,hp⟩:=h.cells;have x0:=hc0 0 E;have x1:=hc0 1 E;have x2:=hc0 2 E;have x3:=hc0 3 E;have x4:=hc0 4 E;have x5:=hc0 5 E;have x6:=hc0 6 E;have x7:=hc0 7 E;have x8:=hc0 8 E;have HW:=θ h;clear h hc0 fz;go_enter Tryz.func86,Tryz.ntmps86;go_wp2_with fail;clear x0 x1 x2 x3 x4 x5 x6 x7 x8 c9 c10;go_loopw [3,14] (fun v x wr=>∃l:Nat,l≤9∧x= .int .i64 l∧ShRow wr w.heap.size v (fJ O l)∧Below w.heap.size w wr) (fun _ x _=>9-(intOf x).toNat);case atStart=>exact⟨0,E,rfl,aG2 _ _ _ _,am4 _ _⟩
 case round=>as_aux_lemma=>
  obtain⟨l,hl,rfl,hr,hb⟩:=hrel;by_cases hlt:l<9
  ·have hix:∀w:World,(Instr.index 176 (.agg #[D.row 0,D.row 1,D.row 2,D.row 3,D.row 4,D.row 5,D.row 6,D.row 7,D.row 8]) (.int .i64 (l:Int))).run Tryz.prog w= .ok (.slice (some ⟨D.G l,0,none⟩) (pw l) (D.C l)) w:=pQ D hlt;have hpl:=tH hlt;have HIX:=θ hix;have d9:decide ((l:Int)<9)=true:=aH1 E;go_wp2_with fail;clear hix d9;go_loopw [3,19] (fun v x wr=>∃k:Nat,k≤pw l∧x= .int .i64 k∧ShRow wr w.heap.size v (fJ O l++shL O l k)∧Below w.heap.size w wr) (fun _ x _=>pw l-(intOf x).toNat);case atStart=>exact⟨0,E,rfl,by rw[Zv,ao8];exact hr,hb⟩
   case round=>as_aux_lemma=>
    clear hr hb;obtain⟨k,hk,rfl,hr,hb⟩:=hrel;by_cases hkp:k<pw l
    ·obtain⟨r0,r1,r2⟩:=(HW.o.below hb).shelf hlt hkp;have HSZ:=θ hb.size;have HLN:=θ (fun(w':World) (hb':Below w.heap.size w w')=>(HW.o.below hb').tLen hlt hkp);have HSH:=θ (fun(w':World) (hb':Below w.heap.size w w')=>(HW.o.below hb').tShape hlt hkp);have HR:=θ hr;have HB:=θ hb;have HKP:=θ hkp;have i0:(0:Int)≤(k:Int):=E;have i1:(k:Int)<((pw l:Nat):Int):=E;clear hr hb;obtain⟨q,hq⟩:∃q,D.Q l k=q:=⟨_,rfl⟩;obtain⟨g,hg⟩:∃g,D.G l=g:=⟨_,rfl⟩;rw[hq]at HLN HSH r0;rw[hg]at r0 r1 r2⊢;clear hq hg;generalize D.C l=gc at *;clear HIX;go_wp2_with fail;have hb0:=aC wr (.cells #[.pointer (some ⟨q,0,none⟩), .int .i64 l, .int .i64 k] 181);have hx3:Box3 (wr.alloc (.cells #[.pointer (some ⟨q,0,none⟩), .int .i64 l, .int .i64 k] 181)) wr.heap.size (.pointer (some ⟨q,0,none⟩)) (.int .i64 l) (.int .i64 k) 181:=aH5 wr _;have HR1:Hid (ShRow (wr.alloc (.cells #[.pointer (some ⟨q,0,none⟩), .int .i64 l, .int .i64 k] 181)) w.heap.size u3 (fJ O l++shL O l k)):=θ (aG1 HR.o _);have HB1:Hid (Below w.heap.size w (wr.alloc (.cells #[.pointer (some ⟨q,0,none⟩), .int .i64 l, .int .i64 k] 181))):=θ (HB.o.trans (hb0.mono HSZ.o));clear HR HB hb0 r0 r1 r2;generalize wr.alloc (.cells #[.pointer (some ⟨q,0,none⟩), .int .i64 l, .int .i64 k] 181)=wa at *;refine(HLN.o _ HB1.o).mono ?_;rintro e w1 ⟨rfl,m,rfl⟩;obtain⟨b90,b91,b92⟩:=hx3.cells;have b90:(wa.drewN m).cell? ⟨wr.heap.size,0,none⟩=some (.pointer (some ⟨q,0,none⟩)):=b90;have HB2:Hid (Below w.heap.size w (wa.drewN m)):=θ (aX HB1.o m);have HR2:Hid (ShRow (wa.drewN m) w.heap.size u3 (fJ O l++shL O l k)):=HR1;clear HB1 HR1 hx3 b91 b92 HLN;generalize wa.drewN m=w1 at *;have hsucc:=Zt O l k;obtain⟨z,hz⟩:∃z,(aF (O l k)).length=z:=⟨_,rfl⟩;have hne:zV (O l k)=decide (0<z):=by rw[←hz];rfl
     rw[hz];by_cases hz0:0<z
     ·have hne:zV (O l k)=true:=hne.trans (aH1 hz0);rw[hne,aH9 rfl]at hsucc;have d0:decide ((0:Int)<(z:Int))=true:=aH1 E;have HSU:=θ hsucc;have HHS:=θ (HSH.o _ HB2.o);obtain⟨o,ho⟩:∃o,O l k=o:=⟨_,rfl⟩;rw[ho]at HHS HSU;obtain⟨a0,a1,a2,a3,hsc⟩:=Tx o;rw[Gl,hsc]at HHS;have HSC:=θ hsc;have HLE:Hid ((fJ O l++shL O l k).length≤100000):=θ (by
       have h1:=aj2 O l hl
       have h2:=Ts O l k
       rw[as6];omega)
      clear hne hz hsucc HSH ho hsc;go_wp2_with fail;refine HHS.o.mono ?_;rintro e w3 ⟨rfl,hb3⟩;have HB3:Hid (Below w.heap.size w w3):=θ (HB2.o.trans (hb3.mono HB2.o.size));have hr3:ShRow w3 w.heap.size u3 (fJ O l++shL O l k):=yP HR2.o hb3;have hs3:=HB3.o.size;have hle:=HLE.o;obtain⟨ys,hys⟩:∃ys,fJ O l++shL O l k=ys:=⟨_,rfl⟩;rw[hys]at hr3 hle;have HYS:Hid (fJ O l++shL O l (k+1)=ys++[o]):=θ (by rw[HSU.o,←ao7,hys]);obtain⟨n1,hn1⟩:∃n1,ys.length=n1:=⟨_,rfl⟩;obtain⟨xs1,hxs1⟩:∃xs1,ys.flatMap gR=xs1:=⟨_,rfl⟩;unfold ShRow at hr3;rw[hxs1,hn1]at hr3;rw[hn1]at hle;have HN1:=θ hn1;have HX1:=θ hxs1;clear HB2 HR2 HHS hb3 b90 HSU hys HLE hn1 hxs1 HW;go_wp2_with (at_builtin;refine sX rfl _ _ 48 rfl w.heap.size 85 Tryz.infoShape Tryz.underlying48 rfl Ed _ _ _ rfl (aG1 hr3 _) w3.heap.size 1 [.int .i64 a0, .int .i64 a1, .int .i64 a2, .int .i64 a3] rfl rfl ?hus ?h1 ?c1 ?c2 ?c3 ?_);case hus=>
       intro j u hj;rw[aG7 _ w3.heap.size j _ _ _ (aH5 w3 _)];simpa using hj
      case h1=>intro u hu;simp at hu;rcases hu with rfl | rfl | rfl | rfl<;>rfl
      case c1=>unfold maxLen;omega
      case c2=>omega
      case c3=>simp;omega
      intro gg cp w4 hown hgrow hor hlt4;have HR4:Hid (ShRow w4 w.heap.size (.slice (some ⟨gg,0,none⟩) (n1+1) cp) (fJ O l++shL O l (k+1))):=θ (by
       rw[HYS.o]
       unfold ShRow
       rw[as6,aq6,HN1.o,HX1.o]
       simp only[aq7,List.flatMap_nil,ao8,HSC.o]
       exact hown)
      have hgr:w3.grownBy w4 u3.ownBlock:=⟨hgrow.os,hgrow.tape,hgrow.output,by have :=hgrow.size;simp at this;omega,fun j hj hne=>by
       rw[hgrow.block j (by simp;omega) hne];exact am3 w3 _ j hj⟩
      have HB4:Hid (Below w.heap.size w w4):=θ (HB3.o.grown hgr hs3 (fun j hj=>(hr3.lt j hj).1));clear hown hgrow hor hlt4 hgr hr3 HB3 HYS HN1 HX1 HSC;go_wp2_with fail;go_roundw;case rel=>exact⟨k+1,by have :=HKP.o;omega,by go_num,HR4.o,HB4.o⟩
      case measure=>have :=HKP.o;simp[intOf];omega
     ·obtain rfl:z=0:=E;have hne:zV (O l k)=false:=hne;rw[hne,aH8 Ed,ao8]at hsucc;have HSU:=θ hsucc;clear hne hz hsucc HSH;go_wp2_with fail;go_roundw;case rel=>exact⟨k+1,by have :=HKP.o;omega,by go_num,by rw[HSU.o];exact HR2.o,HB2.o⟩
      case measure=>have :=HKP.o;simp[intOf];omega
    ·obtain rfl:k=pw l:=E;go_wp2_with fail;go_roundw;case rel=>exact⟨l+1,E,by go_num,by rw[sL];exact hr,hb⟩
     case measure=>simp[intOf];omega
  ·obtain rfl:l=9:=E;go_wp2_with fail;go_ret;exact⟨_,rfl,hr,hb⟩
theorem wIns1{B:Nat}{Z:Nat→Prop}{w:World}{p n:Nat}{D:WD}{O:Nat→Nat→Option ST}{vis:Int}(h:WaveE B Z w p D O n vis bA){l k:Nat}(hl:l<9)(hk:k<pw l){b1 b2:Nat}{j:Nat}(hj:j≤(aF (O l k)).length)(hlen:(aF (O l k)).length<2147483648){x:Bool}
  (h1:Box1 w b1 (.int .i64 j) 3) (h2:Box1 w b2 (.bool x) 4):
  Calls Tryz.prog 215 #[bQ D l k, .pointer (some ⟨b1,0,none⟩), .pointer (some ⟨b2,0,none⟩)] w fun e w'=>e= .returned (.tuple #[])∧mN B Z (fun _=>False) w w' p D (dM O l k (lO (O l k) j x)) n vis l k (7*aO (O l k)+2)∧True:=by
 have hb0:=aC w (.cells #[.pointer (some ⟨D.Q l k,0,none⟩), .int .i64 l, .int .i64 k] 181);obtain⟨W,hW⟩:∃W,W=w.alloc (.cells #[.pointer (some ⟨D.Q l k,0,none⟩), .int .i64 l, .int .i64 k] 181):=⟨_,rfl⟩;rw[←hW]at hb0;have c1:=(h1.below hb0).cell;have c2:=(h2.below hb0).cell;have HRK:=θ ((h.below hb0).tInsert hl hk j hj hlen x);have HB0:=θ hb0;clear h h1 h2 hb0 hl hk hj hlen;unfold bQ;obtain⟨q,hq⟩:∃q,D.Q l k=q:=⟨_,rfl⟩;rw[hq]at HRK hW⊢;clear hq;subst hW;go_enter Tryz.func215,Tryz.ntmps215;go_wp2_with fail;refine HRK.o.mono ?_;rintro e w1 ⟨rfl,hE1,hC1⟩;have HE1:=θ hE1;have HC1:=θ hC1;clear hE1 hC1 HRK;go_wp2_with fail;go_end0;refine⟨rfl,⟨HE1.o,?_⟩,trivial⟩;exact(Chg.of_below (S:=fun j=>exT B Z j∨False) HB0.o).trans (HC1.o.mono (fun j hj=>Ei hj)) (fun j hj=>Ei hj)
def LvlM(O:Nat→Nat→Option ST)(L L':List Nat)(l:Nat):Prop:=∀l' k,l'<9→k<pw l'→aF (O l' k)=if l'<l then lvl L' l' k else lvl L l' k
theorem LvlM.start {O:Nat→Nat→Option ST}{L L':List Nat}(h:jM O L):LvlM O L L' 0:=fun l' k h1 h2=>by rw[aH8 E];exact h l' k h1 h2
theorem LvlM.fin {O:Nat→Nat→Option ST}{L L':List Nat}(h:LvlM O L L' 9):jM O L':=fun l' k h1 h2=>by rw[h l' k h1 h2,aH9 h1]
theorem Cr{l:List Bool}{k:Nat}(b x:Bool)(h:k≤l.length):aJ (inL l k b) k x=aJ l k x:=by
 unfold aJ inL;rw[az1 (by rw[at5];omega),az5,Nat.min_self]
theorem LvlM.ins {O:Nat→Nat→Option ST}{L:List Nat}{k s l:Nat}(h:LvlM O L (inL L k s) l)(hk:k≤L.length)(hl:l<9)(hs:s<257):
  LvlM (dM O l (pth s l) (lO (O l (pth s l)) (bE L l (pth s l) k) (cV s l))) L (inL L k s) (l+1)∧aF (O l (pth s l))=lvl L l (pth s l):=by
 have hb:aF (O l (pth s l))=lvl L l (pth s l):=by rw[h l _ hl (yS E E),aH8 E]
 refine⟨fun l' k' h1 h2=>?_,hb⟩;by_cases e:l'=l∧k'=pth s l
 ·obtain⟨rfl,rfl⟩:=e;rw[cA,aH9 E,rW (by rw[hb];exact Ke _ _ _ _),hb,Ri s hk,aH9 rfl]
 ·have hne:l'≠l∨k'≠pth s l:=E;rw[dI _ _ hne,h l' k' h1 h2];by_cases e2:l'=l
  ·subst e2;rw[aH8 E,aH9 E,Ri s hk,aH8 E]
  ·by_cases e3:l'<l
   ·rw[aH9 e3,aH9 E]
   ·rw[aH8 e3,aH8 E]
theorem aW(w:World)(a b:Obj):Below w.heap.size w ((w.alloc a).alloc b).drew:=
 (((am4 _ _).alloc (aA5 _) _).alloc Es _).drew
theorem iN(w:World)(v0 v1 v2 u:Value)(T U:TypeId):Box3 ((w.alloc (.cells #[v0,v1,v2] T)).alloc (.cells #[u] U)).drew w.heap.size v0 v1 v2 T∧Box1 ((w.alloc (.cells #[v0,v1,v2] T)).alloc (.cells #[u] U)).drew (w.heap.size+1) u U:=by
 have h1:=aH5 w (.cells #[v0,v1,v2] T);have h2:=aH5 (w.alloc (.cells #[v0,v1,v2] T)) (.cells #[u] U);rw[show (w.alloc (.cells #[v0,v1,v2] T)).heap.size=w.heap.size+1 by simp]at h2;exact⟨(Chg.of_below (S:=fun _=>False) (aC (w.alloc (.cells #[v0,v1,v2] T)) _)).heap h1 id,h2⟩
theorem lN(w:World)(v0 v1 v2 u:Value)(T U:TypeId):Box3 ((w.alloc (.cells #[u] U)).alloc (.cells #[v0,v1,v2] T)).drew (w.heap.size+1) v0 v1 v2 T∧Box1 ((w.alloc (.cells #[u] U)).alloc (.cells #[v0,v1,v2] T)).drew w.heap.size u U:=by
 have h1:=aH5 w (.cells #[u] U);have h2:=aH5 (w.alloc (.cells #[u] U)) (.cells #[v0,v1,v2] T);rw[show (w.alloc (.cells #[u] U)).heap.size=w.heap.size+1 by simp]at h2;exact⟨h2,(Chg.of_below (S:=fun _=>False) (aC (w.alloc (.cells #[u] U)) _)).heap h1 id⟩
theorem Jy{B:Nat}{X:Nat→Prop}{w:World}{p:Nat}{D:WD}{O:Nat→Nat→Option ST}{L:List Nat}{vis:Int}(h:WaveE B X w p D O L.length vis bA)(hO:jM O L)(hL:Syms L)(hn:L.length≤1000000000){H:Nat}(hH:HiO O H)(hHm:H≤1000000000)(k s:Nat)(hk:k≤L.length)(hs:s<257):
  Calls Tryz.prog 170 #[.pointer (some ⟨p,0,none⟩), .int .i64 k, .int .i64 s] w fun e w'=>
   e= .returned (.int .i64 0)∧∃(O':Nat→Nat→Option ST) (vis':Int),0≤vis'∧vis'≤9*(8*H+4)∧WaveE B X w' p D O' (L.length+1) vis' bA∧jM O' (inL L k s)∧HiO O' (H+1)∧Chg (exT B X) w w':=by
 have hb0:=aC w (.cells #[.int .i64 k] 3);obtain⟨W,hW⟩:∃W,W=w.alloc (.cells #[.int .i64 k] 3):=⟨_,rfl⟩;have hbx:Box1 W w.heap.size (.int .i64 k) 3:=by rw[hW];exact Box1.new w _ _
 rw[←hW]at hb0;have hX1:WaveE B (fun i=>X i∨i=w.heap.size) W p D O L.length vis bA:=h.less hb0 (fun i hi=>hi.elim Ei (fun e=>Ej E)) (fun i hi=>hi.elim (fun g=>aA9 (h.x i g) hb0.size) (fun e=>by subst e;exact hbx.lt));have hpn:p≠w.heap.size:=by have :=h.cells.2.2.2.2;omega
 have HX:=θ h.x;have HLE:=θ h.le;obtain⟨hc0,c9,c10,fz,hp⟩:=hX1.cells;have z10:=fz 10;have kc:=hbx.cell;have HST:=θ (hX1.setVis 0);have HKB:Hid (∀v,Box1 (W.setCell ⟨p,10,none⟩ v) w.heap.size (.int .i64 k) 3):=fun v=>hbx.chg (S:=fun j=>j=p) (Chg.refl.setCell (S:=fun j=>j=p) ⟨p,10,none⟩ (Ei rfl) _) (fun e=>hpn e.symm);have HB0:=θ hb0;have x0:=hc0 0 E;have x1:=hc0 1 E;have x2:=hc0 2 E;have x3:=hc0 3 E;have x4:=hc0 4 E;have x5:=hc0 5 E;have x6:=hc0 6 E;have x7:=hc0 7 E;have x8:=hc0 8 E;have his:dP (s:Int)=true:=dE E E;have HIS:Hid (∀w,Calls Tryz.prog 122 #[.int .i64 s] w fun e w'=>e= .returned (.bool true)∧w=w'):=fun w=>by rw[←his];exact bU s w
 have HO:=θ hO;have HHi:=θ hH;have HLS:=θ hL;have HK:=θ hk;have HLEN:=θ hn;have d0:decide ((k:Int)<0)=false:=aG9 E;have d1:decide (L.length<k)=false:=aG9 E;have d2:decide ((L.length:Int)<(k:Int))=false:=aG9 E;have HPN:=θ hpn;clear h hc0 fz hO hH hL hn hX1 hb0 hbx hk his;subst hW;go_enter Tryz.func170,Tryz.ntmps170;go_wp2_with fail;refine(HIS.o _).mono ?_;rintro e w' ⟨rfl,rfl⟩;go_wp2_with fail;go_quiet (fail);go_wp2_with fail;have HS0:Hid (WaveE B (fun i=>X i∨i=w.heap.size) (((w.alloc (.cells #[.int .i64 k] 3)).setCell ⟨p,10,none⟩ (.int .i64 0)).drewN nq) p D O L.length 0 bA∧Box1 (((w.alloc (.cells #[.int .i64 k] 3)).setCell ⟨p,10,none⟩ (.int .i64 0)).drewN nq) w.heap.size (.int .i64 k) 3∧Chg (exT B X) w (((w.alloc (.cells #[.int .i64 k] 3)).setCell ⟨p,10,none⟩ (.int .i64 0)).drewN nq)):=
  ⟨HST.o.1.drewN nq,HKB.o _,((Chg.of_below (S:=exT B X) HB0.o).trans (HST.o.2.mono (fun j hj=>bS (fun i hi=>Ei hi) hj)) (fun j hj=>Ei hj)).drewN nq⟩
 generalize ((w.alloc (.cells #[.int .i64 k] 3)).setCell ⟨p,10,none⟩ (.int .i64 0)).drewN nq=ws at *;clear HST HKB HB0 x0 x1 x2 x3 x4 x5 x6 x7 x8 c9 c10 z10 kc d0 d1 d2 hp hpn;go_loopw [35] (fun x wr=>∃l:Nat,l≤9∧x= .int .i64 l∧∃(O':Nat→Nat→Option ST) (vis':Int),0≤vis'∧vis'≤l*(8*H+4)∧WaveE B (fun i=>X i∨i=w.heap.size) wr p D O' L.length vis' bA∧LvlM O' L (inL L k s) l∧(∀l' k',l'<9→k'<pw l'→aO (O' l' k')≤H+1∧(l≤l'→aO (O' l' k')≤H))∧Box1 wr w.heap.size (.int .i64 (bE L l (pth s l) k:Nat)) 3∧Chg (exT B X) w wr) (fun x _=>9-(intOf x).toNat);case atStart=>exact⟨0,E,rfl,O,0,E,Es,HS0.o.1,LvlM.start HO.o,fun l' k' h1 h2=>by have :=HHi.o l' k' h1 h2;omega,by rw[fS E,lE HLS.o.lt k HK.o];exact HS0.o.2.1,HS0.o.2.2⟩
 case round=>as_aux_lemma=>
  clear HS0 HO HHi;obtain⟨l,hl,rfl,O',vis',hv0,hv1,hE,hM,hHH,hKB,hC⟩:=hrel;by_cases hlt:l<9
  ·have hix:∀w:World,(Instr.index 176 (.agg #[D.row 0,D.row 1,D.row 2,D.row 3,D.row 4,D.row 5,D.row 6,D.row 7,D.row 8]) (.int .i64 (l:Int))).run Tryz.prog w= .ok (.slice (some ⟨D.G l,0,none⟩) (pw l) (D.C l)) w:=pQ D hlt;have hpp:=pX hs hlt;have hpl:=tH hlt;obtain⟨r0,r1,r2⟩:=hE.shelf hlt hpp;obtain⟨hM',hOB⟩:=hM.ins HK.o hlt hs;have hHl:=(hHH l (pth s l) hlt hpp).2 (aA5 _);have hv1':vis'≤9*(8*(H:Int)+4):=by
    have h1:(l:Int)*(8*(H:Int)+4)≤9*(8*(H:Int)+4):=am9 E E;omega
   have hcl:bE L l (pth s l) k≤(lvl L l (pth s l)).length:=Ke _ _ _ _;have hlvl:(lvl L l (pth s l)).length≤L.length:=by unfold lvl;rw[at1];exact as9 _ _
   have hHI:=Qx (o:=O' l (pth s l)) (k:=bE L l (pth s l) k) (b:=cV s l) (hE.tGood hlt hpp).1;have hnx:aJ (aF (lO (O' l (pth s l)) (bE L l (pth s l) k) (cV s l))) (bE L l (pth s l) k) (cV s l)=bE L (l+1) (pth s (l+1)) k:=by
    rw[rW (by rw[hOB];exact hcl),hOB,Cr _ _ hcl,kC L hlt,gP hlt]
   have HPA:=θ (fun w=>qW hs hl w);have HBI:=θ (fun w=>tA hs hlt w);rw[←hOB]at hcl hlvl;obtain⟨π,hπ⟩:∃π,pth s l=π:=⟨_,rfl⟩;obtain⟨bt,hbt⟩:∃bt,cV s l=bt:=⟨_,rfl⟩;obtain⟨ct,hct⟩:∃ct,bE L l (pth s l) k=ct:=⟨_,rfl⟩;rw[hct]at hM' hcl hKB hHI hnx;rw[hbt]at hM' hHI hnx HBI;rw[hπ]at hM' hOB hHl hcl hlvl hHI hnx HPA hpp r0 r1 r2;have HC:=θ hC;have HE:=θ hE;have HKB:=θ hKB;have HM':=θ hM';have HNX:=θ hnx;have HHI:=θ hHI;have HHH:=θ hHH;have HCL:=θ hcl;have HLV:=θ hlvl;have HHL:=θ hHl;have HV1':=θ hv1';have HV0:=θ hv0;have HV1:=θ hv1;have HPP:=θ hpp;have i0:(0:Int)≤(π:Int):=E;have i1:(π:Int)<((pw l:Nat):Int):=E;have hsz:=hKB.lt;have HSZ:=θ hsz;clear hM hE hKB hC hOB hM' hHI hnx hHH hcl hlvl hHl hv1' hv0 hv1 hpp hpl hsz hπ hbt hct;obtain⟨q,hq⟩:∃q,D.Q l π=q:=⟨_,rfl⟩;rw[hq]at r0;generalize D.G l=g at *;generalize D.C l=gc at *;go_upto_region 11 with fail
   go_cut [9,10]from 36 to 57 (fun t9 t10 wx=>∃b9 b10:Nat,t9= .pointer (some ⟨b9,0,none⟩)∧t10= .pointer (some ⟨b10,0,none⟩)∧b9≠b10∧wr.heap.size≤b9∧wr.heap.size≤b10∧Box3 wx b9 (.pointer (some ⟨q,0,none⟩)) (.int .i64 l) (.int .i64 π) 181∧Box1 wx b10 (.bool bt) 4∧Below wr.heap.size wr wx)
   case first=>as_aux_lemma=>
    have HSB:Hid (∀w',Below wr.heap.size wr w'→(w'.cell? ⟨g,π*3,none⟩=some (.pointer (some ⟨q,0,none⟩))∧w'.cell? ⟨g,π*3+1,none⟩=some (.int .i64 l)∧w'.cell? ⟨g,π*3+2,none⟩=some (.int .i64 π))∧Below wr.heap.size wr w'):=fun w' hb=>by
     have hg:=aF8 wr _ r0;exact⟨⟨(hb.cell (p:=⟨g,π*3,none⟩) hg).trans r0,(hb.cell (p:=⟨g,π*3+1,none⟩) hg).trans r1,(hb.cell (p:=⟨g,π*3+2,none⟩) hg).trans r2⟩,hb⟩
    clear r0 r1 r2 HM' HHH HHI HNX HE HC;refine aE (fun w'=>(w'.cell? ⟨g,π*3,none⟩=some (.pointer (some ⟨q,0,none⟩))∧w'.cell? ⟨g,π*3+1,none⟩=some (.int .i64 l)∧w'.cell? ⟨g,π*3+2,none⟩=some (.int .i64 π))∧Below wr.heap.size wr w') Ek (HSB.o _ ⟨rfl,rfl,rfl,aA5 _,fun _ _=>rfl⟩) (fun hh=>?_);refine rt 0 hh ?_;refine rt 1 hh ?_;refine rt 2 hh ?_;refine rt 6 hh ?_;refine rt 7 hh ?_;refine Br (i:=3) (j:=9) (k:=10) rfl rfl rfl Ek rfl rfl rfl (fun κ hK=>?bis3) (fun κ hK=>?bis9) (fun κ hK=>?bis10);case bis3=>
     go_simp
     ((refine(HPA.o _).mono ?_))
     rintro e w2 ⟨rfl,rfl⟩;refine hK.out _ _ hh ?_;intro hh;try simp only[pt]
     refine rt 4 hh ?_;refine rt 5 hh ?_;refine Br (i:=8) (j:=9) (k:=10) rfl rfl rfl Ek rfl rfl rfl (fun κ hK=>?bisa8) (fun κ hK=>?bisa9) (fun κ hK=>?bisa10);case bisa8=>
      go_simp
      ((refine(HBI.o _).mono ?_))
      rintro e w2 ⟨rfl,rfl⟩;refine hK.out _ _ hh ?_;intro hh;try simp only[pt]
      refine dA (i:=9) (j:=10) rfl rfl Ek rfl rfl (fun κ hK=>?bisaa9) (fun κ hK=>?bisaa10);case bisaa9=>
       go_simp;refine hK.out _ _ (HSB.o _ (hh.2.alloc hh.2.size _)) ?_;intro hh;try simp only[pt]
       refine rg 10 fun κ hK=>?_;go_simp;refine hK.out _ _ (HSB.o _ (hh.2.alloc hh.2.size _)) ?_;intro hh;try simp only[pt]
       refine rg 11 fun κ hK=>?_;go_simp;refine hK.out _ _ (HSB.o _ (aW _ _ _)) ?_;intro hh;try simp only[pt]
       refine rg 12 fun κ hK=>?_;go_simp;refine hK.out _ _ (HSB.o _ (aW _ _ _)) ?_;intro hh;try simp only[pt]
       refine rz ?_;clear hh;go_wp2_with fail;go_meet;case rel=>exact⟨wr.heap.size,wr.heap.size+1,rfl,rfl,E,aA5 _,E,(iN _ _ _ _ _ _ _).1,(iN _ _ _ _ _ _ _).2,aW _ _ _⟩
      case bisaa10=>
       go_simp;refine hK.out _ _ (HSB.o _ (hh.2.alloc hh.2.size _)) ?_;intro hh;try simp only[pt]
       refine rg 9 fun κ hK=>?_;go_simp;refine hK.out _ _ (HSB.o _ (hh.2.alloc hh.2.size _)) ?_;intro hh;try simp only[pt]
       refine rg 11 fun κ hK=>?_;go_simp;refine hK.out _ _ (HSB.o _ (aW _ _ _)) ?_;intro hh;try simp only[pt]
       refine rg 12 fun κ hK=>?_;go_simp;refine hK.out _ _ (HSB.o _ (aW _ _ _)) ?_;intro hh;try simp only[pt]
       refine rz ?_;clear hh;go_wp2_with fail;go_meet;case rel=>exact⟨wr.heap.size+1,wr.heap.size,rfl,rfl,E,E,aA5 _,(lN _ _ _ _ _ _ _).1,(lN _ _ _ _ _ _ _).2,aW _ _ _⟩
     case bisa9=>
      go_simp;refine hK.out _ _ (HSB.o _ (hh.2.alloc hh.2.size _)) ?_;intro hh;try simp only[pt]
      refine dA (i:=8) (j:=10) rfl rfl Ek rfl rfl (fun κ hK=>?bisab8) (fun κ hK=>?bisab10);case bisab8=>
       go_simp
       ((refine(HBI.o _).mono ?_))
       rintro e w2 ⟨rfl,rfl⟩;refine hK.out _ _ hh ?_;intro hh;try simp only[pt]
       refine rg 10 fun κ hK=>?_;go_simp;refine hK.out _ _ (HSB.o _ (hh.2.alloc hh.2.size _)) ?_;intro hh;try simp only[pt]
       refine rg 11 fun κ hK=>?_;go_simp;refine hK.out _ _ (HSB.o _ (aW _ _ _)) ?_;intro hh;try simp only[pt]
       refine rg 12 fun κ hK=>?_;go_simp;refine hK.out _ _ (HSB.o _ (aW _ _ _)) ?_;intro hh;try simp only[pt]
       refine rz ?_;clear hh;go_wp2_with fail;go_meet;case rel=>exact⟨wr.heap.size,wr.heap.size+1,rfl,rfl,E,aA5 _,E,(iN _ _ _ _ _ _ _).1,(iN _ _ _ _ _ _ _).2,aW _ _ _⟩
      case bisab10=>
       go_simp;refine hK.out _ _ (HSB.o _ (hh.2.alloc hh.2.size _)) ?_;intro hh;try simp only[pt]
       refine rg 8 fun κ hK=>?_;go_simp
       ((refine(HBI.o _).mono ?_))
       rintro e w2 ⟨rfl,rfl⟩;refine hK.out _ _ hh ?_;intro hh;try simp only[pt]
       refine rg 11 fun κ hK=>?_;go_simp;refine hK.out _ _ (HSB.o _ (aW _ _ _)) ?_;intro hh;try simp only[pt]
       refine rg 12 fun κ hK=>?_;go_simp;refine hK.out _ _ (HSB.o _ (aW _ _ _)) ?_;intro hh;try simp only[pt]
       refine rz ?_;clear hh;go_wp2_with fail;go_meet;case rel=>exact⟨wr.heap.size,wr.heap.size+1,rfl,rfl,E,aA5 _,E,(iN _ _ _ _ _ _ _).1,(iN _ _ _ _ _ _ _).2,aW _ _ _⟩
     case bisa10=>
      go_simp;refine hK.out _ _ (HSB.o _ (hh.2.alloc hh.2.size _)) ?_;intro hh;try simp only[pt]
      refine dA (i:=8) (j:=9) rfl rfl Ek rfl rfl (fun κ hK=>?bisac8) (fun κ hK=>?bisac9);case bisac8=>
       go_simp
       ((refine(HBI.o _).mono ?_))
       rintro e w2 ⟨rfl,rfl⟩;refine hK.out _ _ hh ?_;intro hh;try simp only[pt]
       refine rg 9 fun κ hK=>?_;go_simp;refine hK.out _ _ (HSB.o _ (hh.2.alloc hh.2.size _)) ?_;intro hh;try simp only[pt]
       refine rg 11 fun κ hK=>?_;go_simp;refine hK.out _ _ (HSB.o _ (aW _ _ _)) ?_;intro hh;try simp only[pt]
       refine rg 12 fun κ hK=>?_;go_simp;refine hK.out _ _ (HSB.o _ (aW _ _ _)) ?_;intro hh;try simp only[pt]
       refine rz ?_;clear hh;go_wp2_with fail;go_meet;case rel=>exact⟨wr.heap.size+1,wr.heap.size,rfl,rfl,E,E,aA5 _,(lN _ _ _ _ _ _ _).1,(lN _ _ _ _ _ _ _).2,aW _ _ _⟩
      case bisac9=>
       go_simp;refine hK.out _ _ (HSB.o _ (hh.2.alloc hh.2.size _)) ?_;intro hh;try simp only[pt]
       refine rg 8 fun κ hK=>?_;go_simp
       ((refine(HBI.o _).mono ?_))
       rintro e w2 ⟨rfl,rfl⟩;refine hK.out _ _ hh ?_;intro hh;try simp only[pt]
       refine rg 11 fun κ hK=>?_;go_simp;refine hK.out _ _ (HSB.o _ (aW _ _ _)) ?_;intro hh;try simp only[pt]
       refine rg 12 fun κ hK=>?_;go_simp;refine hK.out _ _ (HSB.o _ (aW _ _ _)) ?_;intro hh;try simp only[pt]
       refine rz ?_;clear hh;go_wp2_with fail;go_meet;case rel=>exact⟨wr.heap.size+1,wr.heap.size,rfl,rfl,E,E,aA5 _,(lN _ _ _ _ _ _ _).1,(lN _ _ _ _ _ _ _).2,aW _ _ _⟩
    case bis9=>
     go_simp;refine hK.out _ _ (HSB.o _ (hh.2.alloc hh.2.size _)) ?_;intro hh;try simp only[pt]
     refine dA (i:=3) (j:=10) rfl rfl Ek rfl rfl (fun κ hK=>?bisb3) (fun κ hK=>?bisb10);case bisb3=>
      go_simp
      ((refine(HPA.o _).mono ?_))
      rintro e w2 ⟨rfl,rfl⟩;refine hK.out _ _ hh ?_;intro hh;try simp only[pt]
      refine rt 4 hh ?_;refine rt 5 hh ?_;refine dA (i:=8) (j:=10) rfl rfl Ek rfl rfl (fun κ hK=>?bisba8) (fun κ hK=>?bisba10);case bisba8=>
       go_simp
       ((refine(HBI.o _).mono ?_))
       rintro e w2 ⟨rfl,rfl⟩;refine hK.out _ _ hh ?_;intro hh;try simp only[pt]
       refine rg 10 fun κ hK=>?_;go_simp;refine hK.out _ _ (HSB.o _ (hh.2.alloc hh.2.size _)) ?_;intro hh;try simp only[pt]
       refine rg 11 fun κ hK=>?_;go_simp;refine hK.out _ _ (HSB.o _ (aW _ _ _)) ?_;intro hh;try simp only[pt]
       refine rg 12 fun κ hK=>?_;go_simp;refine hK.out _ _ (HSB.o _ (aW _ _ _)) ?_;intro hh;try simp only[pt]
       refine rz ?_;clear hh;go_wp2_with fail;go_meet;case rel=>exact⟨wr.heap.size,wr.heap.size+1,rfl,rfl,E,aA5 _,E,(iN _ _ _ _ _ _ _).1,(iN _ _ _ _ _ _ _).2,aW _ _ _⟩
      case bisba10=>
       go_simp;refine hK.out _ _ (HSB.o _ (hh.2.alloc hh.2.size _)) ?_;intro hh;try simp only[pt]
       refine rg 8 fun κ hK=>?_;go_simp
       ((refine(HBI.o _).mono ?_))
       rintro e w2 ⟨rfl,rfl⟩;refine hK.out _ _ hh ?_;intro hh;try simp only[pt]
       refine rg 11 fun κ hK=>?_;go_simp;refine hK.out _ _ (HSB.o _ (aW _ _ _)) ?_;intro hh;try simp only[pt]
       refine rg 12 fun κ hK=>?_;go_simp;refine hK.out _ _ (HSB.o _ (aW _ _ _)) ?_;intro hh;try simp only[pt]
       refine rz ?_;clear hh;go_wp2_with fail;go_meet;case rel=>exact⟨wr.heap.size,wr.heap.size+1,rfl,rfl,E,aA5 _,E,(iN _ _ _ _ _ _ _).1,(iN _ _ _ _ _ _ _).2,aW _ _ _⟩
     case bisb10=>
      go_simp;refine hK.out _ _ (HSB.o _ (hh.2.alloc hh.2.size _)) ?_;intro hh;try simp only[pt]
      refine rg 3 fun κ hK=>?_;go_simp
      ((refine(HPA.o _).mono ?_))
      rintro e w2 ⟨rfl,rfl⟩;refine hK.out _ _ hh ?_;intro hh;try simp only[pt]
      refine rt 4 hh ?_;refine rt 5 hh ?_;refine rg 8 fun κ hK=>?_;go_simp
      ((refine(HBI.o _).mono ?_))
      rintro e w2 ⟨rfl,rfl⟩;refine hK.out _ _ hh ?_;intro hh;try simp only[pt]
      refine rg 11 fun κ hK=>?_;go_simp;refine hK.out _ _ (HSB.o _ (aW _ _ _)) ?_;intro hh;try simp only[pt]
      refine rg 12 fun κ hK=>?_;go_simp;refine hK.out _ _ (HSB.o _ (aW _ _ _)) ?_;intro hh;try simp only[pt]
      refine rz ?_;clear hh;go_wp2_with fail;go_meet;case rel=>exact⟨wr.heap.size,wr.heap.size+1,rfl,rfl,E,aA5 _,E,(iN _ _ _ _ _ _ _).1,(iN _ _ _ _ _ _ _).2,aW _ _ _⟩
    case bis10=>
     go_simp;refine hK.out _ _ (HSB.o _ (hh.2.alloc hh.2.size _)) ?_;intro hh;try simp only[pt]
     refine dA (i:=3) (j:=9) rfl rfl Ek rfl rfl (fun κ hK=>?bisc3) (fun κ hK=>?bisc9);case bisc3=>
      go_simp
      ((refine(HPA.o _).mono ?_))
      rintro e w2 ⟨rfl,rfl⟩;refine hK.out _ _ hh ?_;intro hh;try simp only[pt]
      refine rt 4 hh ?_;refine rt 5 hh ?_;refine dA (i:=8) (j:=9) rfl rfl Ek rfl rfl (fun κ hK=>?bisca8) (fun κ hK=>?bisca9);case bisca8=>
       go_simp
       ((refine(HBI.o _).mono ?_))
       rintro e w2 ⟨rfl,rfl⟩;refine hK.out _ _ hh ?_;intro hh;try simp only[pt]
       refine rg 9 fun κ hK=>?_;go_simp;refine hK.out _ _ (HSB.o _ (hh.2.alloc hh.2.size _)) ?_;intro hh;try simp only[pt]
       refine rg 11 fun κ hK=>?_;go_simp;refine hK.out _ _ (HSB.o _ (aW _ _ _)) ?_;intro hh;try simp only[pt]
       refine rg 12 fun κ hK=>?_;go_simp;refine hK.out _ _ (HSB.o _ (aW _ _ _)) ?_;intro hh;try simp only[pt]
       refine rz ?_;clear hh;go_wp2_with fail;go_meet;case rel=>exact⟨wr.heap.size+1,wr.heap.size,rfl,rfl,E,E,aA5 _,(lN _ _ _ _ _ _ _).1,(lN _ _ _ _ _ _ _).2,aW _ _ _⟩
      case bisca9=>
       go_simp;refine hK.out _ _ (HSB.o _ (hh.2.alloc hh.2.size _)) ?_;intro hh;try simp only[pt]
       refine rg 8 fun κ hK=>?_;go_simp
       ((refine(HBI.o _).mono ?_))
       rintro e w2 ⟨rfl,rfl⟩;refine hK.out _ _ hh ?_;intro hh;try simp only[pt]
       refine rg 11 fun κ hK=>?_;go_simp;refine hK.out _ _ (HSB.o _ (aW _ _ _)) ?_;intro hh;try simp only[pt]
       refine rg 12 fun κ hK=>?_;go_simp;refine hK.out _ _ (HSB.o _ (aW _ _ _)) ?_;intro hh;try simp only[pt]
       refine rz ?_;clear hh;go_wp2_with fail;go_meet;case rel=>exact⟨wr.heap.size+1,wr.heap.size,rfl,rfl,E,E,aA5 _,(lN _ _ _ _ _ _ _).1,(lN _ _ _ _ _ _ _).2,aW _ _ _⟩
     case bisc9=>
      go_simp;refine hK.out _ _ (HSB.o _ (hh.2.alloc hh.2.size _)) ?_;intro hh;try simp only[pt]
      refine rg 3 fun κ hK=>?_;go_simp
      ((refine(HPA.o _).mono ?_))
      rintro e w2 ⟨rfl,rfl⟩;refine hK.out _ _ hh ?_;intro hh;try simp only[pt]
      refine rt 4 hh ?_;refine rt 5 hh ?_;refine rg 8 fun κ hK=>?_;go_simp
      ((refine(HBI.o _).mono ?_))
      rintro e w2 ⟨rfl,rfl⟩;refine hK.out _ _ hh ?_;intro hh;try simp only[pt]
      refine rg 11 fun κ hK=>?_;go_simp;refine hK.out _ _ (HSB.o _ (aW _ _ _)) ?_;intro hh;try simp only[pt]
      refine rg 12 fun κ hK=>?_;go_simp;refine hK.out _ _ (HSB.o _ (aW _ _ _)) ?_;intro hh;try simp only[pt]
      refine rz ?_;clear hh;go_wp2_with fail;go_meet;case rel=>exact⟨wr.heap.size+1,wr.heap.size,rfl,rfl,E,E,aA5 _,(lN _ _ _ _ _ _ _).1,(lN _ _ _ _ _ _ _).2,aW _ _ _⟩
   case rest=>as_aux_lemma=>
    obtain⟨b9,b10,rfl,rfl,hne,h9,h10,hb9,hb10,hbw⟩:=hcut;have hE:=HE.o.less hbw (Y:=fun i=>(X i∨i=w.heap.size)∨(i=b9∨i=b10)) (fun i hi=>hi.elim Ei (fun g=>Ej E)) (fun i hi=>hi.elim (fun g=>aA9 (HE.o.x i g) hbw.size) (fun g=>by have :=hb9.lt;have :=hb10.lt;omega));have hkb:=HKB.o.below hbw;have HLOOK:=θ (zI hE hlt HPP.o ⟨HV0.o,by have :=HV1'.out;omega⟩ (M:=7*aO (O' l π)+2) (by have :=HHL.o;omega) (Y:=fun _=>False) (fun i e=>e.elim) (dM O' l π (lO (O' l π) ct bt)) 215 #[.pointer (some ⟨w.heap.size,0,none⟩), .pointer (some ⟨b10,0,none⟩)]
     (enters_of Tryz.func215 Ek rfl) (fun _=>True) (fun _ _ _ _=>trivial)
     (fun w0 Z hXZ hb hE0=>wIns1 hE0 hlt HPP.o HCL.o (by have :=HLV.o;have :=HLEN.o;omega) (hkb.below hb) (hb10.below hb)))
    have HKB2:=θ hkb;have HB9:=θ hb9;have HB10:=θ hb10;have HCW:Hid (Chg (exT B X) w _):=HC.o.trans (Chg.of_below (S:=exT B X) hbw) (fun j hj=>Ei hj);have HNE:Hid (b9≠b10∧w.heap.size<wr.heap.size∧wr.heap.size≤b9∧wr.heap.size≤b10):=⟨hne,HSZ.o,h9,h10⟩;obtain⟨e0,e1,e2⟩:=hb9.cells;unfold bQ at HLOOK;rw[hq]at HLOOK;clear hE hkb hb9 hb10 hbw hne h9 h10 r0 r1 r2 HC HE HKB;go_wp2_with fail;refine HLOOK.o.mono ?_;rintro e w2 ⟨rfl,v1,hv1,hE2,hC2,_⟩;have hC2:Chg (exT B (fun i=>(X i∨i=w.heap.size)∨(i=b9∨i=b10))) _ w2:=hC2.mono (fun j hj=>hj.elim id (fun h=>h.elim));have hb9:=Box3.chg HB9.o hC2 (fun hk=>hk.2 (Ej (Ei rfl)));have hb10:=HB10.o.chg hC2 (fun hk=>hk.2 (Ej (Ej rfl)));have hkb2:=HKB2.o.chg hC2 (fun hk=>hk.2 (Ei (Ej rfl)));have HRK:=θ (zJ hE2 hlt HPP.o ⟨by have :=HV0.o;omega,by have :=HV1'.out;have :=HHL.o;omega⟩ (by rw[cA];have :=HHI.o;have :=HHL.o;omega) (ct:Int) bt);rw[cA,ao2,HNX.o]at HRK;unfold bQ at HRK;rw[hq]at HRK;have HW2:Hid (Chg (exT B X) w w2):=HCW.o.trans hC2 (fun j hj=>Ei (bS (fun i hi=>Ei (Ei hi)) hj));have k2:=hkb2.cell;have t10:=hb10.cell;obtain⟨f0,f1,f2⟩:=hb9.cells;have HKB3:=θ hkb2;clear hE2 hC2 hb9 hb10 hkb2 HLOOK HB9 HB10 HKB2 HCW e0 e1 e2;go_wp2_with fail;refine HRK.o.mono ?_;rintro e w3 ⟨rfl,v2,hv2,hE3,hC3⟩;have hkb3:=HKB3.o.chg hC3 (fun hk=>hk.2 (Ei (Ej rfl)));have k3:=hkb3.cell;have kf3:=hkb3.frz;have HK3:=θ hkb3;have HE3:=θ hE3;have HW3:Hid (Chg (exT B X) w w3):=HW2.o.trans hC3 (fun j hj=>Ei (bS (fun i hi=>Ei (Ei hi)) hj));clear hE3 hC3 hkb3 HRK HKB3 HW2 k2 t10 f0 f1 f2;go_wp2_with fail;go_roundw;case rel=>
     refine⟨l+1,E,by go_num,_,vis'+v1+v2,?_,?_,(HE3.o.mono (fun i hi=>Ei hi)).chg (Z:=fun j=>j=w.heap.size) (Chg.refl.setCell (S:=fun j=>j=w.heap.size) ⟨w.heap.size,0,none⟩ (Ei rfl) _) (fun k hk _ e=>hk.2 (Ej e)),HM'.out,fun l' k' g1 g2=>?_,HK3.o.set _,HW3.o.setCell _ (Ej (aA5 _)) _⟩
     ·have :=HV0.o;omega
     ·have e:((l+1:Nat):Int)*(8*(H:Int)+4)=(l:Int)*(8*(H:Int)+4)+(8*(H:Int)+4):=by push_cast;rw[Int.add_mul];omega
      rw[e];have h1:=HV1.o;have h2:=HHL.o;have h3:=HHI.o;omega
     ·by_cases e:l'=l∧k'=π
      ·obtain⟨rfl,rfl⟩:=e;rw[cA];have h2:=HHL.o;have h3:=HHI.o;exact⟨E,fun h=>E⟩
      ·rw[dI _ _ E];have :=HHH.o l' k' g1 g2;exact⟨this.1,fun h=>this.2 E⟩
    case measure=>simp[intOf];omega
  ·obtain rfl:l=9:=E;have HC:=θ hC;have HE:=θ hE;have HM:=θ hM;have HHH:=θ hHH;obtain⟨_,c9,_,fz,_⟩:=hE.cells;have z9:=fz 9;have hwn:IntKind.i64.wrap ((L.length:Int)+1)=(L.length:Int)+1:=ao4 _ (by have :=HLEN.o;omega);have HN:Hid ((L.length:Int)+1=((L.length+1:Nat):Int)):=by show _=_;omega
   clear hC hE hM hHH hKB fz;go_wp2_with fail;go_ret;rw[HN.o];refine⟨rfl,O',vis',hv0,E,((HE.o.mono (fun i hi=>Ei hi)).setN (L.length+1)).1,HM.o.fin,fun l' k' h1 h2=>(HHH.o l' k' h1 h2).1,HC.o.trans ((HE.o.mono (fun i hi=>Ei hi)).setN (L.length+1)).2 (fun j hj=>Ei hj)⟩
theorem wDel1{B:Nat}{Z:Nat→Prop}{w:World}{p n:Nat}{D:WD}{O:Nat→Nat→Option ST}{vis:Int}(h:WaveE B Z w p D O n vis bA){l k:Nat}(hl:l<9)(hk:k<pw l){b1 b2:Nat}(z1:Z b1)(z2:Z b2){j:Nat}(hj:j<(aF (O l k)).length){v0:Value}
  (h1:Box1 w b1 (.int .i64 j) 3) (h2:Box1 w b2 v0 4):
  Calls Tryz.prog 211 #[bQ D l k, .pointer (some ⟨b1,0,none⟩), .pointer (some ⟨b2,0,none⟩)] w fun e w'=>e= .returned (.tuple #[])∧mN B Z (fun i=>i=b2) w w' p D (dM O l k (iG (O l k) j)) n vis l k (7*aO (O l k)+2)∧Box1 w' b2 (.bool (aR (aF (O l k)) j)) 4:=by
 have hb0:=aC w (.cells #[.pointer (some ⟨D.Q l k,0,none⟩), .int .i64 l, .int .i64 k] 181);obtain⟨W,hW⟩:∃W,W=w.alloc (.cells #[.pointer (some ⟨D.Q l k,0,none⟩), .int .i64 l, .int .i64 k] 181):=⟨_,rfl⟩;rw[←hW]at hb0;have c1:=(h1.below hb0).cell;have HRK:=θ ((h.below hb0).tDelete hl hk j hj);have HB2:=θ (h2.below hb0);have HB0:=θ hb0;have HZ2:=θ z2;clear h h1 h2 hb0 z1 z2 hl hk hj;unfold bQ;obtain⟨r,hr⟩:∃r,aR (aF (O l k)) j=r:=⟨_,rfl⟩;rw[hr]at HRK⊢;clear hr;obtain⟨q,hq⟩:∃q,D.Q l k=q:=⟨_,rfl⟩;rw[hq]at HRK hW⊢;clear hq;subst hW;go_enter Tryz.func211,Tryz.ntmps211;go_wp2_with fail;refine HRK.o.mono ?_;rintro e w1 ⟨rfl,hE1,hC1⟩;have hb2:=HB2.o.chg hC1 (fun hk=>hk.2 HZ2.o);have HB2':=θ hb2;have c3:=hb2.cell;have f3:=hb2.frz;have HE1:=θ hE1;have HC1:=θ hC1;clear hE1 hC1 hb2 HRK;go_wp2_with fail;go_end0;refine⟨rfl,⟨HE1.o.setBox HZ2.o _,?_⟩,HB2'.out.set _⟩;exact((Chg.of_below (S:=fun j=>exT B Z j∨j=b2) HB0.o).trans (HC1.o.mono (fun j hj=>Ei hj)) (fun j hj=>Ei hj)).setCell _ (Ei (Ej rfl)) _
theorem LvlM.del {O:Nat→Nat→Option ST}{L:List Nat}{k s l:Nat}(h:LvlM O L (aB L k) l)(hk:L[k]? =some s)(hl:l<9)(hs:s<257):
  LvlM (dM O l (pth s l) (iG (O l (pth s l)) (bE L l (pth s l) k))) L (aB L k) (l+1)∧aF (O l (pth s l))=lvl L l (pth s l):=by
 have hb:aF (O l (pth s l))=lvl L l (pth s l):=by rw[h l _ hl (yS E E),aH8 E]
 refine⟨fun l' k' h1 h2=>?_,hb⟩;by_cases e:l'=l∧k'=pth s l
 ·obtain⟨rfl,rfl⟩:=e;rw[cA,aH9 E,At (by rw[hb];exact(yK hk l').1),hb,Ks hk,aH9 rfl]
 ·have hne:l'≠l∨k'≠pth s l:=E;rw[dI _ _ hne,h l' k' h1 h2];by_cases e2:l'=l
  ·subst e2;rw[aH8 E,aH9 E,Ks hk,aH8 E]
  ·by_cases e3:l'<l
   ·rw[aH9 e3,aH9 E]
   ·rw[aH8 e3,aH8 E]
theorem Jx{B:Nat}{X:Nat→Prop}{w:World}{p:Nat}{D:WD}{O:Nat→Nat→Option ST}{L:List Nat}{vis:Int}(h:WaveE B X w p D O L.length vis bA)(hO:jM O L)(hL:Syms L)(hn:L.length≤1000000000){H:Nat}(hH:HiO O H)(hHm:H≤1000000000)(k s:Nat)(hk:L[k]? =some s):
  Calls Tryz.prog 161 #[.pointer (some ⟨p,0,none⟩), .int .i64 k] w fun e w'=>
   e= .returned (.tuple #[.int .i64 s, .int .i64 0])∧∃(O':Nat→Nat→Option ST) (vis':Int),0≤vis'∧vis'≤9*(8*H+4)∧WaveE B X w' p D O' (aB L k).length vis' bA∧jM O' (aB L k)∧HiO O' H∧Chg (exT B X) w w':=by
 have hkL:=(ar5.1 hk).1;have hs:s<257:=hL s (ax2 hk);have hb0:=aC w (.cells #[.int .i64 k] 3);obtain⟨W,hW⟩:∃W,W=w.alloc (.cells #[.int .i64 k] 3):=⟨_,rfl⟩;have hbx:Box1 W w.heap.size (.int .i64 k) 3:=by rw[hW];exact Box1.new w _ _
 rw[←hW]at hb0;have hX1:WaveE B (fun i=>X i∨i=w.heap.size) W p D O L.length vis bA:=h.less hb0 (fun i hi=>hi.elim Ei (fun e=>Ej E)) (fun i hi=>hi.elim (fun g=>aA9 (h.x i g) hb0.size) (fun e=>by subst e;exact hbx.lt));have hpn:p≠w.heap.size:=by have :=h.cells.2.2.2.2;omega
 have HX:=θ h.x;have HLE:=θ h.le;obtain⟨hc0,c9,c10,fz,hp⟩:=hX1.cells;have z10:=fz 10;have kc:=hbx.cell;have HST:=θ (hX1.setVis 0);have HKB:Hid (∀v,Box1 (W.setCell ⟨p,10,none⟩ v) w.heap.size (.int .i64 k) 3):=fun v=>hbx.chg (S:=fun j=>j=p) (Chg.refl.setCell (S:=fun j=>j=p) ⟨p,10,none⟩ (Ei rfl) _) (fun e=>hpn e.symm);have HB0:=θ hb0;have x0:=hc0 0 E;have x1:=hc0 1 E;have x2:=hc0 2 E;have x3:=hc0 3 E;have x4:=hc0 4 E;have x5:=hc0 5 E;have x6:=hc0 6 E;have x7:=hc0 7 E;have x8:=hc0 8 E;have HO:=θ hO;have HHi:=θ hH;have HLS:=θ hL;have HK:=θ hk;have HLEN:=θ hn;have d0:decide ((k:Int)<0)=false:=aG9 E;have d1:decide (L.length≤k)=false:=aG9 E;have d2:decide ((L.length:Int)≤(k:Int))=false:=aG9 E;have HPN:=θ hpn;clear h hc0 fz hO hH hL hn hX1 hb0 hbx hk;subst hW;go_enter Tryz.func161,Tryz.ntmps161;go_wp2_with fail;go_quiet (fail);go_wp2_with fail;have HS0:Hid (WaveE B (fun i=>X i∨i=w.heap.size) (((w.alloc (.cells #[.int .i64 k] 3)).setCell ⟨p,10,none⟩ (.int .i64 0)).drewN nq) p D O L.length 0 bA∧Box1 (((w.alloc (.cells #[.int .i64 k] 3)).setCell ⟨p,10,none⟩ (.int .i64 0)).drewN nq) w.heap.size (.int .i64 k) 3∧Chg (exT B X) w (((w.alloc (.cells #[.int .i64 k] 3)).setCell ⟨p,10,none⟩ (.int .i64 0)).drewN nq)):=
  ⟨HST.o.1.drewN nq,HKB.o _,((Chg.of_below (S:=exT B X) HB0.o).trans (HST.o.2.mono (fun j hj=>bS (fun i hi=>Ei hi) hj)) (fun j hj=>Ei hj)).drewN nq⟩
 generalize ((w.alloc (.cells #[.int .i64 k] 3)).setCell ⟨p,10,none⟩ (.int .i64 0)).drewN nq=ws at *;clear HST HKB HB0 x0 x1 x2 x3 x4 x5 x6 x7 x8 c9 c10 z10 kc d0 d1 d2 hp hpn;go_loopw [6,31] (fun v x wr=>∃l:Nat,l≤9∧x= .int .i64 l∧v= .int .i64 (pth s l:Nat)∧∃(O':Nat→Nat→Option ST) (vis':Int),0≤vis'∧vis'≤l*(8*H+4)∧WaveE B (fun i=>X i∨i=w.heap.size) wr p D O' L.length vis' bA∧LvlM O' L (aB L k) l∧(∀l' k',l'<9→k'<pw l'→aO (O' l' k')≤H)∧Box1 wr w.heap.size (.int .i64 (bE L l (pth s l) k:Nat)) 3∧Chg (exT B X) w wr) (fun _ x _=>9-(intOf x).toNat);case atStart=>exact⟨0,E,rfl,by rw[fS E];rfl,O,0,E,Es,HS0.o.1,LvlM.start HO.o,HHi.o,by rw[fS E,lE HLS.o.lt k E];exact HS0.o.2.1,HS0.o.2.2⟩
 case round=>as_aux_lemma=>
  clear HS0 HO HHi;obtain⟨l,hl,rfl,rfl,O',vis',hv0,hv1,hE,hM,hHH,hKB,hC⟩:=hrel;by_cases hlt:l<9
  ·have hix:∀w:World,(Instr.index 176 (.agg #[D.row 0,D.row 1,D.row 2,D.row 3,D.row 4,D.row 5,D.row 6,D.row 7,D.row 8]) (.int .i64 (l:Int))).run Tryz.prog w= .ok (.slice (some ⟨D.G l,0,none⟩) (pw l) (D.C l)) w:=pQ D hlt;have hpp:=pX hs hlt;have hpl:=tH hlt;obtain⟨r0,r1,r2⟩:=hE.shelf hlt hpp;obtain⟨hM',hOB⟩:=hM.del HK.o hlt hs;obtain⟨g1,g2⟩:=yK HK.o l;have hHl:=hHH l (pth s l) hlt hpp;have hv1':vis'≤9*(8*(H:Int)+4):=by
    have h1:(l:Int)*(8*(H:Int)+4)≤9*(8*(H:Int)+4):=am9 E E;omega
   have hHI:=(Av (o:=O' l (pth s l)) (k:=bE L l (pth s l) k) (hE.tGood hlt hpp).1 (by rw[hOB];exact g1)).2;obtain⟨π,hπ⟩:∃π,pth s l=π:=⟨_,rfl⟩;obtain⟨bt,hbt⟩:∃bt,cV s l=bt:=⟨_,rfl⟩;obtain⟨ct,hct⟩:∃ct,bE L l (pth s l) k=ct:=⟨_,rfl⟩;have hpn:2*π+pF bt=pth s (l+1):=by rw[←hπ,←hbt,gP hlt]
   have hnx:aJ (aF (O' l π)) ct bt=bE L (l+1) (pth s (l+1)) k:=by
    rw[←hπ,←hbt,←hct,hOB,kC L hlt,gP hlt]
   rw[hct]at hM' g1 g2 hKB hHI;rw[hbt]at g2;rw[hπ]at hM' hOB hHl hHI hpp r0 r1 r2 g1 g2⊢;rw[←hOB]at g1 g2;have hbo:=qX (l:=aF (O' l π)) (k:=ct) E;obtain⟨on,hon⟩:∃on,aJ (aF (O' l π)) ct true=on:=⟨_,rfl⟩;rw[hon]at hbo;have hbf:bt=true→(on:Nat)=bE L (l+1) (pth s (l+1)) k:=fun h=>by rw[←hnx,h,hon]
   have hbg:bt=false→(ct:Int)-(on:Int)=(bE L (l+1) (pth s (l+1)) k:Nat):=fun h=>by
    rw[←hnx,h];omega
   obtain⟨wa,hwa⟩:∃wa,wa=wr.alloc (.cells #[.pointer (some ⟨D.Q l π,0,none⟩), .int .i64 l, .int .i64 π] 181):=⟨_,rfl⟩;obtain⟨wb,hwb⟩:∃wb,wb=wa.alloc (.cells #[.bool false] 4):=⟨_,rfl⟩;have sa:wa.heap.size=wr.heap.size+1:=by rw[hwa];simp
   have ba:Below wr.heap.size wr wa:=by rw[hwa];exact aC wr _
   have bb:Below wa.heap.size wa wb:=by rw[hwb];exact aC wa _
   have ball:Below wr.heap.size wr wb:=ba.trans (bb.mono ba.size);have bx9:Box3 wb wr.heap.size (.pointer (some ⟨D.Q l π,0,none⟩)) (.int .i64 l) (.int .i64 π) 181:=(Chg.of_below (S:=fun _=>False) bb).heap (by rw[hwa];exact aH5 wr _) id;have bx10:Box1 wb (wr.heap.size+1) (.bool false) 4:=by rw[hwb,←sa];exact Box1.new wa _ _
   have hkl:=hKB.lt;have hX3:WaveE B (fun i=>(X i∨i=w.heap.size)∨(i=wr.heap.size∨i=wr.heap.size+1)) wb p D O' L.length vis' bA:=hE.less ball (fun i hi=>hi.elim Ei (fun g=>Ej E)) (fun i hi=>hi.elim (fun g=>aA9 (hE.x i g) ball.size) (fun g=>by have :=bx10.lt;omega));have HX3:=θ hX3;have HBX10:=θ bx10;have HB9:=θ bx9;have HKB2:=θ (hKB.below ball);have HCB:Hid (Chg (exT B X) w wb):=hC.trans (Chg.of_below (S:=exT B X) ball) (fun j hj=>Ei hj);have HKL:=θ hkl;have HPW:=θ hE.cells.2.2.2.2;have HRK:Hid (Calls Tryz.prog 159 #[.pointer (some ⟨p,0,none⟩),bQ D l π, .int .i64 ct, .bool true] wb fun e w''=>
     e= .returned (.int .i64 (on:Nat))∧∃v':Nat,v'≤aO (O' l π)+1∧WaveE B (fun i=>(X i∨i=w.heap.size)∨(i=wr.heap.size∨i=wr.heap.size+1)) w'' p D O' L.length (vis'+v') bA∧Chg (exT B (fun i=>(X i∨i=w.heap.size)∨(i=wr.heap.size∨i=wr.heap.size+1))) wb w''):=by
    have :=zJ hX3 hlt hpp ⟨hv0,E⟩ E (ct:Int) true;rw[ao2,hon]at this;exact this
   have HNXT:Hid (∀w',Calls Tryz.prog 160 #[bQ D l π, .bool bt] w' fun e w''=>e= .returned (.int .i64 (pth s (l+1):Nat))∧Below w'.heap.size w' w''):=fun w'=>by
    have :=wNext D (l:=l) (k:=π) E bt w';rw[hpn]at this;exact this
   have HLK:Hid (∀(w1:World) (v1:Nat),v1≤aO (O' l π)+1→WaveE B (fun i=>(X i∨i=w.heap.size)∨(i=wr.heap.size∨i=wr.heap.size+1)) w1 p D O' L.length (vis'+v1) bA→Box1 w1 w.heap.size (.int .i64 ct) 3→Box1 w1 (wr.heap.size+1) (.bool false) 4→
     Calls Tryz.prog 156 #[.pointer (some ⟨p,0,none⟩),bQ D l π, .func (.func 211) #[] #[.pointer (some ⟨w.heap.size,0,none⟩), .pointer (some ⟨wr.heap.size+1,0,none⟩)]] w1 fun e w'=>
      e= .returned (.tuple #[])∧∃v:Nat,v≤7*aO (O' l π)+2∧WaveE B (fun i=>(X i∨i=w.heap.size)∨(i=wr.heap.size∨i=wr.heap.size+1)) w' p D (dM O' l π (iG (O' l π) ct)) L.length (vis'+v1+v) bA∧Chg (fun j=>exT B (fun i=>(X i∨i=w.heap.size)∨(i=wr.heap.size∨i=wr.heap.size+1)) j∨j=wr.heap.size+1) w1 w'∧Box1 w' (wr.heap.size+1) (.bool bt) 4):=fun w1 v1 hv1 h1 h2 h3=>by
    refine zI h1 hlt hpp ⟨E,E⟩ (M:=7*aO (O' l π)+2) E (Y:=fun i=>i=wr.heap.size+1) (fun i e=>Ej (Ej e)) _ _ _ (enters_of Tryz.func211 Ek rfl) (fun w'=>Box1 w' (wr.heap.size+1) (.bool bt) 4) (fun w1 w2 hb hc=>hb.chg hc (fun e=>by have :=HPW.o;omega)) (fun w0 Z hXZ hb hE0=>?_);have :=wDel1 hE0 hlt hpp (hXZ _ (Ei (Ej rfl))) (hXZ _ (Ej (Ej rfl))) g1 (h2.below hb) (h3.below hb);rw[g2]at this;exact this
   have HM':=θ hM';have HHI:=θ hHI;have HHH:=θ hHH;have HHL:=θ hHl;have HV0:=θ hv0;have HV1:=θ hv1;have i0:(0:Int)≤(π:Int):=E;have i1:(π:Int)<((pw l:Nat):Int):=E;have hct9:ct≤1000000000:=by
    have h1:(aF (O' l π)).length≤L.length:=by rw[hOB];unfold lvl;rw[at1];exact as9 _ _
    have :=HLEN.o;omega
   have hon9:on≤ct:=E;obtain⟨e0,e1,e2⟩:=bx9.cells;have kb0:=HKB2.o.cell;have kbr:=hKB.cell;have HBF:=θ hbf;have HBG:=θ hbg;clear hE hM hKB hC hOB g1 g2 hHl hv1' hv0 hv1 hct hπ hbt hnx hpn sa ba bb ball bx9 bx10 hkl hX3 hpp hpl hHI hHH hM' hbo hon hbf hbg;unfold bQ at HLK HRK HNXT;generalize D.Q l π=q at *;generalize D.G l=g at *;generalize D.C l=gc at *;subst hwa;rw[hwb]at kb0;go_wp2_with fail;rw[←hwb];refine HRK.o.mono ?_;rintro e w2 ⟨rfl,v1,hv1,hE2,hC2⟩;have hb9:=Box3.chg HB9.o hC2 (fun hk=>hk.2 (Ej (Ei rfl)));have hb10:=HBX10.o.chg hC2 (fun hk=>hk.2 (Ej (Ej rfl)));have hkb2:=HKB2.o.chg hC2 (fun hk=>hk.2 (Ei (Ej rfl)));have HLOOK:=θ (HLK.o w2 v1 hv1 hE2 hkb2 hb10);have HB9b:=θ hb9;have HKB2b:=θ hkb2;have HW2:Hid (Chg (exT B X) w w2):=HCB.o.trans hC2 (fun j hj=>Ei (bS (fun i hi=>Ei (Ei hi)) hj));obtain⟨f0,f1,f2⟩:=hb9.cells;clear hE2 hC2 hb9 hb10 hkb2 HRK HB9 HBX10 HKB2 HCB e0 e1 e2 kb0 kbr hwb HLK HX3;go_wp2_with fail;refine HLOOK.o.mono ?_;rintro e w3 ⟨rfl,v2,hv2,hE3,hC3,hR3⟩;have hb9:=Box3.chg HB9b.o hC3 (fun hk=>hk.elim (fun hk=>hk.2 (Ej (Ei rfl))) (fun e=>E));have hkb3:=HKB2b.o.chg hC3 (fun hk=>hk.elim (fun hk=>hk.2 (Ei (Ej rfl))) (fun e=>by have :=HKL.o;omega));have HR3:=θ hR3;have HB9c:=θ hb9;have HKB3:=θ hkb3;have HE3:=θ hE3;have HW3:Hid (Chg (exT B X) w w3):=HW2.o.trans hC3 (fun j hj=>hj.elim (fun h=>Ei (bS (fun i hi=>Ei (Ei hi)) h)) (fun e=>by right;have :=HKL.o;omega));obtain⟨y0,y1,y2⟩:=hb9.cells;have t10:=hR3.cell;clear hE3 hC3 hR3 hb9 hkb3 HLOOK HB9b HKB2b HW2 f0 f1 f2;go_wp2_with fail;refine(HNXT.o _).mono ?_;rintro e w4 ⟨rfl,hb4⟩;have hkb4:=HKB3.o.below hb4;have hb10:=HR3.o.below hb4;have u10:=hb10.cell;have k4:=hkb4.cell;have kf4:=hkb4.frz;have HK4:=θ hkb4;have HE4:=θ (HE3.o.below hb4);have HW4:Hid (Chg (exT B X) w w4):=HW3.o.trans (Chg.of_below (S:=exT B X) hb4) (fun j hj=>Ei hj);clear hkb4 hb10 hb4 HR3 HB9c HKB3 HE3 HW3 y0 y1 y2 t10 HNXT;have HFIN:Hid (∀u:Value,0≤vis'+(v1:Int)+(v2:Int)∧vis'+(v1:Int)+(v2:Int)≤((l+1:Nat):Int)*(8*H+4)∧WaveE B (fun i=>X i∨i=w.heap.size) (w4.setCell ⟨w.heap.size,0,none⟩ u) p D (dM O' l π (iG (O' l π) ct)) L.length (vis'+v1+v2) bA∧LvlM (dM O' l π (iG (O' l π) ct)) L (aB L k) (l+1)∧(∀l' k',l'<9→k'<pw l'→aO (dM O' l π (iG (O' l π) ct) l' k')≤H)∧Box1 (w4.setCell ⟨w.heap.size,0,none⟩ u) w.heap.size u 3∧Chg (exT B X) w (w4.setCell ⟨w.heap.size,0,none⟩ u)):=fun u=>by
    refine⟨by have :=HV0.o;omega,?_,(HE4.o.mono (fun i hi=>Ei hi)).chg (Z:=fun j=>j=w.heap.size) (Chg.refl.setCell (S:=fun j=>j=w.heap.size) ⟨w.heap.size,0,none⟩ (Ei rfl) _) (fun k hk _ e=>hk.2 (Ej e)),HM'.out,fun l' k' g1 g2=>?_,HK4.o.set _,HW4.o.setCell _ (Ej (aA5 _)) _⟩
    ·have e:((l+1:Nat):Int)*(8*(H:Int)+4)=(l:Int)*(8*(H:Int)+4)+(8*(H:Int)+4):=by push_cast;rw[Int.add_mul];omega
     rw[e];have h1:=HV1.o;have h2:=HHL.o;omega
    ·by_cases e:l'=l∧k'=π
     ·obtain⟨rfl,rfl⟩:=e;rw[cA];have h2:=HHL.o;have h3:=HHI.o;omega
     ·rw[dI _ _ E];exact HHH.o l' k' g1 g2
   cases bt
   ·have hw1:IntKind.i64.wrap ((ct:Int)-(on:Int))=(ct:Int)-(on:Int):=ao4 _ E;go_wp2_with fail;go_roundw;case rel=>
     have hg:=HBG.o Es;rw[hg];exact⟨l+1,E,by go_num,rfl,_,_,HFIN.o _⟩
    case measure=>simp[intOf];omega
   ·go_wp2_with fail;go_roundw;case rel=>
     have hg:=HBF.o Es;rw[hg];exact⟨l+1,E,by go_num,rfl,_,_,HFIN.o _⟩
    case measure=>simp[intOf];omega
  ·obtain rfl:l=9:=E;have hp9:=mZ s;have HC:=θ hC;have HE:=θ hE;have HM:=θ hM;have HHH:=θ hHH;obtain⟨_,c9,_,fz,_⟩:=hE.cells;have z9:=fz 9;have hwn:IntKind.i64.wrap ((L.length:Int)-1)=(L.length:Int)-1:=ao4 _ (by have :=HLEN.o;omega);have HN:Hid ((L.length:Int)-1=((aB L k).length:Nat)):=by show _=_;rw[eJ hkL];omega
   clear hC hE hM hHH hKB fz;go_wp2_with fail;go_ret2;rw[HN.o];refine⟨by rw[hp9];rfl,O',vis',hv0,E,((HE.o.mono (fun i hi=>Ei hi)).setN (aB L k).length).1,HM.o.fin,HHH.o,HC.o.trans ((HE.o.mono (fun i hi=>Ei hi)).setN (aB L k).length).2 (fun j hj=>Ei hj)⟩
end
end Go.Proofs.YtchinbgemenenaaGreatDoor
