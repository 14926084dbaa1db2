/- Lemmas and contracts under the claims of this seat. No condition. -/
import Derived.Laws.BytesArg
import Derived.Deep.QuietTactic
import Derived.BigQuiet
import Derived.Lib.SlBytesConst
import Derived.OpenShut
import Derived.Shelf.Small.Bits
import Derived.Shelf.Small.Wraps
import Derived.Shelf.Strconv.Itoa0
import Derived.Shelf.Sort.Plain
import Derived.Shelf.Slices.Reverse
import Derived.Shelf.Slices.Equal
import Derived.Ground.Names2Prog
import Derived.Shelf.Slices.Clone
import Derived.Shelf.Slices.SearchI
import Derived.Shelf.Slices.Delete
import Derived.Shelf.Slices.Cells
import Derived.Shelf.Slices.In.SortNone
import Derived.Shelf.Slices.Empties
import Derived.Shelf.Slices.Empties2
import Derived.Shelf.Bytes.SlSearch0
import Derived.Ground.SlgfProg
import Derived.Shelf.SlicesE.IndexFunc
import Derived.Ground.SlsfProg
import Derived.Shelf.SlSortCmp.Insertion
import Derived.Shelf.SlSortCmp.SiftDown1
import Derived.Shelf.SlSortCmp.HeapSort1
import Derived.Shelf.SlSortCmp.Insertion1
import Derived.Shelf.SlSortCmp.Median1
import Derived.Shelf.SlSortCmp.Pivot1
import Derived.Shelf.SlSortCmp.ReverseRange1
import Derived.Shelf.SlSortCmp.PartialInsertion1
import Derived.Shelf.SlSortCmp.PartitionEqual1
import Derived.Shelf.SlSortCmp.Partition1
import Derived.Shelf.SlSortCmp.Pdq1
import Derived.Shelf.SlSortCmp.Whole1
import Derived.Shelf.SlSortCmp.NoneTotal
import Derived.Shelf.Bytes.SlEqualAll
import Derived.Shelf.Bytes.Small
import Derived.Shelf.SlCmpFuncs.BinarySearchFunc
import Derived.Shelf.SlCmpFuncs.None
import Derived.Ground.SlsgProg
import Derived.Shelf.Spec.SlicesInsert
import Derived.Shelf.Spec.SlicesInsertGrow
import Derived.Test.YtchinbgemenenaaGreatDoorProg
import Derived.Test.YtchinbgemenenaaGreatDoorZr1
import Derived.Test.YtchinbgemenenaaGreatDoorZr2
import Derived.Test.YtchinbgemenenaaGreatDoorZr7
import Derived.Test.YtchinbgemenenaaGreatDoorZr9
import Derived.Test.YtchinbgemenenaaGreatDoorZr10
namespace Go.Proofs.YtchinbgemenenaaGreatDoor
set_option linter.unusedVariables false
set_option linter.unusedSimpArgs false
set_option maxRecDepth 100000
set_option maxHeartbeats 12800000
section
open Go.RowKit
def Wv(B:Nat)(X:Nat→Prop)(w:World)(p:Nat)(L:List Nat):Prop:=∃D O vis,WaveE B X w p D O L.length vis bA∧jM O L
section
variable {B:Nat}{X Y:Nat→Prop}{w w':World}{p:Nat}{L:List Nat}
theorem fX{D:WD}{O:Nat→Nat→Option ST}{n:Nat}{vis:Int}{Vb:Nat→Nat→Int→Prop}(h:WaveE B X w p D O n vis Vb):HiO O 1000000000:=fun l k hl hk=>by
 have hg:=h.tGood hl hk;cases ho:O l k with
 | none=>simp[aO]
 | some t=>rw[ho]at hg;have :=iA hg.1.2 hg.2;simp only[aO];omega
theorem Wv.less (h:Wv B X w p L)(hb:Below w.heap.size w w')(hy:∀k,Y k→X k∨w.heap.size≤k)(hl:∀k,Y k→k<w'.heap.size):Wv B Y w' p L:=by
 obtain⟨D,O,v,h1,h2⟩:=h;exact⟨D,O,v,h1.less hb hy hl,h2⟩
theorem Wv.mono (h:Wv B X w p L)(hy:∀k,Y k→X k):Wv B Y w p L:=by
 obtain⟨D,O,v,h1,h2⟩:=h;exact⟨D,O,v,h1.mono hy,h2⟩
theorem Wv.chg {Z:Nat→Prop}(h:Wv B X w p L)(hc:Chg Z w w')(hd:∀k,exT B X k→k<w.heap.size→¬Z k):Wv B X w' p L:=by
 obtain⟨D,O,v,h1,h2⟩:=h;exact⟨D,O,v,h1.chg hc hd,h2⟩
theorem Wv.le (h:Wv B X w p L):B≤w.heap.size:=by obtain⟨D,O,v,h1,h2⟩:=h;exact h1.le
theorem wvGet(h:Wv B X w p L)(hL:Syms L)(hn:L.length≤1000000000)(k s:Nat)(hk:L[k]? =some s):
  Calls Tryz.prog 102 #[.pointer (some ⟨p,0,none⟩), .int .i64 k] w fun e w'=>e= .returned (.tuple #[.int .i64 s, .int .i64 0])∧Wv B X w' p L∧Chg (exT B X) w w':=by
 obtain⟨D,O,v,h1,h2⟩:=h;refine(Hm h1 h2 hL hn (fX h1) (aA5 _) k s hk).mono ?_;rintro e w' ⟨rfl,v',_,_,h3,h4⟩;exact⟨rfl,⟨D,O,v',h3,h2⟩,h4⟩
theorem wvRank(h:Wv B X w p L)(hL:Syms L)(hn:L.length≤1000000000)(k:Int)(s:Nat)(hs:s<257):
  Calls Tryz.prog 175 #[.pointer (some ⟨p,0,none⟩), .int .i64 k, .int .i64 s] w fun e w'=>e= .returned (.int .i64 (aV L k.toNat s))∧Wv B X w' p L∧Chg (exT B X) w w':=by
 obtain⟨D,O,v,h1,h2⟩:=h;refine(Ck h1 h2 hL hn (fX h1) (aA5 _) k s hs).mono ?_;rintro e w' ⟨rfl,v',_,_,h3,h4⟩;exact⟨rfl,⟨D,O,v',h3,h2⟩,h4⟩
theorem ac6(h:Wv B X w p L)(hTab:BitTab w)(hNT:0<B)(hL:Syms L)(hn:L.length≤1000000000)(j:Int)(s:Nat)(hs:s<257):
  Calls Tryz.prog 125 #[.pointer (some ⟨p,0,none⟩), .int .i64 j, .int .i64 s] w fun e w'=>e= .returned (.int .i64 (iV L j s))∧Wv B X w' p L∧Chg (exT B X) w w':=by
 obtain⟨D,O,v,h1,h2⟩:=h;refine(Jz h1 hTab hNT h2 hL hn (fX h1) (aA5 _) j s hs).mono ?_;rintro e w' ⟨rfl,v',h3,h4⟩;exact⟨rfl,⟨D,O,v',h3,h2⟩,h4⟩
theorem ac5(h:Wv B X w p L)(hL:Syms L)(hn:L.length≤1000000000)(k s:Nat)(hk:k≤L.length)(hs:s<257):
  Calls Tryz.prog 170 #[.pointer (some ⟨p,0,none⟩), .int .i64 k, .int .i64 s] w fun e w'=>e= .returned (.int .i64 0)∧Wv B X w' p (inL L k s)∧Chg (exT B X) w w':=by
 obtain⟨D,O,v,h1,h2⟩:=h;refine(Jy h1 h2 hL hn (fX h1) (aA5 _) k s hk hs).mono ?_;rintro e w' ⟨rfl,O',v',_,_,h3,h4,_,h5⟩;exact⟨rfl,⟨D,O',v',by rw[fZ hk];exact h3,h4⟩,h5⟩
theorem ac4(h:Wv B X w p L)(hL:Syms L)(hn:L.length≤1000000000)(k s:Nat)(hk:L[k]? =some s):
  Calls Tryz.prog 161 #[.pointer (some ⟨p,0,none⟩), .int .i64 k] w fun e w'=>e= .returned (.tuple #[.int .i64 s, .int .i64 0])∧Wv B X w' p (aB L k)∧Chg (exT B X) w w':=by
 obtain⟨D,O,v,h1,h2⟩:=h;refine(Jx h1 h2 hL hn (fX h1) (aA5 _) k s hk).mono ?_;rintro e w' ⟨rfl,O',v',_,_,h3,h4,_,h5⟩;exact⟨rfl,⟨D,O',v',h3,h4⟩,h5⟩
theorem wvLen(h:Wv B X w p L):Calls Tryz.prog 118 #[.pointer (some ⟨p,0,none⟩)] w fun e w'=>e= .returned (.int .i64 L.length)∧w=w':=by
 obtain⟨D,O,v,h1,h2⟩:=h;exact ab9 h1
theorem wvAll(h:Wv B X w p L)(hL:Syms L)(hn:L.length≤1000000000):
  Calls Tryz.prog 143 #[.pointer (some ⟨p,0,none⟩)] w fun e w'=>
   ∃g,e= .returned (.slice (some ⟨g,0,none⟩) L.length L.length)∧w.heap.size≤g∧RowC w' g (L.map wsV) 3∧Wv B (fun i=>X i∨i=g) w' p L∧Chg (exT B X) w w':=by
 obtain⟨D,O,v,h1,h2⟩:=h;refine(ab8 h1 h2 hL hn (fX h1) (aA5 _)).mono ?_;rintro e w' ⟨g,rfl,h3,h4,h5,h6⟩;exact⟨g,rfl,h3,h4,⟨D,O,v,h5,h2⟩,h6⟩
def cW(L:List Nat)(l:Nat):List (List Bool):=(List.range l).flatMap (fun l=>((List.range (pw l)).map (lvl L l)).filter (fun b=>decide (0<b.length)))
theorem Tv{O:Nat→Nat→Option ST}(h:jM O L):(fJ O 9).map aF=cW L 9:=by
 have key:∀l,l≤9→(fJ O l).map aF=cW L l:=by
  intro l hl;induction l with
  | zero=>rfl
  | succ l ih=>
   have e:cW L (l+1)=cW L l++((List.range (pw l)).map (lvl L l)).filter (fun b=>decide (0<b.length)):=by
    unfold cW;rw[ay4,aq6];simp
   rw[sL,at6,ih E,e];congr 1;unfold shL;have e2:(List.range (pw l)).map (lvl L l)=((List.range (pw l)).map (O l)).map aF:=by
    rw[av0];apply at7;intro k hk;exact(h l k E (ax4.1 hk)).symm
   rw[e2];exact(List.filter_map (f:=aF) (p:=fun b:List Bool=>decide (0<b.length)) (l:=(List.range (pw l)).map (O l))).symm
 exact key 9 (aA5 _)
theorem wvNew{a:Option Addr}{c:Nat}(L:List Nat)(hr:ReadsV w a (L.map wsV))(hL:Syms L)(hn:L.length≤1000000):
  Calls Tryz.prog 146 #[.slice a L.length c] w fun e w'=>∃p,e= .returned (.tuple #[.pointer (some ⟨p,0,none⟩), .int .i64 0])∧Wv w.heap.size (fun _=>False) w' p L∧Below w.heap.size w w':=by
 refine(Vg L hr hL hn).mono ?_;rintro e w' ⟨p,D,O,rfl,h1,h2,h3⟩;exact⟨p,rfl,⟨D,O,0,h1,h2⟩,h3⟩
theorem Wv.base {B':Nat}(h:Wv B X w p L)(hB:B'≤B):Wv B' (fun j=>X j∨(B'≤j∧j<B)) w p L:=by
 obtain⟨D,O,v,⟨⟨S,hS,hE⟩,hle,hx⟩,h2⟩:=h;refine⟨D,O,v,⟨⟨S,hS,fun j hj=>?_⟩,E,fun k hk=>?_⟩,h2⟩
 ·have :=hE j hj;exact⟨by have :=this.1;omega,fun hk=>hk.elim this.2 (fun e=>by have :=this.1;omega)⟩
 ·rcases hk with hk | hk
  ·exact hx k hk
  ·omega
end
section
variable {B:Nat}{X:Nat→Prop}{w0 w w':World}{p:Nat}{L L':List Nat}{a:Option Addr}{M:List Nat}
end
def tK(xs ys:List Int):Bool:=decide (xs=ys)
theorem Hi{xs ys:List Int}{k:Nat}(hx:k<xs.length)(hy:k<ys.length)(h:xs.take k=ys.take k)(he:xs[k]?.getD 0=ys[k]?.getD 0):xs.take (k+1)=ys.take (k+1):=by
 rw[ay9,ay9,h,ar3 hx,ar3 hy];rw[ar3 hx,ar3 hy]at he;simp only[aD0]at he;rw[he]
theorem Ga(a b:Option Addr)(c d:Nat)(xs ys:List Int)(w:World)(hx:Reads w .i64 a xs)(hy:Reads w .i64 b ys)(hm:xs.length≤9223372036854775806):
  Calls Tryz.prog 17 #[.slice a xs.length c, .slice b ys.length d] w fun e w'=>e= .returned (.bool (tK xs ys))∧∃n,w'=w.drewN n:=by
 by_cases hl:xs.length=ys.length
 ·have hlb:((xs.length:Int) != (ys.length:Int))=false:=by simp[hl]
  have HL:=θ hl;rw[←hl]at hlb⊢;clear hl;go_enter Tryz.func17,Tryz.ntmps17;go_wp2;go_loopw [5] (fun i wr=>∃k:Nat,k≤xs.length∧i= .int .i64 k∧xs.take k=ys.take k∧∃n,wr=w.drewN n) (fun i _=>xs.length-(intOf i).toNat);case atStart=>exact⟨0,aC8 _,rfl,rfl,0,rfl⟩
  case round=>
   obtain⟨k,hk,rfl,ht,nd,rfl⟩:=hrel;have HT:=θ ht;clear ht;by_cases hlt:k<xs.length
   ·obtain⟨b0,o0,rfl,_,hc0⟩:=hx.some E;obtain⟨b1,o1,rfl,_,hc1⟩:=hy.some (by have :=HL.o;omega);have h0:=hc0 k hlt;have h1:=hc1 k (by have :=HL.o;omega);clear hc0 hc1 hx hy;have HD:Hid ((xs[k]?.getD 0=ys[k]?.getD 0→xs.take (k+1)=ys.take (k+1))∧(xs[k]?.getD 0≠ys[k]?.getD 0→tK xs ys=false)):=
     ⟨fun he=>Hi hlt (by have :=HL.o;omega) HT.o he,fun hne=>aG9 fun he=>hne (by rw[he])⟩
    generalize xs[k]?.getD 0=x at *;generalize ys[k]?.getD 0=y at *;have hi0:(0:Int)≤(k:Int):=E;have hi1:(k:Int)<(xs.length:Int):=E;by_cases hxy:x=y
    ·subst hxy;go_wp2_with fail;go_quiet (fail);go_wp2;go_roundw;case rel=>exact⟨k+1,E,Es,HD.o.1 (by trivial),_,rfl⟩
     case measure=>simp[intOf];omega
    ·have hne:(x != y)=true:=by simp[hxy]
     have HS:Hid (tK xs ys=false):=HD.o.2 hxy;clear hxy;go_wp2_with fail;go_quiet (fail);go_wp2;go_ret;exact⟨dV HS.o.symm,_,aG0 _ _ _⟩
   ·obtain rfl:k=xs.length:=E;have HS:Hid (tK xs ys=true):=aH1 (by
     have :=HT.o
     rwa[az2,HL.o,az2]at this)
    go_wp2;go_ret;exact⟨dV HS.o.symm,_,rfl⟩
 ·have hlb:((xs.length:Int) != (ys.length:Int))=true:=by rw[bne_iff_ne];omega
  have hsm:tK xs ys=false:=aG9 fun h=>hl (by rw[h]);rw[hsm];clear hsm hl;go_enter Tryz.func17,Tryz.ntmps17;go_wp2;go_ret;exact⟨rfl,0,rfl⟩
theorem Iq(a b:Option Addr)(n m c d:Nat)(xs ys:List Int)(w:World)(hx:Reads w .i64 a xs)(hy:Reads w .i64 b ys)(hn:n=xs.length)(hm:m=ys.length)(hmx:xs.length≤9223372036854775806):
  Calls Tryz.prog 17 #[.slice a n c, .slice b m d] w fun e w'=>e= .returned (.bool (tK xs ys))∧∃k,w'=w.drewN k:=by
 subst hn;subst hm;exact Ga a b c d xs ys w hx hy hmx
theorem readsN{w:World}{a:Option Addr}{L:List Nat}(h:ReadsV w a (L.map wsV)):Reads w .i64 a (L.map Int.ofNat):=by
 intro i hi;rw[at1]at hi;obtain⟨b,off,ha,hlt,hc⟩:=h i (by rw[at1];exact hi);refine⟨b,off,ha,hlt,fun j hj=>hc j _ ?_⟩;rw[at1]at hj;rw[ar6,ar6,ar3 hj];rfl
theorem yW{L:List Nat}{ys:List (Option ST)}(h:ys.map aF=cW L 9):ys.length=(cW L 9).length:=by
 rw[←h,at1]
theorem Ky(L:List Nat):(cW L 9).length≤511:=by
 have key:∀l,l≤9→(cW L l).length≤pw l-1:=by
  intro l;induction l with
  | zero=>intro _;simp[cW]
  | succ l ih=>
   intro hl;have e:cW L (l+1)=cW L l++((List.range (pw l)).map (lvl L l)).filter (fun b=>decide (0<b.length)):=by
    unfold cW;rw[ay4,aq6];simp
   have h1:=ih E;have h2:(((List.range (pw l)).map (lvl L l)).filter (fun b=>decide (0<b.length))).length≤pw l:=
    aA6 (as9 _ _) Es
   have h3:pw (l+1)=2*pw l:=by unfold pw;rw[aB9];omega
   have h4:=Fm l;rw[e,as6];omega
 have :=key 9 (aA5 _);exact this
section
variable {B:Nat}{X Y:Nat→Prop}{w w':World}{p:Nat}{L:List Nat}
theorem Wv.aside {Z:Nat→Prop}(h:Wv B X w p L)(hc:Chg Z w w')(hd:∀k,exT B X k→k<w.heap.size→¬Z k):Wv B (fun k=>X k∨(w.heap.size≤k∧k<w'.heap.size)) w' p L:=by
 obtain⟨D,O,v,h,h2⟩:=h;obtain⟨S,h1,h3⟩:=h.i;refine⟨D,O,v,⟨⟨S,h1.chg hc (fun k hk=>hd k (h3 k hk) (h1.lt k hk)),fun j hj=>⟨(h3 j hj).1,fun hY=>hY.elim (h3 j hj).2 (fun g=>by have :=h1.lt j hj;omega)⟩⟩,aA6 h.le hc.size,?_⟩,h2⟩;rintro k (hk | hk)
 ·exact aA9 (h.x k hk) hc.size
 ·exact hk.2
theorem Wv.xlt (h:Wv B X w p L){k:Nat}(hk:X k):k<w.heap.size:=by
 obtain⟨D,O,v,h,h2⟩:=h;exact h.x k hk
end
structure W3 (B:Nat) (K:Nat→Prop) (w:World) (pa:Nat) (La:List Nat) (pb:Nat) (Lb:List Nat) (pc:Nat) (Lc:List Nat):Prop where
 ex:∃Xa Xb Xc:Nat→Prop,Wv B Xa w pa La∧Wv B Xb w pb Lb∧Wv B Xc w pc Lc∧(∀k,B≤k→k<w.heap.size→(Xa k∨Xb k)∧(Xa k∨Xc k)∧(Xb k∨Xc k))∧∀k,K k→Xa k∧Xb k∧Xc k
section
variable {B:Nat}{K:Nat→Prop}{w w':World}{pa pb pc:Nat}{La Lb Lc:List Nat}
end
def TAt(B:Nat)(w:World)(p:Nat)(t:Tl):Prop:=IsTally w p t∧B≤p
theorem ak7{w:World}(l:List Int){a:Option Addr}{c n:Nat}(hl:Reads w .i64 a l)(hn:n=l.length)(hs:∀x∈l,0≤x∧x<257)(hlen:l.length≤2147483648):
  Calls Tryz.prog 136 #[.slice a n c] w fun e w'=>∃p,e= .returned (.tuple #[.pointer (some ⟨p,0,none⟩), .int .i64 0])∧TAt w.heap.size w' p (Tl.of l)∧Below w.heap.size w w':=by
 subst hn;refine(Ut hl hs hlen).mono ?_;rintro e w' ⟨rfl,h1,h2⟩;exact⟨_,rfl,⟨h1,aA5 _⟩,h2⟩
def t8:Tl:=Tl.of [0,5,5,256]
structure WkP (B:Nat) (X:Nat→Prop) (w:World) (p pw pt:Nat) (L:List Nat) (T:Tl):Prop where
 hd:w.heap[p]? =some (.cells #[.pointer (some ⟨pw,0,none⟩), .pointer (some ⟨pt,0,none⟩)] 139 (0,0))
 v:Wv B (fun k=>X k∨k=p∨k=pt) w pw L
 t:IsTally w pt T
 ep:exT B X p
 et:exT B X pt
 ne:p≠pt
 sy:Syms L
def WkT(B:Nat)(X:Nat→Prop)(w:World)(p:Nat)(L:List Nat)(T:Tl):Prop:=∃pw pt,WkP B X w p pw pt L T
section
variable {B:Nat}{X Y:Nat→Prop}{w w':World}{p pw pt:Nat}{L L':List Nat}{T T':Tl}
theorem WkT.le (h:WkT B X w p L T):B≤w.heap.size:=by obtain⟨pw,pt,h⟩:=h;exact h.v.le
theorem WkT.ok (h:WkT B X w p L T):T.Ok:=by obtain⟨pw,pt,h⟩:=h;exact h.t.ok
theorem WkT.sy (h:WkT B X w p L T):Syms L:=by obtain⟨pw,pt,h⟩:=h;exact h.sy
theorem WkT.xlt (h:WkT B X w p L T){k:Nat}(hk:X k):k<w.heap.size:=by obtain⟨pw,pt,h⟩:=h;exact h.v.xlt (Ei hk)
theorem WkP.cells (h:WkP B X w p pw pt L T):w.cell? ⟨p,0,none⟩=some (.pointer (some ⟨pw,0,none⟩))∧w.cell? ⟨p,1,none⟩=some (.pointer (some ⟨pt,0,none⟩)):=
 ⟨aG7 w p 0 _ _ _ h.hd,aG7 w p 1 _ _ _ h.hd⟩
theorem WkP.step (h:WkP B X w p pw pt L T)(hv:Wv B (fun k=>X k∨k=p∨k=pt) w' pw L')(hs:Syms L')(hc:Chg (exT B (fun k=>X k∨k=p∨k=pt)) w w'):WkP B X w' p pw pt L' T∧Chg (exT B X) w w':=
 ⟨⟨hc.heap h.hd (fun hk=>hk.2 (Ej (Ei rfl))),hv,h.t.chg hc (fun hk=>hk.2 (Ej (Ej rfl))),h.ep,h.et,h.ne,hs⟩,hc.mono (fun k hk=>⟨hk.1,fun hx=>hk.2 (Ei hx)⟩)⟩
theorem WkP.aside {Z:Nat→Prop}(h:WkP B X w p pw pt L T)(hc:Chg Z w w')(hd:∀k,exT B X k→k<w.heap.size→¬Z k):WkP B (fun k=>X k∨(w.heap.size≤k∧k<w'.heap.size)) w' p pw pt L T:=by
 have l1:=(am0.1 h.hd).1;have l2:=h.t.lt;refine⟨hc.heap h.hd (hd p h.ep l1),(h.v.aside hc (fun k hk hl=>hd k ⟨hk.1,fun hx=>hk.2 (Ei hx)⟩ hl)).mono (fun k hk=>?_),h.t.chg hc (hd pt h.et l2),⟨h.ep.1,fun hx=>hx.elim h.ep.2 (fun g=>E)⟩,⟨h.et.1,fun hx=>hx.elim h.et.2 (fun g=>E)⟩,h.ne,h.sy⟩;rcases hk with (hk | hk) | hk | hk
 ·exact Ei (Ei hk)
 ·exact Ej hk
 ·exact Ei (Ej (Ei hk))
 ·exact Ei (Ej (Ej hk))
theorem WkP.mono (h:WkP B X w p pw pt L T)(hy:∀k,Y k→X k):WkP B Y w p pw pt L T:=
 ⟨h.hd,h.v.mono (fun k hk=>hk.elim (fun a=>Ei (hy k a)) Ej),h.t,⟨h.ep.1,fun hx=>h.ep.2 (hy p hx)⟩,⟨h.et.1,fun hx=>h.et.2 (hy pt hx)⟩,h.ne,h.sy⟩
theorem WkP.below (h:WkP B X w p pw pt L T)(hb:Below w.heap.size w w'):WkP B X w' p pw pt L T:=
 (h.aside (Z:=fun _=>False) (Chg.of_below hb) (fun _ _ _ hf=>hf)).mono (fun k hk=>Ei hk)
theorem WkT.aside {Z:Nat→Prop}(h:WkT B X w p L T)(hc:Chg Z w w')(hd:∀k,exT B X k→k<w.heap.size→¬Z k):WkT B (fun k=>X k∨(w.heap.size≤k∧k<w'.heap.size)) w' p L T:=by
 obtain⟨pw,pt,h⟩:=h;exact⟨pw,pt,h.aside hc hd⟩
theorem WkT.mono (h:WkT B X w p L T)(hy:∀k,Y k→X k):WkT B Y w p L T:=by
 obtain⟨pw,pt,h⟩:=h;exact⟨pw,pt,h.mono hy⟩
theorem WkT.below (h:WkT B X w p L T)(hb:Below w.heap.size w w'):WkT B X w' p L T:=by
 obtain⟨pw,pt,h⟩:=h;exact⟨pw,pt,h.below hb⟩
theorem WkT.less (h:WkT B X w p L T)(hb:Below w.heap.size w w')(hy:∀k,Y k→X k∨(w.heap.size≤k∧k<w'.heap.size)):WkT B Y w' p L T:=
 (h.aside (Z:=fun _=>False) (Chg.of_below hb) (fun _ _ _ hf=>hf)).mono hy
theorem WkT.new {B:Nat}{w1 w2 w3:World}{pw pt:Nat}(h1:Wv B X w1 pw L)(hS:Syms L)(hb:Below w1.heap.size w1 w2)(h2:IsTally w2 pt T)(hp:w1.heap.size≤pt)(h3:w3=w2.alloc (.cells #[.pointer (some ⟨pw,0,none⟩), .pointer (some ⟨pt,0,none⟩)] 139)):
  WkT B X w3 w2.heap.size L T:=by
 subst h3;have l2:=h2.lt;have hs:=hb.size;have hle:=h1.le;have hnew:=aH5 w2 (.cells #[.pointer (some ⟨pw,0,none⟩), .pointer (some ⟨pt,0,none⟩)] 139);have hb3:=hb.alloc hs (.cells #[.pointer (some ⟨pw,0,none⟩), .pointer (some ⟨pt,0,none⟩)] 139);refine⟨pw,pt,hnew,h1.less hb3 (Y:=fun k=>X k∨k=w2.heap.size∨k=pt) (fun k hk=>?_) (fun k hk=>?_),h2.chg (Chg.refl.alloc (S:=fun _=>False) _) id,⟨E,fun hx=>?_⟩,⟨E,fun hx=>?_⟩,E,hS⟩
 ·rcases hk with hk | rfl | rfl
  ·exact Ei hk
  ·exact Ej hs
  ·exact Ej hp
 ·rcases hk with hk | rfl | rfl
  ·have :=h1.xlt hk;have :=hb3.size;omega
  ·simp
  ·simp;omega
 ·have :=h1.xlt hx;omega
 ·have :=h1.xlt hx;omega
theorem WkT.base {B':Nat}(h:WkT B X w p L T)(hB:B'≤B):WkT B' (fun j=>X j∨(B'≤j∧j<B)) w p L T:=by
 obtain⟨pw,pt,h⟩:=h;refine⟨pw,pt,h.hd,(h.v.base hB).mono (fun k hk=>?_),h.t,⟨aA6 hB h.ep.1,fun hx=>hx.elim h.ep.2 (fun g=>by have :=h.ep.1;omega)⟩,⟨aA6 hB h.et.1,fun hx=>hx.elim h.et.2 (fun g=>by have :=h.et.1;omega)⟩,h.ne,h.sy⟩;rcases hk with (hk | hk) | hk | hk
 ·exact Ei (Ei hk)
 ·exact Ej hk
 ·exact Ei (Ej (Ei hk))
 ·exact Ei (Ej (Ej hk))
theorem sQ{T:Tl}(h:T.Ok)(s:Int):0≤bR T s∧bR T s≤2147483648:=by
 unfold bR;have h1:=rQ h.pos (vN s);have h2:=kF h.pos (vN s) (aA5 _);rw[h.sum]at h2;have :=h.max;omega
end
theorem Um(L:List Nat){s:Nat}(hs:s≤257):bR (Tl.of (bF L)) (s:Int)=(aQ (bF L) (s:Int):Int):=by
 unfold bR;rw[show gX (s:Int)=s by unfold gX;omega];exact lD (fun x hx=>by obtain⟨y,_,rfl⟩:=ax1.1 hx;exact Int.natCast_nonneg y) s
theorem ac1{w:World}{a:Option Addr}{c:Nat}(L:List Nat)(hr:ReadsV w a (L.map wsV))(hL:Syms L)(hn:L.length≤1000000):
  Calls Tryz.prog 88 #[.slice a L.length c] w fun e w'=>∃p,e= .returned (.pointer (some ⟨p,0,none⟩))∧WkT w.heap.size (fun _=>False) w' p L (Tl.of (bF L))∧Below w.heap.size w w':=by
 have HNEW:=θ (wvNew (c:=c) L hr hL hn);have HR:=θ hr;have HSY:=θ hL;clear hr hL;go_enter Tryz.func88,Tryz.ntmps88;go_wp2_with fail;refine HNEW.o.mono ?_;rintro e w1 ⟨pw,rfl,hV,hb1⟩;have HV:=θ hV;have HB1:=θ hb1;have HT:=θ (ak7 (w:=w1) (a:=a) (c:=c) (n:=L.length) (bF L) (readsN (HR.o.below' hb1)) (by rw[kI]) (fun x hx=>by obtain⟨y,hy,rfl⟩:=ax1.1 hx;have :=HSY.o y hy;show 0≤(y:Int)∧(y:Int)<257;omega) (by rw[kI];omega));clear hV hb1 HNEW HR;go_wp2_with fail;refine HT.o.mono ?_;rintro e w2 ⟨pt,rfl,⟨ht,hp⟩,hb2⟩;have HK:Hid (WkT w.heap.size (fun _=>False) (w2.alloc (.cells #[.pointer (some ⟨pw,0,none⟩), .pointer (some ⟨pt,0,none⟩)] 139)) w2.heap.size L (Tl.of (bF L))):=θ (WkT.new HV.o HSY.o hb2 ht hp rfl);have HB:Hid (Below w.heap.size w (w2.alloc (.cells #[.pointer (some ⟨pw,0,none⟩), .pointer (some ⟨pt,0,none⟩)] 139))):=θ ((HB1.o.trans (hb2.mono HB1.o.size)).alloc (HB1.o.trans (hb2.mono HB1.o.size)).size _);clear ht hp hb2 HT HV HB1;go_wp2_with fail;go_ret;exact⟨_,rfl,HK.o,HB.o⟩
section
variable {B:Nat}{X:Nat→Prop}{w:World}{p:Nat}{L:List Nat}{T:Tl}
theorem Pf(h:WkT B X w p L T):Calls Tryz.prog 56 #[.pointer (some ⟨p,0,none⟩)] w fun e w'=>e= .returned (.int .i64 L.length)∧w=w':=by
 obtain⟨pw,pt,hp⟩:=h;obtain⟨c0,c1⟩:=hp.cells;have HL:=θ (wvLen hp.v);clear hp c1;go_enter Tryz.func56,Tryz.ntmps56;go_wp2_with fail;refine HL.o.mono ?_;rintro e w' ⟨rfl,rfl⟩;go_wp2_with fail;go_ret;exact⟨rfl,rfl⟩
theorem wkAll(h:WkT B X w p L T)(hn:L.length≤1000000):Calls Tryz.prog 85 #[.pointer (some ⟨p,0,none⟩)] w fun e w'=>
  ∃g,e= .returned (.slice (some ⟨g,0,none⟩) L.length L.length)∧RowC w' g (L.map wsV) 3∧w.heap.size≤g∧WkT B (fun k=>X k∨k=g) w' p L T∧Chg (exT B X) w w':=by
 obtain⟨pw,pt,hp⟩:=h;obtain⟨c0,c1⟩:=hp.cells;have HK:=θ hp;have HA:=θ (wvAll hp.v hp.sy E);clear hp c1;go_enter Tryz.func85,Tryz.ntmps85;go_wp2_with fail;refine HA.o.mono ?_;rintro e w' ⟨g,rfl,hge,hrow,hV,hc⟩;have HF:Hid (WkT B (fun k=>X k∨k=g) w' p L T∧Chg (exT B X) w w'):=θ (by
  have l1:=(am0.1 HK.o.hd).1
  have l2:=HK.o.t.lt
  exact⟨⟨pw,pt,hc.heap HK.o.hd (fun hk=>hk.2 (Ej (Ei rfl))),hV.mono (fun k hk=>by
   rcases hk with (hk | hk) | hk | hk
   ·exact Ei (Ei hk)
   ·exact Ej hk
   ·exact Ei (Ej (Ei hk))
   ·exact Ei (Ej (Ej hk))),HK.o.t.chg hc (fun hk=>hk.2 (Ej (Ej rfl))),⟨HK.o.ep.1,fun hx=>hx.elim HK.o.ep.2 (fun e=>E)⟩,⟨HK.o.et.1,fun hx=>hx.elim HK.o.et.2 (fun e=>E)⟩,HK.o.ne,HK.o.sy⟩,hc.mono (fun k hk=>⟨hk.1,fun hx=>hk.2 (Ei hx)⟩)⟩)
 clear hV hc HA HK c0;go_wp2_with fail;go_ret;exact⟨g,rfl,hrow,hge,HF.o⟩
theorem Ai{pw pt:Nat}(h:WkP B X w p pw pt L T)(s:Int):Calls Tryz.prog 126 #[.pointer (some ⟨p,0,none⟩), .int .i64 s] w fun e w'=>e= .returned (.int .i64 (bR T s))∧w=w':=by
 obtain⟨c0,c1⟩:=h.cells;have HB:=θ (Om h.t s);clear h c0;go_enter Tryz.func126,Tryz.ntmps126;go_wp2_with fail;refine HB.o.mono ?_;rintro e w' ⟨rfl,rfl⟩;go_wp2_with fail;go_ret;exact⟨rfl,rfl⟩
theorem Hq{pw pt:Nat}(h:WkP B X w p pw pt L T)(hn:L.length≤1000000)(k s:Nat)(hs:s<257):
  Calls Tryz.prog 175 #[.pointer (some ⟨pw,0,none⟩), .int .i64 k, .int .i64 s] w fun e w'=>e= .returned (.int .i64 (aV L k s))∧WkP B X w' p pw pt L T∧Chg (exT B X) w w':=by
 refine(wvRank h.v h.sy E (k:Int) s hs).mono ?_;rintro e w' ⟨rfl,hv,hc⟩;obtain⟨h1,h2⟩:=h.step hv h.sy hc;exact⟨by rw[ao2],h1,h2⟩
theorem wpGet{pw pt:Nat}(h:WkP B X w p pw pt L T)(hn:L.length≤1000000){k s:Nat}(hs:L[k]? =some s):
  Calls Tryz.prog 102 #[.pointer (some ⟨pw,0,none⟩), .int .i64 k] w fun e w'=>e= .returned (.tuple #[.int .i64 s, .int .i64 0])∧WkP B X w' p pw pt L T∧Chg (exT B X) w w':=by
 refine(wvGet h.v h.sy E k s hs).mono ?_;rintro e w' ⟨rfl,hv,hc⟩;obtain⟨h1,h2⟩:=h.step hv h.sy hc;exact⟨rfl,h1,h2⟩
theorem ac3{pw pt:Nat}(h:WkP B X w p pw pt L T)(hTab:BitTab w)(htl:0<B)(hn:L.length≤1000000)(j:Int)(s:Nat)(hs:s<257):
  Calls Tryz.prog 125 #[.pointer (some ⟨pw,0,none⟩), .int .i64 j, .int .i64 s] w fun e w'=>e= .returned (.int .i64 (iV L j s))∧WkP B X w' p pw pt L T∧Chg (exT B X) w w':=by
 refine(ac6 h.v hTab htl h.sy E j s hs).mono ?_;rintro e w' ⟨rfl,hv,hc⟩;obtain⟨h1,h2⟩:=h.step hv h.sy hc;exact⟨rfl,h1,h2⟩
theorem wkS{pw pt:Nat}{w1:World}(h:WkP B X w1 p pw pt L T)(hc:Chg (exT B X) w w1):w1.drew.cell? ⟨p,0,none⟩=some (.pointer (some ⟨pw,0,none⟩))∧WkP B X w1.drew p pw pt L T∧Chg (exT B X) w w1.drew:=
 ⟨h.cells.1,h.below ⟨rfl,rfl,rfl,aA5 _,fun _ _=>rfl⟩,hc.drew⟩
theorem wkSt{pw pt:Nat}{w1 w2:World}(h:WkP B X w2 p pw pt L T)(hc1:Chg (exT B X) w w1)(hc:Chg (exT B X) w1 w2):w2.cell? ⟨p,0,none⟩=some (.pointer (some ⟨pw,0,none⟩))∧WkP B X w2 p pw pt L T∧Chg (exT B X) w w2:=
 ⟨h.cells.1,h,hc1.trans hc (fun b hb=>Ei hb)⟩
theorem Ho(h:WkT B X w p L T){i:Int}(h0:0≤i)(h1:i<L.length):Calls Tryz.prog 123 #[.pointer (some ⟨p,0,none⟩), .int .i64 i] w fun e w'=>e= .returned (.bool true)∧w=w':=by
 have HL:=θ (Pf h);clear h;go_enter Tryz.func123,Tryz.ntmps123;go_wp2_with fail;refine HL.o.mono ?_;rintro e w' ⟨rfl,rfl⟩;go_wp2_with fail;go_ret;exact⟨rfl,rfl⟩
theorem vG(h:WkT B X w p L T){i:Int}(h0:0≤i)(h1:i<L.length)(hm:L.length≤2147483649):Calls Tryz.prog 59 #[.pointer (some ⟨p,0,none⟩), .int .i64 i] w fun e w'=>(∃r,e= .returned (.int .i64 r)∧IsWhich T i r)∧w=w':=by
 have HI:=θ (Ho h h0 h1);obtain⟨pw,pt,hp⟩:=h;obtain⟨c0,c1⟩:=hp.cells;have HWH:=θ (Pd hp.t i E E);clear hp c0 h0 h1;go_enter Tryz.func59,Tryz.ntmps59;go_wp2_with fail;refine HI.o.mono ?_;rintro e w' ⟨rfl,rfl⟩;go_wp2_with fail;refine HWH.o.mono ?_;rintro e w' ⟨⟨r,rfl,hr⟩,rfl⟩;go_wp2_with fail;go_ret;exact⟨⟨r,rfl,hr⟩,rfl⟩
theorem rM(h:WkT B X w p L T){i s:Nat}(hs:L[i]? =some s)(hn:L.length≤1000000):Calls Tryz.prog 121 #[.pointer (some ⟨p,0,none⟩), .int .i64 i] w fun e w'=>e= .returned (.int .i64 (bR T s+aV L i s))∧WkT B X w' p L T∧Chg (exT B X) w w':=by
 have hlt:=(ar5.1 hs).1;have hs257:=h.sy s (ax2 hs);have HI:=θ (Ho (i:=(i:Int)) h E E);obtain⟨tb0,tb1⟩:=sQ h.ok (s:Int);have hrk:=(kN L i s).1;obtain⟨pw,pt,hp⟩:=h;obtain⟨c0,c1⟩:=hp.cells;have HG:=θ (wpGet hp hn hs);have HBW:=θ (fun(w':World) (h':WkP B X w' p pw pt L T)=>Ai h' (s:Int));have HRK:=θ (fun(w':World) (h':WkP B X w' p pw pt L T)=>Hq h' hn i s hs257);obtain⟨bq,hbq⟩:∃bq,bR T (s:Int)=bq:=⟨_,rfl⟩;rw[hbq]at HBW tb0 tb1⊢;obtain⟨rq,hrq⟩:∃rq,aV L i s=rq:=⟨_,rfl⟩;rw[hrq]at HRK hrk⊢;have hw:IntKind.i64.wrap (bq+(rq:Int))=bq+rq:=ao4 _ E;clear hp hs c1 hbq hrq;go_enter Tryz.func121,Tryz.ntmps121;go_wp2_with fail;refine HI.o.mono ?_;rintro e w' ⟨rfl,rfl⟩;go_wp2_with fail;refine HG.o.mono ?_;rintro e w1 ⟨rfl,hk1,hc1⟩;have HS:=θ (wkS hk1 hc1);clear hk1 hc1 HG HI c0;go_upto_region 4 with fail
 refine aE (fun w'=>w'.cell? ⟨p,0,none⟩=some (.pointer (some ⟨pw,0,none⟩))∧WkP B X w' p pw pt L T∧Chg (exT B X) w w') Ek (HS.o) (fun hh=>?_);refine rt 0 hh ?_;refine rt 1 hh ?_;refine rt 3 hh ?_;refine rt 4 hh ?_;refine rt 5 hh ?_;refine rt 6 hh ?_;refine rt 7 hh ?_;refine rt 8 hh ?_;refine rg 2 fun κ hK=>?_;go_simp
 ((refine(HBW.o _ hh.2.1).mono ?_))
 rintro e w' ⟨rfl,rfl⟩;refine hK.out _ _ hh ?_;intro hh;try simp only[pt]
 refine rg 9 fun κ hK=>?_;go_simp
 ((refine(HRK.o _ hh.2.1).mono ?_))
 rintro e w2 ⟨rfl,hk2,hc2⟩;refine hK.out _ _ (wkSt hk2 hh.2.2 hc2) ?_;intro hh;try simp only[pt]
 refine rt 10 hh ?_;refine rt 11 hh ?_;refine rz ?_;obtain⟨_,hkF,hcF⟩:=hh;have HKF:=θ hkF;have HCF:=θ hcF;clear hkF hcF;go_wp2_with fail;go_ret;exact⟨rfl,⟨pw,pt,HKF.o⟩,HCF.o⟩
theorem ac2(h:WkT B X w p L T)(hTab:BitTab w)(htl:0<B){i s:Nat}(hi:i<L.length)(hs:s<257)(hwh:IsWhich T i s)(hn:L.length≤1000000):
  Calls Tryz.prog 60 #[.pointer (some ⟨p,0,none⟩), .int .i64 i] w fun e w'=>e= .returned (.int .i64 (iV L ((i:Int)-bR T s) s))∧WkT B X w' p L T∧Chg (exT B X) w w':=by
 have HF:=θ (vG (i:=(i:Int)) h E E E);have HOK:=θ h.ok;have HWH:=θ hwh;obtain⟨tb0,tb1⟩:=sQ h.ok (s:Int);have hle:=h.le;obtain⟨pw,pt,hp⟩:=h;have HBW:=θ (fun(w':World) (h':WkP B X w' p pw pt L T)=>Ai h' (s:Int));have HSE:=θ (fun(w':World) (h':WkP B X w' p pw pt L T) (hc:Chg (exT B X) w w')=>ac3 h' (hTab.below (eE hc hle) htl) htl hn ((i:Int)-bR T s) s hs);have HS:=θ (wkS (w:=w) hp Chg.refl);obtain⟨sq,hsq⟩:∃sq,iV L ((i:Int)-bR T s) s=sq:=⟨_,rfl⟩;rw[hsq]at HSE⊢;obtain⟨bq,hbq⟩:∃bq,bR T (s:Int)=bq:=⟨_,rfl⟩;rw[hbq]at HBW HSE tb0 tb1;have hw:IntKind.i64.wrap ((i:Int)-bq)=(i:Int)-bq:=ao4 _ E;clear hp hwh hsq hbq hle hTab;go_enter Tryz.func60,Tryz.ntmps60;go_wp2_with fail;refine HF.o.mono ?_;rintro e w' ⟨⟨r,rfl,hr⟩,rfl⟩;obtain rfl:=IsWhich.unique HOK.o hr HWH.o;clear hr;go_upto_region 4 with fail
 refine aE (fun w'=>w'.cell? ⟨p,0,none⟩=some (.pointer (some ⟨pw,0,none⟩))∧WkP B X w' p pw pt L T∧Chg (exT B X) w w') Ek (HS.o) (fun hh=>?_);refine rt 0 hh ?_;refine rt 1 hh ?_;refine rt 2 hh ?_;refine rt 3 hh ?_;refine rt 4 hh ?_;refine rt 5 hh ?_;refine rt 6 hh ?_;refine rt 9 hh ?_;refine rg 7 fun κ hK=>?_;go_simp
 ((refine(HBW.o _ hh.2.1).mono ?_))
 rintro e w' ⟨rfl,rfl⟩;refine hK.out _ _ hh ?_;intro hh;try simp only[pt]
 refine rt 8 hh ?_;refine rg 10 fun κ hK=>?_;go_simp
 ((refine(HSE.o _ hh.2.1 hh.2.2).mono ?_))
 rintro e w2 ⟨rfl,hk2,hc2⟩;refine hK.out _ _ (wkSt hk2 hh.2.2 hc2) ?_;intro hh;try simp only[pt]
 refine rt 11 hh ?_;refine rz ?_;obtain⟨_,hkF,hcF⟩:=hh;have HKF:=θ hkF;have HCF:=θ hcF;clear hkF hcF;go_wp2_with fail;go_ret;exact⟨rfl,⟨pw,pt,HKF.o⟩,HCF.o⟩
theorem Hp(h:WkT B X w p L T)(lo hi:Int){s lo' hi':Nat}(hs:s<257)(h1:(lo':Int)=min (max lo 0) L.length)(h2:(hi':Int)=max (min hi L.length) lo')(hn:L.length≤1000000):
  Calls Tryz.prog 128 #[.pointer (some ⟨p,0,none⟩), .int .i64 lo, .int .i64 hi, .int .i64 s] w fun e w'=>e= .returned (.tuple #[.int .i64 (bR T s+aV L lo' s), .int .i64 (bR T s+aV L hi' s)])∧WkT B X w' p L T∧Chg (exT B X) w w':=by
 have HIS:Hid (∀w,Calls Tryz.prog 122 #[.int .i64 s] w fun e w'=>e= .returned (.bool true)∧w=w'):=θ (fun w=>by rw[←dE (s:=(s:Int)) E E];exact bU s w);have HLN:=θ (Pf h);obtain⟨tb0,tb1⟩:=sQ h.ok (s:Int);have hr1:=(kN L lo' s).1;have hr2:=(kN L hi' s).1;have hl1:lo'≤1000000:=E;have hl2:hi'≤1000000:=E;have e1:=h1.symm;have e2:=h2.symm;obtain⟨pw,pt,hp⟩:=h;have HBW:=θ (fun(w':World) (h':WkP B X w' p pw pt L T)=>Ai h' (s:Int));have HR1:=θ (fun(w':World) (h':WkP B X w' p pw pt L T)=>Hq h' hn lo' s hs);have HR2:=θ (fun(w':World) (h':WkP B X w' p pw pt L T)=>Hq h' hn hi' s hs);have HS:=θ (wkS (w:=w) hp Chg.refl);obtain⟨bq,hbq⟩:∃bq,bR T (s:Int)=bq:=⟨_,rfl⟩;rw[hbq]at HBW tb0 tb1⊢;obtain⟨r1,hr1q⟩:∃r1,aV L lo' s=r1:=⟨_,rfl⟩;rw[hr1q]at HR1 hr1⊢;obtain⟨r2,hr2q⟩:∃r2,aV L hi' s=r2:=⟨_,rfl⟩;rw[hr2q]at HR2 hr2⊢;have hw1:IntKind.i64.wrap (bq+(r1:Int))=bq+r1:=ao4 _ E;have hw2:IntKind.i64.wrap (bq+(r2:Int))=bq+r2:=ao4 _ E;clear hp h1 h2 hr1q hr2q hbq;go_enter Tryz.func128,Tryz.ntmps128;go_wp2_with fail;refine(HIS.o _).mono ?_;rintro e w' ⟨rfl,rfl⟩;go_wp2_with fail;refine HLN.o.mono ?_;rintro e w' ⟨rfl,rfl⟩;go_wp2_with fail;refine HLN.o.mono ?_;rintro e w' ⟨rfl,rfl⟩;go_upto_region 5 with fail
 refine aE (fun w'=>w'.cell? ⟨p,0,none⟩=some (.pointer (some ⟨pw,0,none⟩))∧WkP B X w' p pw pt L T∧Chg (exT B X) w w') Ek (HS.o) (fun hh=>?_);refine rt 0 hh ?_;refine rt 1 hh ?_;refine rt 3 hh ?_;refine rt 4 hh ?_;refine rt 5 hh ?_;refine rt 6 hh ?_;refine rt 7 hh ?_;refine rt 8 hh ?_;refine rt 11 hh ?_;refine rt 12 hh ?_;refine rt 14 hh ?_;refine rt 15 hh ?_;refine rt 16 hh ?_;refine rt 17 hh ?_;refine rt 18 hh ?_;refine rt 19 hh ?_;refine rg 2 fun κ hK=>?_;go_simp
 ((refine(HBW.o _ hh.2.1).mono ?_))
 rintro e w' ⟨rfl,rfl⟩;refine hK.out _ _ hh ?_;intro hh;try simp only[pt]
 refine rg 9 fun κ hK=>?_;go_simp
 ((refine(HR1.o _ hh.2.1).mono ?_))
 rintro e w2 ⟨rfl,hk2,hc2⟩;refine hK.out _ _ (wkSt hk2 hh.2.2 hc2) ?_;intro hh;try simp only[pt]
 refine rt 10 hh ?_;refine rg 13 fun κ hK=>?_;go_simp
 ((refine(HBW.o _ hh.2.1).mono ?_))
 rintro e w' ⟨rfl,rfl⟩;refine hK.out _ _ hh ?_;intro hh;try simp only[pt]
 refine rg 20 fun κ hK=>?_;go_simp
 ((refine(HR2.o _ hh.2.1).mono ?_))
 rintro e w2 ⟨rfl,hk2,hc2⟩;refine hK.out _ _ (wkSt hk2 hh.2.2 hc2) ?_;intro hh;try simp only[pt]
 refine rt 21 hh ?_;refine rt 22 hh ?_;refine rt 23 hh ?_;refine rz ?_;obtain⟨_,hkF,hcF⟩:=hh;have HKF:=θ hkF;have HCF:=θ hcF;clear hkF hcF;go_wp2_with fail;go_ret2;exact⟨rfl,⟨pw,pt,HKF.o⟩,HCF.o⟩
end
theorem qP{P:Program}{src dst e:TypeId}{w:World}{a:Option Addr}{c:Nat}{xs:List Int}(hs:P.underlying src=some (.slice e))(he:P.underlying e=some (.int .u8))(hd:P.underlying dst=some .string)(h:Reads w .u8 a xs):
  (convert src dst (.slice a xs.length c)).run P w= .ok (.string (strOfNums xs)) w:=by
 by_cases h0:xs.length=0
 ·have hx:xs=[]:=aq2 h0;subst hx;cases a with
  | none=>exact run_convert_bytes_nil w src e hs he _ _ dst hd
  | some ad=>
   have :=run_convert_bytes_back w src dst e ad c [] hs he hd (fun j hj=>absurd hj Es);exact this
 ·obtain⟨b,off,rfl,_,hc⟩:=h.some E;exact run_convert_bytes_arg w src e hs he b off xs.length c xs rfl (fun i hi=>by rw[hc i hi,List.getD_eq_getElem?_getD]) dst hd
theorem xI(xs ys:List Int):strOfNums xs++strOfNums ys=strOfNums (xs++ys):=by
 unfold strOfNums;rw[ByteArray.mk_append_mk,at6]
end
section
open Go.Shelf
def Tryz.laysBS_ren:Go.Shelf.Ren:=⟨fun | 14=>148 | n=>n,fun | 22=>36 | 24=>3 | 29=>3 | 32=>98 | 3=>3 | 4=>4 | 35=>23 | 0=>0 | n=>n,fun | n=>n⟩
theorem Tryz.laysBS:Go.Proofs.SlLaysG2.n14 Tryz.prog Tryz.laysBS_ren:={
 mixed:=Ek
 f14:=⟨Tryz.f148.name,Ed,Tryz.func148.trans (aG8 some Ek)⟩
 t0:=aE6
 a0:=Tryz.isAgg0
 z0:=Tryz.sizeOf0
 v0:=aF4
 t3:=aE8
 a3:=aD9
 z3:=aE3
 v3:=aF5
 t4:=aF1
 a4:=aE0
 z4:=aE5
 v4:=aF7
 t22:=aF0
 a22:=Tryz.isAgg36
 z22:=aE4
 v22:=aF6
 a24:=aD9
 z24:=aE3
 a29:=aD9
 z29:=aE3
 t32:=Tryz.underlying98
 a32:=Tryz.isAgg98
 z32:=Tryz.sizeOf98
 v32:=Tryz.zeroValue98
 t35:=Tryz.underlying23
 a35:=Tryz.isAgg23
 z35:=Tryz.sizeOf23
 v35:=Tryz.zeroValue23}
def Tryz.laysIF_ren:Go.Shelf.Ren:=⟨fun | 6=>151 | n=>n,fun | 22=>36 | 23=>3 | 25=>158 | 3=>3 | 0=>0 | 4=>4 | n=>n,fun | n=>n⟩
theorem Tryz.laysIF:Go.Proofs.SlLaysH.n6 Tryz.prog Tryz.laysIF_ren:={
 mixed:=Ek
 f6:=⟨Tryz.f151.name,Ed,Tryz.func151.trans (aG8 some Ek)⟩
 t0:=aE6
 a0:=Tryz.isAgg0
 z0:=Tryz.sizeOf0
 v0:=aF4
 t3:=aE8
 a3:=aD9
 z3:=aE3
 v3:=aF5
 t4:=aF1
 a4:=aE0
 z4:=aE5
 v4:=aF7
 t22:=aF0
 a22:=Tryz.isAgg36
 z22:=aE4
 v22:=aF6
 a23:=aD9
 z23:=aE3
 t25:=Tryz.underlying158
 a25:=Tryz.isAgg158
 z25:=Tryz.sizeOf158
 v25:=Tryz.zeroValue158}
def Tryz.laysIns_ren:Go.Shelf.Ren:=⟨fun | 21=>99 | 27=>154 | 28=>155 | 35=>205 | 39=>230 | n=>n,fun | 22=>36 | 3=>3 | 4=>4 | 0=>0 | n=>n,fun | n=>n⟩
theorem Tryz.laysIns:Go.Proofs.Lays2.n21 Tryz.prog Tryz.laysIns_ren:={
 mixed:=Ek
 f21:=Tryz.func99.trans (aG8 some Ek)
 f27:=Tryz.func154.trans (aG8 some Ek)
 f28:=Tryz.func155.trans (aG8 some Ek)
 f35:=Tryz.func205.trans (aG8 some Ek)
 f39:=Tryz.func230.trans (aG8 some Ek)
 t0:=aE6
 a0:=Tryz.isAgg0
 z0:=Tryz.sizeOf0
 v0:=aF4
 t3:=aE8
 a3:=aD9
 z3:=aE3
 v3:=aF5
 t4:=aF1
 a4:=aE0
 z4:=aE5
 v4:=aF7
 t22:=aF0
 a22:=Tryz.isAgg36
 z22:=aE4
 v22:=aF6
 i3:=by kernel_rfl}
def Tryz.laysSF0_ren:Go.Shelf.Ren:=⟨fun | 6=>95 | 15=>131 | 14=>147 | 28=>190 | 29=>191 | 20=>196 | 21=>197 | 22=>198 | 23=>199 | 24=>200 | 25=>201 | 26=>202 | 27=>203 | 46=>227 | 47=>221 | 48=>222 | 49=>228 | 50=>229 | 57=>242 | n=>n,fun | 22=>36 | 24=>3 | 25=>98 | 3=>3 | 39=>23 | 0=>0 | 53=>74 | 55=>69 | 4=>4 | 46=>207 | 45=>206 | 50=>149 | 5=>5 | 9=>9 | 66=>231 | 70=>235 | 76=>249 | 77=>104 | n=>n,fun | n=>n⟩
theorem Tryz.laysSF0:Go.Proofs.SlLaysF0.n6 Tryz.prog Tryz.laysSF0_ren:={
 mixed:=Ek
 f6:=⟨Tryz.f95.name,Ed,Tryz.func95.trans (aG8 some Ek)⟩
 f14:=⟨Tryz.f147.name,Ed,Tryz.func147.trans (aG8 some Ek)⟩
 f15:=Tryz.func131.trans (aG8 some Ek)
 f20:=⟨Tryz.f196.name,Ed,Tryz.func196.trans (aG8 some Ek)⟩
 f21:=⟨Tryz.f197.name,Ed,Tryz.func197.trans (aG8 some Ek)⟩
 f22:=⟨Tryz.f198.name,Ed,Tryz.func198.trans (aG8 some Ek)⟩
 f23:=⟨Tryz.f199.name,Ed,Tryz.func199.trans (aG8 some Ek)⟩
 f24:=⟨Tryz.f200.name,Ed,Tryz.func200.trans (aG8 some Ek)⟩
 f25:=⟨Tryz.f201.name,Ed,Tryz.func201.trans (aG8 some Ek)⟩
 f26:=⟨Tryz.f202.name,Ed,Tryz.func202.trans (aG8 some Ek)⟩
 f27:=⟨Tryz.f203.name,Ed,Tryz.func203.trans (aG8 some Ek)⟩
 f28:=Tryz.func190.trans (aG8 some Ek)
 f29:=Tryz.func191.trans (aG8 some Ek)
 f46:=⟨Tryz.f227.name,Ed,Tryz.func227.trans (aG8 some Ek)⟩
 f47:=Tryz.func221.trans (aG8 some Ek)
 f48:=Tryz.func222.trans (aG8 some Ek)
 f49:=⟨Tryz.f228.name,Ed,Tryz.func228.trans (aG8 some Ek)⟩
 f50:=⟨Tryz.f229.name,Ed,Tryz.func229.trans (aG8 some Ek)⟩
 f57:=⟨Tryz.f242.name,Ed,Tryz.func242.trans (aG8 some Ek)⟩
 t0:=aE6
 a0:=Tryz.isAgg0
 z0:=Tryz.sizeOf0
 v0:=aF4
 t3:=aE8
 a3:=aD9
 z3:=aE3
 v3:=aF5
 t4:=aF1
 a4:=aE0
 z4:=aE5
 v4:=aF7
 t5:=aF2
 a5:=Tryz.isAgg5
 z5:=Tryz.sizeOf5
 v5:=Tryz.zeroValue5
 t9:=aF3
 a9:=Tryz.isAgg9
 z9:=Tryz.sizeOf9
 v9:=Tryz.zeroValue9
 t22:=aF0
 a22:=Tryz.isAgg36
 z22:=aE4
 v22:=aF6
 t25:=Tryz.underlying98
 a25:=Tryz.isAgg98
 z25:=Tryz.sizeOf98
 v25:=Tryz.zeroValue98
 t39:=Tryz.underlying23
 a39:=Tryz.isAgg23
 z39:=Tryz.sizeOf23
 v39:=Tryz.zeroValue23
 t45:=Tryz.underlying206
 a45:=Tryz.isAgg206
 z45:=Tryz.sizeOf206
 v45:=Tryz.zeroValue206
 t46:=Tryz.underlying207
 a46:=Tryz.isAgg207
 z46:=Tryz.sizeOf207
 v46:=Tryz.zeroValue207
 t50:=Tryz.underlying149
 a50:=Tryz.isAgg149
 z50:=Tryz.sizeOf149
 v50:=Tryz.zeroValue149
 t53:=Tryz.underlying74
 a53:=Tryz.isAgg74
 z53:=Tryz.sizeOf74
 v53:=Tryz.zeroValue74
 t55:=Tryz.underlying69
 a55:=Tryz.isAgg69
 z55:=Tryz.sizeOf69
 v55:=Tryz.zeroValue69
 t66:=Tryz.underlying231
 a66:=Tryz.isAgg231
 z66:=Tryz.sizeOf231
 v66:=Tryz.zeroValue231
 t70:=Tryz.underlying235
 a70:=Tryz.isAgg235
 z70:=Tryz.sizeOf235
 v70:=Tryz.zeroValue235
 t76:=Tryz.underlying249
 a76:=Tryz.isAgg249
 z76:=Tryz.sizeOf249
 v76:=Tryz.zeroValue249
 t77:=Tryz.underlying104
 a77:=Tryz.isAgg104
 z77:=Tryz.sizeOf104
 v77:=Tryz.zeroValue104}
end
def seqLt(f g:Nat→Int):Prop:=∃d,(∀e,e<d→f e=g e)∧f d<g d
theorem seqLt.irrefl {f:Nat→Int}:¬seqLt f f:=fun⟨d,_,h⟩=>E
theorem seqLt.trans {f g h:Nat→Int}(a:seqLt f g)(b:seqLt g h):seqLt f h:=by
 obtain⟨d,h1,h2⟩:=a;obtain⟨e,h3,h4⟩:=b;rcases aB1 d e with hc | hc | hc
 ·exact⟨d,fun x hx=>(h1 x hx).trans (h3 x E),by have :=h3 d hc;omega⟩
 ·subst hc;exact⟨d,fun x hx=>(h1 x hx).trans (h3 x hx),E⟩
 ·exact⟨e,fun x hx=>(h1 x E).trans (h3 x hx),by have :=h1 e hc;omega⟩
theorem seqLt.asymm {f g:Nat→Int}(a:seqLt f g):¬seqLt g f:=fun b=>seqLt.irrefl (a.trans b)
theorem fW{f g:Nat→Int}:seqLt f g↔f 0<g 0∨(f 0=g 0∧seqLt (fun d=>f (d+1)) (fun d=>g (d+1))):=by
 constructor
 ·rintro⟨d,h1,h2⟩;cases d with
  | zero=>exact Ei h2
  | succ d=>exact Ej ⟨h1 0 E,d,fun e he=>h1 (e+1) E,h2⟩
 ·rintro(h | ⟨h,d,h1,h2⟩)
  ·exact⟨0,fun e he=>E,h⟩
  ·refine⟨d+1,fun e he=>?_,h2⟩;cases e with
   | zero=>exact h
   | succ e=>exact h1 e E
theorem iD{l:List Int}{a b:Nat}:sufLt l a b↔seqLt (fun d=>sy l (a+d)) (fun d=>sy l (b+d)):=by
 constructor
 ·rintro⟨w,d,_,he,hl⟩;exact⟨d,he,hl⟩
 ·rintro⟨d,he,hl⟩;exact⟨d+1,d,E,he,hl⟩
section
variable {α:Type}
theorem iR{l:List α}{k:Nat}{x:α}(h:k≤l.length):(inL l k x).length=l.length+1:=by simp[inL];omega
theorem bL{l:List α}{k:Nat}(h:k<l.length):(aB l k).length+1=l.length:=by simp[aB];omega
theorem gJ{l:List α}{k:Nat}{x:α}(hk:k≤l.length)(j:Nat):(inL l k x)[j]? =if j<k then l[j]? else if j=k then some x else l[j-1]? :=by
 unfold inL;rw[aq8];have hl:(l.take k).length=k:=by simp;omega
 rw[hl];by_cases h:j<k
 ·rw[aH9 h,aH9 h,ar9,aH9 h]
 ·rw[aH8 h,aH8 h];by_cases e:j=k
  ·subst e;simp
  ·rw[aH8 e,show j-k=(j-k-1)+1 by omega,ar1,ar2];congr 1;omega
theorem cQ(l:List α){k:Nat}(hk:k<l.length)(j:Nat):(aB l k)[j]? =if j<k then l[j]? else l[j+1]? :=by
 unfold aB;rw[aq8];have hl:(l.take k).length=k:=by simp;omega
 rw[hl];by_cases h:j<k
 ·rw[aH9 h,aH9 h,ar9,aH9 h]
 ·rw[aH8 h,aH8 h,ar2];congr 1;omega
theorem Kk(l:List α){k:Nat}{x:α}(h:l[k]? =some x):inL (aB l k) k x=l:=by
 have hk:=(ar5.1 h).1;apply aq3;intro j;have hl:=bL hk;rw[gJ E];by_cases h1:j<k
 ·rw[aH9 h1,cQ l hk,aH9 h1]
 ·rw[aH8 h1];by_cases h2:j=k
  ·subst h2;rw[aH9 rfl,h]
  ·rw[aH8 h2,cQ l hk,aH8 E];congr 1;omega
theorem eS(l:List α)(k:Nat)(x:α):(inL l k x).Perm (x::l):=by
 unfold inL;refine List.perm_middle.trans ?_;rw[az0]
theorem eF(l:List α)(i:Nat):(aB l i).Sublist l:=by
 unfold aB;rw[←List.eraseIdx_eq_take_drop_succ];exact List.eraseIdx_sublist _ _
theorem pR{β:Type}(f:α→β)(l:List α)(k:Nat)(x:α):(inL l k x).map f=inL (l.map f) k (f x):=by simp[inL,av6,at9]
theorem qU{β:Type}(f:α→β)(l:List α)(k:Nat):(aB l k).map f=aB (l.map f) k:=by simp[aB,av6,at9]
theorem dJ{l:List α}{k:Nat}{x:α}(h:l[k]? =some x):l.Perm (x::aB l k):=by
 have :=eS (aB l k) k x;rwa[Kk l h]at this
theorem vT{R:α→α→Prop}{l:List α}{k:Nat}{x:α}(h:l.Pairwise R)(h1:∀i (hi:i<l.length),i<k→R l[i] x)(h2:∀i (hi:i<l.length),k≤i→R x l[i]):(inL l k x).Pairwise R:=by
 unfold inL;rw[List.pairwise_append];refine⟨h.sublist (az4 _ _),ay1.2 ⟨fun y hy=>?_,h.sublist (List.drop_sublist _ _)⟩,fun y hy z hz=>?_⟩
 ·obtain⟨i,hi,rfl⟩:=as4 hy;rw[as8]at hi;rw[as1];exact h2 (k+i) E E
 ·obtain⟨i,hi,rfl⟩:=as4 hy;rw[at5]at hi;rw[as5];rcases av9.1 hz with rfl | hz
  ·exact h1 i E E
  ·obtain⟨j,hj,rfl⟩:=as4 hz;rw[as8]at hj;rw[as1];exact ay2.1 h i (k+j) E E E
theorem iZ{D:α→Bool}:∀{Ee:List α},Ee.Pairwise (fun p q=>D q=true→D p=true)→∀r (hr:r<Ee.length),(D Ee[r]=true↔r<Ee.countP D)
 | [],_,r,hr=>absurd hr Es
 | x::Ee,h,r,hr=>by
  obtain⟨h1,h2⟩:=ay1.1 h;rw[ap4];by_cases hx:D x=true
  ·rw[aH9 hx];cases r with
   | zero=>simp[hx]
   | succ r=>
    have :=iZ h2 r (by simpa using hr);simp only[List.getElem_cons_succ];rw[this];omega
  ·have hz:Ee.countP D=0:=ap5.2 (fun y hy hd=>hx (h1 y hy hd));rw[aH8 hx,hz];constructor
   ·intro hd;exfalso;cases r with
    | zero=>exact hx hd
    | succ r=>
     simp only[List.getElem_cons_succ]at hd;exact hx (h1 _ (as3 _) hd)
   ·intro hd;omega
end
def bH(row gone:Nat):Nat:=if gone<row then row-1 else row
def inR(row came:Nat):Nat:=if came≤row then row+1 else row
theorem Xp{α:Type}{l:List α}{a t n:Nat}{y x:α}(hn:l[n]? =some y)(ha:a<l.length)(hne:n≠a)(ht:t<l.length):(inL (aB l a) t x)[inR (bH n a) t]? =some y:=by
 have hl:=bL ha;rw[gJ E];unfold inR bH;have key:∀m,m=(if a<n then n-1 else n)→(aB l a)[m]? =some y:=by
  intro m hm;rw[cQ l ha,←hn];by_cases h:a<n
  ·rw[aH9 h]at hm;rw[aH8 E];congr 1;omega
  ·rw[aH8 h]at hm;rw[aH9 E];congr 1
 generalize hm:(if a<n then n-1 else n)=m;have hk:=key m hm.symm;by_cases h:t≤m
 ·rw[aH9 h,aH8 E,aH8 E];rw[←hk];congr 1
 ·rw[aH8 h,aH9 E];exact hk
theorem pV{α:Type}{l:List α}{a n:Nat}{y:α}(hn:l[n]? =some y)(ha:a<l.length)(hne:n≠a):(aB l a)[bH n a]? =some y:=by
 rw[cQ l ha];unfold bH;rw[←hn];by_cases h:a<n
 ·rw[aH9 h,aH8 E];congr 1;omega
 ·rw[aH8 h,aH9 E]
theorem in_get{α:Type}{l:List α}{t n:Nat}{y x:α}(hn:l[n]? =some y)(ht:t≤l.length):(inL l t x)[inR n t]? =some y:=by
 rw[gJ ht];unfold inR;rw[←hn];by_cases h:t≤n
 ·rw[aH9 h,aH8 E,aH8 E];congr 1
 ·rw[aH8 h,aH9 E]
theorem Cy{α:Type}{l:List α}{t:Nat}{x:α}(ht:t≤l.length):(inL l t x)[t]? =some x:=by
 rw[gJ ht,aH8 E,aH9 rfl]
def pvS(m:List Int)(p:Nat):Int:=sy m ((p+m.length-1)%m.length)
theorem bN{m:List Int}{q:Nat}(h:q+1<m.length):pvS m (q+1)=sy m q:=by
 unfold pvS;rw[show q+1+m.length-1=q+m.length by omega,az8,aB3 E]
theorem dU{m:List Int}(hm:IsSyms m):pvS m 0=0:=by
 have :=hm.pos;unfold pvS;rw[aC7,aB3 E,hm.last]
def lfC(m:List Int)(A:List Nat)(c:Int):Nat:=(List.range m.length).countP (fun q=>decide (sy m q<c))+A.countP (fun p=>pvS m p==c)
theorem Aq{n:Nat}{f:Nat→Bool}:∀{A:List Nat},A.Nodup→(∀p∈A,p<n)→(List.range n).countP (fun q=>f q&&decide (q∈A))=A.countP f
 | [],_,_=>Es
 | x::A,h1,h2=>by
  obtain⟨hx,hn⟩:=ax7.1 h1;rw[gY (g:=fun q=>f q&&decide (q∈A)) (h:=fun q=>f x&&decide (q=x)),Aq hn (fun p hp=>h2 p (List.mem_cons_of_mem _ hp)),ap4]
  ·congr 1;cases hf:f x
   ·simp
   ·simp only[Bool.true_and,aI0];exact vQ (h2 x ax0)
  ·intro q _;by_cases e:q=x
   ·subst e;simp[hx]
   ·simp[e]
  ·rintro q _ ⟨h3,h4⟩;simp only[am5,aH2]at h3 h4;rw[h4.2]at h3;exact hx h3.2
theorem oQ{m:List Int}(hm:IsSyms m){A:List Nat}(hA:A.Nodup)(hlt:∀p∈A,p<m.length){c:Int}(hc:0<c):
  lfC m A c=(List.range m.length).countP fun q=>decide (sy m q<c)||(decide (sy m q=c)&&decide (q+1∈A)):=by
 have hp:=hm.pos;rw[gY (g:=fun q=>decide (sy m q<c)) (h:=fun q=>decide (sy m q=c)&&decide (q+1∈A)) (fun _ _=>rfl) (fun q _ h=>by
  simp only[am5,aH2]at h;omega)]
 unfold lfC;congr 1;rw[←Aq (f:=fun p=>pvS m p==c) hA hlt,(rB m.length).countP_eq,ap7];refine ap3 (fun q hq=>?_);have hq:=ax4.1 hq;simp only[Function.comp,am5,aG6,aH2];rcases aB0 (q+1) m.length with h | h
 ·rw[aB3 h,bN h]
 ·obtain rfl:q=m.length-1:=E;rw[show m.length-1+1=m.length by omega,Nat.mod_self,dU hm,hm.last];constructor
  ·rintro⟨h,_⟩;omega
  ·rintro⟨h,_⟩;omega
def bO(l m:List Int)(i j:Nat):Nat→Int:=fun d=>if j<i then sy l (j+d)else sy m (j+d)
structure InvI (l m:List Int) (i:Nat) (R:List Nat):Prop where
 perm:R.Perm (List.range m.length)
 ord:R.Pairwise fun p q=>seqLt (bO l m i p) (bO l m i q)∨(p=i∧q+1=i)∨(q=i∧p+1=i)
section
variable {l m:List Int}{i:Nat}{R:List Nat}
theorem InvI.len (h:InvI l m i R):R.length=m.length:=by have :=h.perm.length_eq;simpa using this
theorem InvI.nodup (h:InvI l m i R):R.Nodup:=h.perm.nodup_iff.2 ax9
theorem InvI.lt (h:InvI l m i R){p:Nat}(hp:p∈R):p<m.length:=ax4.1 (h.perm.mem_iff.1 hp)
theorem InvI.find (h:InvI l m i R){p:Nat}(hp:p<m.length):∃a:Nat,R[a]? =some p:=by
 obtain⟨a,ha,e⟩:=as4 (h.perm.mem_iff.2 (ax4.2 hp));exact⟨a,by rw[ar3 ha,e]⟩
theorem InvI.inj (h:InvI l m i R){a b p:Nat}(ha:R[a]? =some p)(hb:R[b]? =some p):a=b:=by
 obtain⟨h1,e1⟩:=ar5.1 ha;obtain⟨h2,e2⟩:=ar5.1 hb;have hnd:=ay2.1 h.nodup;rcases aB1 a b with hc | hc | hc
 ·exact absurd (e1.trans e2.symm) (hnd a b h1 h2 hc)
 ·exact hc
 ·exact absurd (e2.trans e1.symm) (hnd b a h2 h1 hc)
theorem InvI.key (h:InvI l m i R){a b p q:Nat}(ha:R[a]? =some p)(hb:R[b]? =some q)(hab:a<b)(hx:¬((p=i∧q+1=i)∨(q=i∧p+1=i))):seqLt (bO l m i p) (bO l m i q):=by
 obtain⟨h1,rfl⟩:=ar5.1 ha;obtain⟨h2,rfl⟩:=ar5.1 hb;exact(ay2.1 h.ord a b h1 h2 hab).resolve_right hx
theorem InvI.row (h:InvI l m i R){a b p q:Nat}(ha:R[a]? =some p)(hb:R[b]? =some q)(hk:seqLt (bO l m i p) (bO l m i q))(hx:¬((p=i∧q+1=i)∨(q=i∧p+1=i))):a<b:=by
 rcases aB1 a b with hc | hc | hc
 ·exact hc
 ·subst hc;rw[ha]at hb;cases hb;exact absurd hk seqLt.irrefl
 ·exact absurd (h.key hb ha hc (fun e=>hx e.symm)) hk.asymm
theorem fO(hpre:∀j,j<i→sy l j=sy m j)(j:Nat):bO l m i j 0=sy m j:=by
 unfold bO;split
 ·rename_i h;rw[aA0];exact hpre j h
 ·rfl
theorem oP{j:Nat}(hj:j+1≠i):(fun d=>bO l m i j (d+1))=bO l m i (j+1):=by
 funext d;unfold bO;by_cases h:j<i
 ·rw[aH9 h,aH9 E,show j+(d+1)=j+1+d by omega]
 ·rw[aH8 h,aH8 E,show j+(d+1)=j+1+d by omega]
theorem rY(hpre:∀j,j<i→sy l j=sy m j){p q:Nat}(hp:p+1≠i)(hq:q+1≠i):
  seqLt (bO l m i p) (bO l m i q)↔sy m p<sy m q∨(sy m p=sy m q∧seqLt (bO l m i (p+1)) (bO l m i (q+1))):=by
 rw[fW,fO hpre,fO hpre,oP hp,oP hq]
theorem oO{j:Nat}(hj:j+1≠i):bO l m (i-1) j=bO l m i j:=by
 funext d;unfold bO;by_cases h:j<i-1
 ·rw[aH9 h,aH9 E]
 ·by_cases h2:j<i
  ·omega
  ·rw[aH8 h,aH8 h2]
theorem Ep(hi:0<i):bO l m (i-1) (i-1)=fun d=>sy m (i-1+d):=by
 funext d;unfold bO;rw[aH8 E]
theorem Cp(hi:0<i):(fun d=>bO l m (i-1) (i-1) (d+1))=bO l m i i:=by
 rw[Ep hi];funext d;unfold bO;rw[aH8 E];show sy m (i-1+(d+1))=_;congr 1;omega
theorem iL(h:InvI l m i R){a p:Nat}(ha:R[a]? =some p):(List.range m.length).Perm (p::aB R a):=h.perm.symm.trans (dJ ha)
theorem cD{A:List Nat}{k p:Nat}:p∈A.take k↔∃a:Nat,a<k∧A[a]? =some p:=by
 rw[List.mem_take_iff_getElem];constructor
 ·rintro⟨a,h,e⟩;exact⟨a,E,by rw[ar3 E,e]⟩
 ·rintro⟨a,h,e⟩;obtain⟨h1,h2⟩:=ar5.1 e;exact⟨a,E,h2⟩
def dn(m:List Int)(A:List Nat)(c:Int)(q:Nat):Bool:=decide (sy m q<c)||(decide (sy m q=c)&&decide (q+1∈A))
theorem gI{A:List Nat}{c:Int}{q:Nat}:dn m A c q=true↔sy m q<c∨(sy m q=c∧q+1∈A):=by unfold dn;simp
end
section
variable {l m:List Int}{i:Nat}{R:List Nat}
theorem jI{m:List Int}(hm:IsSyms m){q:Nat}{c:Int}(hc:0<c)(h:sy m q=c):q+1<m.length:=by
 have hp:=hm.pos;rcases aB0 q m.length with h1 | h1
 ·rcases aB0 (q+1) m.length with h2 | h2
  ·exact h2
  ·obtain rfl:q=m.length-1:=E;rw[hm.last]at h;omega
 ·rw[dL h1]at h;omega
theorem InvI.down (hm:IsSyms m)(hpre:∀j,j<i→sy l j=sy m j)(h:InvI l m i R){a cur:Nat}(hi:0<i)(hcur:R[cur]? =some i)(ha:R[a]? =some (i-1)){c:Int}(hc:0<c):
  (aB R a).Pairwise fun p q=>dn m (R.take cur) c q=true→dn m (R.take cur) c p=true:=by
 have hal:=(ar5.1 ha).1;have hperm:=iL h ha;have hnd:((i-1)::aB R a).Nodup:=hperm.nodup_iff.1 ax9;have hord:=h.ord.sublist (eF R a);refine hord.imp_of_mem (fun {p q} hp hq hpq hd=>?_);have hpa:p≠i-1:=fun e=>(ax7.1 hnd).1 (e▸hp);have hqa:q≠i-1:=fun e=>(ax7.1 hnd).1 (e▸hq);have hk:seqLt (bO l m i p) (bO l m i q):=hpq.resolve_right E;rw[rY hpre E E]at hk;rw[gI]at hd⊢;rcases hk with hk | ⟨he,hk⟩
 ·left;rcases hd with hd | ⟨hd,_⟩<;>omega
 ·rcases hd with hd | ⟨hd,hmem⟩
  ·left;omega
  ·right;refine⟨E,?_⟩;rw[cD]at hmem⊢;obtain⟨b,hb,hbq⟩:=hmem;have h1:=jI hm hc hd;have h2:=jI hm hc (he.trans hd);obtain⟨x,hx⟩:=h.find h2;have hne:b≠cur:=E;have :=h.row hx hbq hk E;exact⟨x,E,hx⟩
theorem lf_out(hm:IsSyms m)(h:InvI l m i R){a cur p:Nat}(ha:R[a]? =some p){c:Int}(hc:0<c)(hno:dn m (R.take cur) c p=false):
  lfC m (R.take cur) c=(aB R a).countP (dn m (R.take cur) c):=by
 rw[oQ hm (h.nodup.sublist (az4 _ _)) (fun q hq=>h.lt (ax3 hq)) hc];show (List.range m.length).countP (dn m (R.take cur) c)=_;rw[(iL h ha).countP_eq,ap4,hno];simp
theorem InvI.step (hm:IsSyms m)(hpre:∀j,j<i→sy l j=sy m j)(h:InvI l m i R)(hi:0<i)(him:i<m.length){a cur:Nat}(hcur:R[cur]? =some i)(ha:R[a]? =some (i-1)):
  lfC m (R.take cur) (sy m (i-1))<m.length∧InvI l m (i-1) (inL (aB R a) (lfC m (R.take cur) (sy m (i-1))) (i-1)):=by
 have hc:0<sy m (i-1):=hm.rest (i-1) E;have hal:=(ar5.1 ha).1;have hcl:=(ar5.1 hcur).1;have hno:dn m (R.take cur) (sy m (i-1)) (i-1)=false:=by
  rw[←am7,gI];rintro(h1 | ⟨_,h1⟩)
  ·omega
  ·rw[cD]at h1;obtain⟨x,hx,hxi⟩:=h1;rw[show i-1+1=i by omega]at hxi;have :=h.inj hxi hcur;omega
 have ht:=lf_out (cur:=cur) hm h ha hc hno;generalize lfC m (R.take cur) (sy m (i-1))=t at *;have hol:=bL hal;have hRl:=h.len;have htl:t≤(aB R a).length:=by rw[ht];exact ap6
 have hdown:=InvI.down hm hpre h hi hcur ha hc;have hsplit:=iZ hdown;rw[←ht]at hsplit;have hperm:=iL h ha;have hnd:((i-1)::aB R a).Nodup:=hperm.nodup_iff.1 ax9;have hkn:=Cp (l:=l) (m:=m) hi;have hk0:bO l m (i-1) (i-1) 0=sy m (i-1):=by rw[Ep hi];rfl
 refine⟨E,(eS _ _ _).trans hperm.symm,vT ?_ (fun r hr hrt=>?_) (fun r hr hrt=>?_)⟩
 ·refine(h.ord.sublist (eF R a)).imp_of_mem (fun {p q} hp hq hpq=>?_);have hpa:p≠i-1:=fun e=>(ax7.1 hnd).1 (e▸hp);have hqa:q≠i-1:=fun e=>(ax7.1 hnd).1 (e▸hq);left;rw[oO E,oO E];exact hpq.resolve_right E
 ·
  have hmem:=as3 hr;generalize hp:(aB R a)[r]=p at *;have hpa:p≠i-1:=fun e=>(ax7.1 hnd).1 (e▸hmem);by_cases hx:p+1=i-1
  ·exact Ej (Ej ⟨rfl,hx⟩)
  left;have hd:=(hsplit r hr).2 hrt;rw[hp,gI]at hd;rw[fW,hkn,hk0,oO E,fO hpre,oP E];rcases hd with hd | ⟨hd,hmem2⟩
  ·exact Ei hd
  ·refine Ej ⟨hd,?_⟩;rw[cD]at hmem2;obtain⟨x,hxl,hx2⟩:=hmem2;exact h.key hx2 hcur hxl E
 ·
  have hmem:=as3 hr;generalize hp:(aB R a)[r]=p at *;have hpa:p≠i-1:=fun e=>(ax7.1 hnd).1 (e▸hmem);by_cases hx:p+1=i-1
  ·exact Ej (Ei ⟨rfl,hx⟩)
  left;have hd:¬dn m (R.take cur) (sy m (i-1)) p=true:=by
   intro hd;have :=(hsplit r hr).1 (by rw[hp];exact hd);omega
  rw[gI]at hd;rw[fW,hkn,hk0,oO E,fO hpre,oP E];rcases Int.lt_trichotomy (sy m (i-1)) (sy m p)with hlt | heq | hgt
  ·exact Ei hlt
  ·refine Ej ⟨heq,?_⟩;have h2:=jI hm hc heq.symm;obtain⟨x,hx2⟩:=h.find h2;have hge:cur≤x:=by
    rcases aB0 x cur with hq | hq
    ·exact absurd (Ej ⟨heq.symm,cD.2 ⟨x,hq,hx2⟩⟩) hd
    ·exact hq
   have hne:cur≠x:=by
    intro e;subst e;rw[hcur]at hx2;injection hx2 with hx2;omega
   exact h.key hcur hx2 E E
  ·exact absurd (Ei hgt) hd
def pL(next cur a:Nat):Nat:=(if a≤(if cur<a then next-1 else next)then (if cur<a then next-1 else next)+1 else (if cur<a then next-1 else next))
def Db(m:List Int)(R:List Nat)(cur a:Nat)(c d:Int):Nat:=if c=d then pL (lfC m (R.take a) d) cur a else lfC m (R.take a) d
theorem InvI.next (hm:IsSyms m)(hpre:∀j,j<i→sy l j=sy m j)(h:InvI l m i R)(hi:2≤i)(him:i<m.length){a cur:Nat}(hcur:R[cur]? =some i)(ha:R[a]? =some (i-1)):
  R[Db m R cur a (sy m (i-1)) (sy m (i-2))]? =some (i-2)∧(cur<a→sy m (i-1)=sy m (i-2)→0<lfC m (R.take a) (sy m (i-2))):=by
 have hc:0<sy m (i-1):=hm.rest (i-1) E;have hd:0<sy m (i-2):=hm.rest (i-2) E;have hal:=(ar5.1 ha).1;obtain⟨n,hn⟩:=h.find (p:=i-2) E;have hnl:=(ar5.1 hn).1;have hna:n≠a:=by
  intro e;subst e;rw[hn]at ha;injection ha with ha;omega
 have hperm:=iL h ha;have hnd:((i-1)::aB R a).Nodup:=hperm.nodup_iff.1 ax9;have hol:=bL hal;have hE:bH n a=(aB R a).countP (dn m (R.take a) (sy m (i-2))):=by
  have hg:=pV hn hal hna;have hgl:=(ar5.1 hg).1;have key:∀r (hr:r<(aB R a).length),(dn m (R.take a) (sy m (i-2)) (aB R a)[r]=true↔r<bH n a):=by
   intro r hr;have hmem:=as3 hr;generalize hp:(aB R a)[r]=p at *;have hpa:p≠i-1:=fun e=>(ax7.1 hnd).1 (e▸hmem);have hpr:(aB R a)[r]? =some p:=by rw[ar3 hr,hp]
   obtain⟨x,hx,hxr⟩:∃x,R[x]? =some p∧(x<n↔r<bH n a):=by
    rw[cQ R hal]at hpr;by_cases hra:r<a
    ·rw[aH9 hra]at hpr;refine⟨r,hpr,?_⟩;unfold bH;split<;>omega
    ·rw[aH8 hra]at hpr;refine⟨r+1,hpr,?_⟩;unfold bH;split<;>omega
   rw[←hxr,gI];by_cases e2:p=i-2
   ·subst e2;have :=h.inj hx hn;constructor
    ·rintro(h1 | ⟨_,h1⟩)
     ·omega
     ·rw[cD]at h1;obtain⟨y,hy,hya⟩:=h1;rw[show i-2+1=i-1 by omega]at hya;have :=h.inj hya ha;omega
    ·intro h1;omega
   ·constructor
    ·intro h1;refine h.row hx hn ?_ E;rw[rY hpre E E];rcases h1 with h1 | ⟨h1,h3⟩
     ·exact Ei h1
     ·refine Ej ⟨h1,?_⟩;rw[cD]at h3;obtain⟨y,hy,hyp⟩:=h3;rw[show i-2+1=i-1 by omega];exact h.key hyp ha hy E
    ·intro h1;have hk:=h.key hx hn h1 E;rw[rY hpre E E,show i-2+1=i-1 by omega]at hk;rcases hk with hk | ⟨he,hk⟩
     ·exact Ei hk
     ·refine Ej ⟨he,?_⟩;obtain⟨y,hy⟩:=h.find (jI hm hd he);exact cD.2 ⟨y,h.row hy ha hk E,hy⟩
  have hdn:(aB R a).Pairwise (fun p q=>dn m (R.take a) (sy m (i-2)) q=true→dn m (R.take a) (sy m (i-2)) p=true):=by
   rw[ay2];intro x y hx hy hxy hd;exact(key x hx).2 (by have :=(key y hy).1 hd;omega)
  have hsp:=iZ hdn;have h1:∀r,r<(aB R a).length→(r<bH n a↔r<(aB R a).countP (dn m (R.take a) (sy m (i-2)))):=fun r hr=>(key r hr).symm.trans (hsp r hr);have h2:(aB R a).countP (dn m (R.take a) (sy m (i-2)))≤(aB R a).length:=ap6;rcases aB1 (bH n a) ((aB R a).countP (dn m (R.take a) (sy m (i-2))))with hq | hq | hq
  ·have :=(h1 (bH n a) hgl).2 hq;omega
  ·exact hq
  ·have :=(h1 ((aB R a).countP (dn m (R.take a) (sy m (i-2)))) E).1 hq;omega
 have hL:lfC m (R.take a) (sy m (i-2))=bH n a+if dn m (R.take a) (sy m (i-2)) (i-1)=true then 1 else 0:=by
  rw[oQ hm (h.nodup.sublist (az4 _ _)) (fun q hq=>h.lt (ax3 hq)) hd];show (List.range m.length).countP (dn m (R.take a) (sy m (i-2)))=_;rw[hperm.countP_eq,ap4,hE]
 have hdi:dn m (R.take a) (sy m (i-2)) (i-1)=true↔sy m (i-1)<sy m (i-2)∨(sy m (i-1)=sy m (i-2)∧cur<a):=by
  rw[gI,cD,show i-1+1=i by omega];constructor
  ·rintro(h1 | ⟨h1,x,hx,hxi⟩)
   ·exact Ei h1
   ·exact Ej ⟨h1,by have :=h.inj hxi hcur;omega⟩
  ·rintro(h1 | ⟨h1,h2⟩)
   ·exact Ei h1
   ·exact Ej ⟨h1,cur,h2,hcur⟩
 constructor
 ·rw[←hn];congr 1;unfold Db;rw[hL];by_cases e:sy m (i-1)=sy m (i-2)
  ·rw[aH9 e];have e2:dn m (R.take a) (sy m (i-2)) (i-1)=true↔cur<a:=by
    rw[hdi];constructor
    ·rintro(h1 | ⟨_,h1⟩)
     ·omega
     ·exact h1
    ·intro h1;exact Ej ⟨e,h1⟩
   unfold pL bH;by_cases h1:cur<a
   ·rw[aH9 (e2.2 h1),aH9 h1];by_cases h3:a<n
    ·rw[aH9 h3,aH9 E];omega
    ·rw[aH8 h3,aH8 E];omega
   ·rw[aH8 (fun h2=>h1 (e2.1 h2)),aH8 h1];by_cases h3:a<n
    ·rw[aH9 h3,aH9 E];omega
    ·rw[aH8 h3,aH8 E];omega
  ·rw[aH8 e];have hk:a<n↔sy m (i-1)<sy m (i-2):=by
    constructor
    ·intro h1;have hk:=h.key ha hn h1 E;have hk2:=fW.1 hk;rw[fO hpre,fO hpre]at hk2;rcases hk2 with hk2 | ⟨hk2,_⟩
     ·exact hk2
     ·exact absurd hk2 e
    ·intro h1;refine h.row ha hn ?_ E;rw[fW,fO hpre,fO hpre];exact Ei h1
   have e2:dn m (R.take a) (sy m (i-2)) (i-1)=true↔a<n:=by
    rw[hdi,hk];constructor
    ·rintro(h1 | ⟨h1,_⟩)
     ·exact h1
     ·exact absurd h1 e
    ·exact Ei
   unfold bH;by_cases h3:a<n
   ·rw[aH9 h3,aH9 (e2.2 h3)];omega
   ·rw[aH8 h3,aH8 (fun h2=>h3 (e2.1 h2))];omega
 ·intro h1 e;rw[hL,aH9 (hdi.2 (Ej ⟨e,h1⟩))];omega
theorem Wr{A B:List Nat}(h:A.Sublist B)(c:Int):lfC m A c≤lfC m B c:=by
 unfold lfC;have :=h.countP_le (p:=fun p=>pvS m p==c);omega
theorem Er{k p:Nat}{c:Int}(hk:R[k]? =some p)(hp:pvS m p=c){k':Nat}(hlt:k<k'):lfC m (R.take k) c<lfC m (R.take k') c:=by
 have hkl:=(ar5.1 hk).1;have h1:lfC m (R.take (k+1)) c≤lfC m (R.take k') c:=Wr (List.take_sublist_take_left E) c;have h2:lfC m (R.take (k+1)) c=lfC m (R.take k) c+1:=by
  unfold lfC;rw[ay9,hk,ap2];simp[hp];omega
 omega
theorem InvI.stay (hm:IsSyms m):∀{i:Nat} {R:List Nat},(∀j,j<i→sy l j=sy m j)→InvI l m i R→0<i→i<m.length→∀{a cur:Nat},R[cur]? =some i→R[a]? =some (i-1)→lfC m (R.take cur) (sy m (i-1))=a→InvI l m 0 R
 | 0,_,_,_,hi,_,_,_,_,_,_=>absurd hi E
 | i+1,R,hpre,h,hi,him,a,cur,hcur,ha,ht=>by
  have hs:=(h.step hm hpre hi him hcur ha).2;rw[ht,Kk R ha]at hs;rw[az9]at hs ha ht;cases i with
  | zero=>exact hs
  | succ i=>
   have hn:=(h.next hm hpre E him hcur (by rw[az9];exact ha)).1;rw[show i+1+1-1=i+1 by omega,show i+1+1-2=i by omega]at hn;refine InvI.stay hm (fun j hj=>hpre j E) hs E E ha (by rw[az9];exact hn) ?_;rw[az9];unfold Db;by_cases e:sy m (i+1)=sy m i
   ·rw[aH9 e,←e];have hpc:pvS m (i+1+1)=sy m (i+1):=bN him;have hpa:pvS m (i+1)=sy m (i+1):=by rw[bN E,e]
    unfold pL;rcases aB1 cur a with hc | hc | hc
    ·have :=Er hcur hpc hc;rw[aH9 hc,aH9 E];omega
    ·subst hc;rw[hcur]at ha;injection ha with ha;omega
    ·have :=Er ha hpa hc;have h3:¬cur<a:=E;simp only[h3,aH7];rw[aH8 E]
   ·rw[aH8 e]
theorem InvI.done (h:InvI l m 0 R):IsRows m R:=by
 refine⟨h.perm,h.ord.imp (fun {p q} hpq=>?_)⟩;rcases hpq with hpq | hpq | hpq
 ·rw[iD];have e:∀p,bO l m 0 p=fun d=>sy m (p+d):=fun p=>by funext d;unfold bO;rw[aH8 E]
  rw[e,e]at hpq;exact hpq
 ·omega
 ·omega
end
theorem lK{l:List Int}{k:Nat}(h:k≤l.length)(v:Int)(j:Nat):sy (inL l k v) j=if j<k then sy l j else if j=k then v else sy l (j-1):=by
 unfold sy;rw[gJ h];by_cases h1:j<k
 ·rw[aH9 h1,aH9 h1]
 ·rw[aH8 h1,aH8 h1];by_cases h2:j=k
  ·rw[aH9 h2,aH9 h2];rfl
  ·rw[aH8 h2,aH8 h2]
theorem qA{l:List Int}{k:Nat}(h:k<l.length)(j:Nat):sy (aB l k) j=if j<k then sy l j else sy l (j+1):=by
 unfold sy;rw[cQ l h];by_cases h1:j<k
 ·rw[aH9 h1,aH9 h1]
 ·rw[aH8 h1,aH8 h1]
theorem qB{l:List Int}{k:Nat}(h:k<l.length)(v:Int)(j:Nat):sy (l.set k v) j=if j=k then v else sy l j:=by
 unfold sy;rw[ar8];by_cases h1:k=j
 ·subst h1;rw[aH9 rfl,aH9 h,aH9 rfl];rfl
 ·rw[aH8 h1,aH8 (fun e=>h1 e.symm)]
theorem aa9(t:List Int){k:Nat}(h:k≤t.length)(b:Int):aA (inL t k b)=inL (aA t) k (b+1):=by
 unfold aA inL;rw[List.map_append,List.take_append_of_le_length (by simpa using h),List.drop_append_of_le_length (by simpa using h)];simp[av6,at9]
theorem Ui(t:List Int){k:Nat}(h:k<t.length):aA (aB t k)=aB (aA t) k:=by
 unfold aA aB;rw[at6,az1 (by simp;omega),aq1 (by simp;omega)];simp[av6,at9]
theorem Uj(t:List Int){k:Nat}(h:k<t.length)(b:Int):aA (t.set k b)=(aA t).set k (b+1):=by
 unfold aA;rw[List.map_set,List.set_append_left _ _ (by simpa using h)]
def lvR(m:List Int)(R:List Nat):List Nat:=R.map fun p=>(pvS m p).toNat
theorem cB(m:List Int)(R:List Nat):(lvR m R).length=R.length:=by simp[lvR]
theorem tE{m:List Int}{R:List Nat}{k p:Nat}(h:R[k]? =some p):(lvR m R)[k]? =some (pvS m p).toNat:=by unfold lvR;rw[ar6,h];rfl
theorem Fk{m:List Int}(hm:IsSyms m)(p:Nat):0≤pvS m p:=by
 have :=hm.pos;exact hm.nn _ (aB4 _ this)
theorem Fr{m:List Int}(hm:IsSyms m)(R:List Nat)(k s:Nat):aV (lvR m R) k s=(R.take k).countP (fun p=>pvS m p==(s:Int)):=by
 unfold aV lvR;rw[←av6,List.count,ap7];refine ap3 (fun p _=>?_);have :=Fk hm p;simp only[Function.comp,aG6];omega
theorem pD(m:List Int)(s:Int):aQ m s=(List.range m.length).countP (fun q=>decide (sy m q<s)):=by
 unfold aQ;have e:=aG8 (List.countP fun x=>decide (x<s)) (jX m);rw[ap7]at e;exact e.symm
theorem Et{m:List Int}(hm:IsSyms m)(R:List Nat)(k s:Nat):aQ m (s:Int)+aV (lvR m R) k s=lfC m (R.take k) (s:Int):=by
 unfold lfC;rw[Fr hm,pD]
section
variable {l:List Int}{R:List Nat}
theorem jB(l:List Int)(i p:Nat):bO l l i p=fun d=>sy l (p+d):=by funext d;unfold bO;split<;>rfl
theorem InvI.of_rows (h:IsRows l R):InvI l l 0 R:=⟨h.1,h.2.imp (fun {p q} hpq=>Ei (by rw[jB,jB,←iD];exact hpq))⟩
theorem Gd(h:IsRows l R){a b p q:Nat}(ha:R[a]? =some p)(hb:R[b]? =some q)(hab:a<b):sufLt l p q:=by
 have :=(InvI.of_rows h).key ha hb hab E;rw[jB,jB,←iD]at this;exact this
theorem Zk(h:IsRows l R){a b p q:Nat}(ha:R[a]? =some p)(hb:R[b]? =some q)(hk:sufLt l p q):a<b:=by
 refine(InvI.of_rows h).row ha hb ?_ E;rw[jB,jB,←iD];exact hk
theorem yR(hl:IsSyms l)(h:IsRows l R)(k:Nat){s:Int}(hs:0<s):R.Pairwise fun p q=>dn l (R.take k) s q=true→dn l (R.take k) s p=true:=by
 refine h.2.imp (fun {p q} hpq hd=>?_);rw[gT]at hpq;rw[gI]at hd⊢;rcases hpq with hk | ⟨he,hk⟩
 ·left;rcases hd with hd | ⟨hd,_⟩<;>omega
 ·rcases hd with hd | ⟨hd,hmem⟩
  ·left;omega
  ·right;refine⟨E,?_⟩;rw[cD]at hmem⊢;obtain⟨b,hb,hbq⟩:=hmem;obtain⟨x,hx⟩:=(InvI.of_rows h).find (jI hl hs (he.trans hd));have :=Zk h hx hbq hk;exact⟨x,E,hx⟩
theorem Bq(h:IsRows l R){k j:Nat}(hk:R[k]? =some j){s:Int}{f:Nat→Int}(h0:f 0=s)(ht:(fun d=>f (d+1))=fun d=>sy l (j+d)){p:Nat}(hd:dn l (R.take k) s p=true):seqLt (fun d=>sy l (p+d)) f:=by
 rw[gI]at hd;rw[fW,ht,h0];rcases hd with hd | ⟨hd,hmem⟩
 ·exact Ei hd
 ·refine Ej ⟨hd,?_⟩;rw[cD]at hmem;obtain⟨x,hx,hxp⟩:=hmem;have :=Gd h hxp hk hx;rw[iD]at this;have e:(fun d=>sy l (p+(d+1)))=fun d=>sy l (p+1+d):=by funext d;congr 1;omega
  rw[e];exact this
theorem Fi(hl:IsSyms l)(h:IsRows l R){k j:Nat}(hk:R[k]? =some j){s:Int}(hs:0<s){f:Nat→Int}(h0:f 0=s)(ht:(fun d=>f (d+1))=fun d=>sy l (j+d)){p:Nat}(hd:¬dn l (R.take k) s p=true)(hne:p+1≠j):seqLt f (fun d=>sy l (p+d)):=by
 rw[gI]at hd;rw[fW,ht,h0];rcases Int.lt_trichotomy s (sy l p)with hlt | heq | hgt
 ·exact Ei hlt
 ·refine Ej ⟨heq,?_⟩;obtain⟨x,hx⟩:=(InvI.of_rows h).find (jI hl hs heq.symm);have hge:k≤x:=by
   rcases aB0 x k with hq | hq
   ·exact absurd (Ej ⟨heq.symm,cD.2 ⟨x,hq,hx⟩⟩) hd
   ·exact hq
  have hne2:k≠x:=by
   intro e;subst e;rw[hk]at hx;injection hx with hx;omega
  have :=Gd h hk hx E;rw[iD]at this;have e:(fun d=>sy l (p+(d+1)))=fun d=>sy l (p+1+d):=by funext d;congr 1;omega
  rw[e];exact this
 ·exact absurd (Ei hgt) hd
end
def upN(k p:Nat):Nat:=if p<k then p else p+1
def dpN(k p:Nat):Nat:=if p<k then p else p-1
section
variable {l:List Int}{R:List Nat}{k at_:Nat}{s:Int}
theorem Fp(n k:Nat)(hk:k≤n):(List.range (n+1)).Perm (k::(List.range n).map (upN k)):=by
 have e:(List.range (n+1))=inL ((List.range n).map (upN k)) k k:=by
  apply aq3;intro j;rw[gJ (by simpa using hk)];by_cases h:j<n+1
  ·rw[List.getElem?_range h];by_cases h1:j<k
   ·rw[aH9 h1,ar6,List.getElem?_range E];unfold upN;simp[h1]
   ·rw[aH8 h1];by_cases h2:j=k
    ·rw[aH9 h2,h2]
    ·rw[aH8 h2,ar6,List.getElem?_range E];unfold upN;simp;rw[aH8 E];omega
  ·rw[ar4 (by simp;omega),aH8 E,aH8 E,ar4 (by simp;omega)]
 rw[e];exact eS _ _ _
theorem ae2(hl:IsSyms l)(h:IsRows l R)(hk:R[k]? =some at_)(hs:0<s):
  lfC l (R.take k) s≤R.length∧InvI l (inL l at_ s) at_ (inL (R.map (upN at_)) (lfC l (R.take k) s) at_):=by
 have hal:=h.lt (ar5.1 hk).1;rw[(ar5.1 hk).2]at hal;have hlf:lfC l (R.take k) s=R.countP (dn l (R.take k) s):=by
  rw[oQ hl (h.nodup.sublist (az4 _ _)) (fun q hq=>ax4.1 (h.1.mem_iff.1 (ax3 hq))) hs];exact(h.1.countP_eq _).symm
 have hsp:=iZ (yR hl h k hs);rw[←hlf]at hsp;have hle:lfC l (R.take k) s≤R.length:=by rw[hlf];exact ap6
 generalize lfC l (R.take k) s=t at *;have hml:(inL l at_ s).length=l.length+1:=iR E;have hkey:∀p,bO l (inL l at_ s) at_ (upN at_ p)=fun d=>sy l (p+d):=by
  intro p;funext d;unfold bO upN;by_cases hp:p<at_
  ·rw[aH9 hp,aH9 hp]
  ·rw[aH8 hp,aH8 E,lK E,aH8 E,aH8 E];congr 1;omega
 have hf0:bO l (inL l at_ s) at_ at_ 0=s:=by
  unfold bO;rw[aH8 E,lK E,aH8 E,aH9 E]
 have hft:(fun d=>bO l (inL l at_ s) at_ at_ (d+1))=fun d=>sy l (at_+d):=by
  funext d;unfold bO;rw[aH8 E,lK E,aH8 E,aH8 E];congr 1
 refine⟨hle,⟨?_,vT ?_ (fun r hr hrt=>?_) (fun r hr hrt=>?_)⟩⟩
 ·rw[hml];refine(eS _ _ _).trans (List.Perm.trans ?_ (Fp l.length at_ E).symm);exact(h.1.map _).cons _
 ·rw[List.pairwise_map];refine h.2.imp (fun {p q} hpq=>Ei ?_);rw[hkey,hkey,←iD];exact hpq
 ·left;rw[at1]at hr;rw[as2,hkey];exact Bq h hk hf0 hft ((hsp r hr).2 hrt)
 ·rw[at1]at hr;rw[as2,hkey];by_cases hne:R[r]+1=at_
  ·right;left;refine⟨rfl,?_⟩;unfold upN;rw[aH9 E];exact hne
  ·left;exact Fi hl h hk hs hf0 hft (fun hd=>by have :=(hsp r hr).1 hd;omega) hne
theorem ins_lv(hl:IsSyms l)(h:IsRows l R)(hk:R[k]? =some at_)(hs:0<s)(hm:IsSyms (inL l at_ s))(row:Nat):
  lvR (inL l at_ s) (inL (R.map (upN at_)) row at_)=inL (inL (aB (lvR l R) k) k s.toNat) row (pvS l at_).toNat:=by
 have hkl:=(ar5.1 hk).1;have hal:=h.lt hkl;rw[(ar5.1 hk).2]at hal;have hml:(inL l at_ s).length=l.length+1:=iR E;have hpv:pvS (inL l at_ s) at_=pvS l at_:=by
  rcases aA2 at_ with rfl | h0
  ·rw[dU hl,dU hm]
  ·obtain⟨q,rfl⟩:∃q,at_=q+1:=⟨at_-1,E⟩;rw[bN hal,bN E,lK E,aH9 E]
 unfold lvR;rw[pR,hpv];congr 1;rw[av0];apply aq3;intro j;have hol:(aB (R.map fun p=>(pvS l p).toNat) k).length+1=R.length:=by have :=bL (l:=R.map fun p=>(pvS l p).toNat) (k:=k) (by simpa using hkl);simpa using this
 rw[gJ E,ar6];have hother:∀p,p≠at_→p<l.length→pvS (inL l at_ s) (upN at_ p)=pvS l p:=by
  intro p hp hpl;unfold upN;rcases aA2 p with rfl | h0
  ·rw[aH9 E,dU hl,dU hm]
  ·obtain⟨q,rfl⟩:∃q,p=q+1:=⟨p-1,E⟩;by_cases hc:q+1<at_
   ·rw[aH9 hc,bN hpl,bN E,lK E,aH9 E]
   ·rw[aH8 hc,bN hpl,bN E,lK E,aH8 E,aH8 E];rfl
 have hself:pvS (inL l at_ s) (upN at_ at_)=s:=by
  unfold upN;rw[aH8 E,bN E,lK E,aH8 E,aH9 rfl]
 by_cases h2:j=k
 ·subst h2;rw[aH8 E,aH9 rfl,hk];simp[hself]
 ·have hget:(if j<k then (aB (R.map fun p=>(pvS l p).toNat) k)[j]? else if j=k then some s.toNat else (aB (R.map fun p=>(pvS l p).toNat) k)[j-1]?)=(R[j]?).map fun p=>(pvS l p).toNat:=by
   rw[aH8 h2];by_cases h1:j<k
   ·rw[if_pos h1,cQ _ (by simpa using hkl),if_pos h1,List.getElem?_map]
   ·rw[if_neg h1,cQ _ (by simpa using hkl),if_neg E,show j-1+1=j by omega,List.getElem?_map]
  rw[hget];rcases hj:R[j]? with _ | p
  ·rfl
  ·have hp:p≠at_:=fun e=>h2 ((InvI.of_rows h).inj (e▸hj) hk);have hpl:=(InvI.of_rows h).lt (ax2 hj);simp[hother p hp hpl]
end
section
variable {α:Type}
theorem pH(L:List α){b:Nat}(h:b<L.length)(x:α):inL (aB L b) b x=L.set b x:=by
 apply aq3;intro j;have hl:=bL h;rw[gJ E,ar8];by_cases h1:j<b
 ·rw[aH9 h1,cQ L h,aH9 h1,aH8 E]
 ·rw[aH8 h1];by_cases h2:j=b
  ·rw[aH9 h2,aH9 h2.symm,aH9 h]
  ·rw[aH8 h2,aH8 (fun e=>h2 e.symm),cQ L h,aH8 E];congr 1;omega
theorem Hj(L:List α){k b:Nat}(h:k<b)(hk:k<L.length):(aB L k).take (b-1)=aB (L.take b) k:=by
 unfold aB;rw[List.take_append,az5,az5,at5,aB2 (show k≤L.length by omega),Nat.min_eq_right (show k≤b-1 by omega),aB2 (show k≤b by omega),List.drop_take];congr 2;omega
theorem Hk(L:List α){k b:Nat}(h:b≤k):(aB L k).take b=L.take b:=by
 unfold aB;by_cases h1:k≤L.length
 ·rw[az1 (by simp;omega),az5,aB2 h]
 ·rw[az3 (show L.length≤k by omega),List.drop_of_length_le E,ao8]
theorem yB(f:α→Bool){L:List α}{k b:Nat}{x:α}(hk:L[k]? =some x)(hne:k≠b):(L.take b).countP f=((aB L k).take (bH b k)).countP f+if k<b∧f x=true then 1 else 0:=by
 unfold bH;by_cases h:k<b
 ·rw[aH9 h,Hj L h (ar5.1 hk).1];have h2:(L.take b)[k]? =some x:=by rw[ar9,aH9 h,hk]
  rw[(dJ h2).countP_eq,ap4];congr 1;by_cases hf:f x=true
  ·rw[aH9 hf,aH9 ⟨h,hf⟩]
  ·rw[aH8 hf,aH8 (fun e=>hf e.2)]
 ·rw[aH8 h,Hk L E,aH8 (fun e=>h e.1),aA0]
end
section
variable {l:List Int}{R:List Nat}{k bh at_:Nat}{s:Int}
theorem dp_up(k p:Nat):dpN k (upN k p)=p:=by
 unfold dpN upN;by_cases h:p<k
 ·rw[aH9 h,aH9 h]
 ·rw[aH8 h,aH8 E];omega
theorem ad5(hl:IsSyms l)(h:IsRows l R)(hk:R[k]? =some at_)(hat:at_+1<l.length):InvI l (aB l at_) at_ ((aB R k).map (dpN at_)):=by
 have hkl:=(ar5.1 hk).1;have hml:=bL (l:=l) (k:=at_) E;have hp1:(at_::aB R k).Perm (at_::(List.range (l.length-1)).map (upN at_)):=(dJ hk).symm.trans (h.1.trans (by
  have :=Fp (l.length-1) at_ E
  rwa[show l.length-1+1=l.length by omega]at this))
 have hp2:=(List.perm_cons _).1 hp1;have hnd:(at_::aB R k).Nodup:=(dJ hk).nodup_iff.1 h.nodup;have hkey:∀p,p≠at_→bO l (aB l at_) at_ (dpN at_ p)=fun d=>sy l (p+d):=by
  intro p hp;funext d;unfold bO dpN;by_cases hc:p<at_
  ·rw[aH9 hc,aH9 hc]
  ·rw[aH8 hc,aH8 E,qA E,aH8 E];congr 1;omega
 refine⟨?_,?_⟩
 ·have :=hp2.map (dpN at_);rw[av0]at this;have e:(dpN at_∘upN at_)=id:=by funext p;exact dp_up at_ p
  rw[e,List.map_id]at this;rwa[show (aB l at_).length=l.length-1 by omega]
 ·rw[List.pairwise_map];refine(h.2.sublist (eF R k)).imp_of_mem (fun {p q} hp hq hpq=>Ei ?_);have hpa:p≠at_:=fun e=>(ax7.1 hnd).1 (e▸hp);have hqa:q≠at_:=fun e=>(ax7.1 hnd).1 (e▸hq);rw[hkey p hpa,hkey q hqa,←iD];exact hpq
theorem ag0{R:List Nat}(hnd:R.Nodup)(hk:R[k]? =some at_){j p:Nat}(hj:(aB R k)[j]? =some p):∃y,R[y]? =some p∧y≠k∧y=if j<k then j else j+1:=by
 have hkl:=(ar5.1 hk).1;rw[cQ R hkl]at hj;by_cases h:j<k
 ·rw[aH9 h]at hj;exact⟨j,hj,E,by rw[aH9 h]⟩
 ·rw[aH8 h]at hj;exact⟨j+1,hj,E,by rw[aH8 h]⟩
theorem del_lv(hl:IsSyms l)(h:IsRows l R)(hk:R[k]? =some at_)(hb:R[bh]? =some (at_+1))(hm:IsSyms (aB l at_))(hat:at_+1<l.length):
  lvR (aB l at_) ((aB R k).map (dpN at_))=aB ((lvR l R).set bh (pvS l at_).toNat) k:=by
 have hkl:=(ar5.1 hk).1;have hbl:=(ar5.1 hb).1;have hml:=bL (l:=l) (k:=at_) E;have hpv:pvS (aB l at_) at_=pvS l at_:=by
  rcases aA2 at_ with rfl | h0
  ·rw[dU hl,dU hm]
  ·obtain⟨q,rfl⟩:∃q,at_=q+1:=⟨at_-1,E⟩;rw[bN E,bN E,qA E,aH9 E]
 have hother:∀p,p≠at_→p≠at_+1→p<l.length→pvS (aB l at_) (dpN at_ p)=pvS l p:=by
  intro p hp hp2 hpl;unfold dpN;rcases aA2 p with rfl | h0
  ·rw[aH9 E,dU hl,dU hm]
  ·obtain⟨q,rfl⟩:∃q,p=q+1:=⟨p-1,E⟩;by_cases hc:q+1<at_
   ·rw[aH9 hc,bN hpl,bN E,qA E,aH9 E]
   ·obtain⟨x,rfl⟩:∃x,q=x+1:=⟨q-1,E⟩;rw[aH8 hc,bN hpl,show x+1+1-1=x+1 by omega,bN E,qA E,aH8 E]
 apply aq3;intro j;have hsl:((lvR l R).set bh (pvS l at_).toNat).length=R.length:=by rw[at4,cB]
 rw[cQ _ E,ar8,ar8,cB,aH9 hbl];have hL:(lvR (aB l at_) ((aB R k).map (dpN at_)))[j]? =((aB R k)[j]?).map fun p=>(pvS (aB l at_) (dpN at_ p)).toNat:=by
  unfold lvR;rw[av0,ar6];rfl
 rw[hL];rcases hj:(aB R k)[j]? with _ | p
 ·have hlen:=bL hkl;have :R.length≤j+1:=by have :=List.getElem?_eq_none_iff.1 hj;omega
  have e:(lvR l R)[j+1]? =none:=ar4 (by rw[cB];exact this);rw[aH8 E,aH8 E,e];rfl
 ·obtain⟨y,hy,hyk,hyj⟩:=ag0 h.nodup hk hj;have hpa:p≠at_:=fun e=>hyk ((InvI.of_rows h).inj (e▸hy) hk);have hpl:=(InvI.of_rows h).lt (ax2 hy);have hv:(some p).map (fun p=>(pvS (aB l at_) (dpN at_ p)).toNat)=if bh=y then some (pvS l at_).toNat else (lvR l R)[y]? :=by
   by_cases e:bh=y
   ·subst e;rw[hb]at hy;cases hy;rw[aH9 rfl,aD3];unfold dpN;rw[aH8 E,az9,hpv]
   ·have hp2:p≠at_+1:=fun e2=>e ((InvI.of_rows h).inj hb (e2▸hy));rw[aH8 e,tE hy,aD3,hother p hpa hp2 hpl]
  rw[hv];by_cases hc:j<k
  ·rw[aH9 hc]at hyj;rw[aH9 hc,hyj]
  ·rw[aH8 hc]at hyj;rw[aH8 hc,hyj]
theorem set_lf(hl:IsSyms l)(h:IsRows l R)(hk:R[k]? =some at_)(hb:R[bh]? =some (at_+1))(hat:at_+1<l.length)(hs:0<s)(hne:sy l at_≠s):
  aQ (aB l at_) s+((aB R k).take (bH bh k)).countP (fun p=>pvS l p==s)+(if k<bh∧(pvS l at_==s)=true then 1 else 0)=(aB R k).countP (dn l (R.take bh) s):=by
 have hkb:k≠bh:=by
  intro e;subst e;rw[hk]at hb;injection hb with hb;omega
 have h1:=oQ hl (A:=R.take bh) (h.nodup.sublist (az4 _ _)) (fun q hq=>ax4.1 (h.1.mem_iff.1 (ax3 hq))) hs;have h2:(List.range l.length).countP (dn l (R.take bh) s)=(aB R k).countP (dn l (R.take bh) s)+if dn l (R.take bh) s at_=true then 1 else 0:=by
  rw[(h.1.symm.trans (dJ hk)).countP_eq,ap4]
 have h3:dn l (R.take bh) s at_=true↔sy l at_<s:=by
  rw[gI];constructor
  ·rintro(h | ⟨h,_⟩)
   ·exact h
   ·exact absurd h hne
  ·exact Ei
 have h4:aQ l s=aQ (aB l at_) s+if sy l at_<s then 1 else 0:=by
  unfold aQ;have e:l[at_]? =some (sy l at_):=by rw[jY E];exact ar3 _
  rw[(dJ e).countP_eq,ap4];simp
 have h5:=yB (fun p=>pvS l p==s) hk hkb;have h6:lfC l (R.take bh) s=aQ l s+(R.take bh).countP (fun p=>pvS l p==s):=by unfold lfC;rw[pD]
 have h7:lfC l (R.take bh) s=(aB R k).countP (dn l (R.take bh) s)+if dn l (R.take bh) s at_=true then 1 else 0:=h1.trans h2
 rw[h6,h4,h5]at h7;by_cases hc:sy l at_<s
 ·rw[aH9 hc,aH9 (h3.2 hc)]at h7;omega
 ·rw[aH8 hc,aH8 (fun e=>hc (h3.1 e))]at h7;omega
theorem ai9(hl:IsSyms l)(h:IsRows l R)(hk:R[k]? =some at_)(hb:R[bh]? =some (at_+1))(hat:at_+1<l.length)(hs:0<s)(hne:sy l at_≠s){row:Nat}
  (hrow:(pvS l at_≠s∧row=aQ (aB l at_) s+((aB R k).take (bH bh k)).countP (fun p=>pvS l p==s))∨(pvS l at_=s∧∃ah,R[ah]? =some (at_-1)∧0<at_∧row=inR (aQ (aB l at_) s+((aB R k).take (bH bh k)).countP (fun p=>pvS l p==s)) (bH ah k))):
  row<R.length∧InvI l (l.set at_ s) at_ (inL (aB R k) row at_):=by
 have hkl:=(ar5.1 hk).1;have hol:=bL hkl;have hlf:=set_lf hl h hk hb hat hs hne;have hml:(l.set at_ s).length=l.length:=at4;have hnd:(at_::aB R k).Nodup:=(dJ hk).nodup_iff.1 h.nodup;have hkey:∀p,p≠at_→bO l (l.set at_ s) at_ p=fun d=>sy l (p+d):=by
  intro p hp;funext d;unfold bO;by_cases hc:p<at_
  ·rw[aH9 hc]
  ·rw[aH8 hc,qB E,aH8 E]
 have hf0:bO l (l.set at_ s) at_ at_ 0=s:=by
  unfold bO;rw[aH8 E,qB E,aH9 E]
 have hft:(fun d=>bO l (l.set at_ s) at_ at_ (d+1))=fun d=>sy l (at_+1+d):=by
  funext d;unfold bO;rw[aH8 E,qB E,aH8 E];congr 1;omega
 have hperm:∀row,(inL (aB R k) row at_).Perm (List.range (l.set at_ s).length):=fun row=>by
  rw[hml];exact(eS _ _ _).trans ((dJ hk).symm.trans h.1)
 have hpw:(aB R k).Pairwise fun p q=>seqLt (bO l (l.set at_ s) at_ p) (bO l (l.set at_ s) at_ q)∨(p=at_∧q+1=at_)∨(q=at_∧p+1=at_):=by
  refine(h.2.sublist (eF R k)).imp_of_mem (fun {p q} hp hq hpq=>Ei ?_);have hpa:p≠at_:=fun e=>(ax7.1 hnd).1 (e▸hp);have hqa:q≠at_:=fun e=>(ax7.1 hnd).1 (e▸hq);rw[hkey p hpa,hkey q hqa,←iD];exact hpq
 have hdn:=yR hl h bh hs;have fin:row<R.length→(∀r (hr:r<(aB R k).length),(aB R k)[r]+1≠at_→(r<row↔dn l (R.take bh) s (aB R k)[r]=true))→InvI l (l.set at_ s) at_ (inL (aB R k) row at_):=by
  intro hrl hside;refine⟨hperm row,vT hpw (fun r hr hrt=>?_) (fun r hr hrt=>?_)⟩
  ·have hmem:=as3 hr;have hs2:=hside r hr;generalize (aB R k)[r]=p at *;have hpa:p≠at_:=fun e=>(ax7.1 hnd).1 (e▸hmem);by_cases hx:p+1=at_
   ·exact Ej (Ej ⟨rfl,hx⟩)
   left;rw[hkey p hpa];exact Bq h hb hf0 hft ((hs2 hx).1 hrt)
  ·have hmem:=as3 hr;have hs2:=hside r hr;generalize (aB R k)[r]=p at *;have hpa:p≠at_:=fun e=>(ax7.1 hnd).1 (e▸hmem);by_cases hx:p+1=at_
   ·exact Ej (Ei ⟨rfl,hx⟩)
   left;rw[hkey p hpa];exact Fi hl h hb hs hf0 hft (fun hd=>by have :=(hs2 hx).2 hd;omega) E
 rcases hrow with ⟨hold,hrow⟩ | ⟨hold,ah,hah,h0,hrow⟩
 ·have hno:¬(k<bh∧(pvS l at_==s)=true):=fun e=>hold (by simpa using e.2);rw[aH8 hno,aA0,←hrow]at hlf;have hsp:=iZ (hdn.sublist (eF R k));rw[←hlf]at hsp;have hle:row≤(aB R k).length:=by rw[hlf];exact ap6
  have hrl:row<R.length:=E;exact⟨hrl,fin hrl (fun r hr _=>(hsp r hr).symm)⟩
 ·generalize hLF:aQ (aB l at_) s+((aB R k).take (bH bh k)).countP (fun p=>pvS l p==s)=LF at *;have hka:ah≠k:=by
   intro e;subst e;rw[hk]at hah;injection hah with hah;omega
  have hao:=pV hah hkl hka;have hal:=(ar5.1 hao).1;generalize ha:bH ah k=a at *;have hsym:sy l (at_-1)=s:=by
   obtain⟨q,rfl⟩:∃q,at_=q+1:=⟨at_-1,E⟩;rw[bN E]at hold;exact hold
  have hd1:dn l (R.take bh) s (at_-1)=true↔k<bh:=by
   rw[gI,cD,show at_-1+1=at_ by omega];constructor
   ·rintro(h1 | ⟨_,x,hx,hxa⟩)
    ·omega
    ·have :=(InvI.of_rows h).inj hxa hk;omega
   ·intro h1;exact Ej ⟨hsym,k,h1,hk⟩
  have hcount:(aB R k).countP (dn l (R.take bh) s)=(aB (aB R k) a).countP (dn l (R.take bh) s)+if k<bh then 1 else 0:=by
   rw[(dJ hao).countP_eq,ap4];congr 1;by_cases hc:k<bh
   ·rw[aH9 hc,aH9 (hd1.2 hc)]
   ·rw[aH8 hc,aH8 (fun e=>hc (hd1.1 e))]
  have hLF2:LF=(aB (aB R k) a).countP (dn l (R.take bh) s):=by
   have hb2:(pvS l at_==s)=true:=by simpa using hold
   by_cases hc:k<bh
   ·rw[aH9 hc]at hcount;rw[aH9 ⟨hc,hb2⟩]at hlf;omega
   ·rw[aH8 hc]at hcount;rw[aH8 (fun e=>hc e.1)]at hlf;omega
  have hol2:=bL hal;have hsp:=iZ (hdn.sublist ((eF _ a).trans (eF R k)));rw[←hLF2]at hsp;have hle:LF≤(aB (aB R k) a).length:=by rw[hLF2];exact ap6
  have hrl:row<R.length:=by rw[hrow];unfold inR;split<;>omega
  refine⟨hrl,fin hrl (fun r hr hx=>?_)⟩;have hra:r≠a:=by
   intro e;subst e;rw[ar3 hr]at hao;injection hao with hao
   omega
  have hg:=pV (ar3 hr) hal hra;obtain⟨hr2,hg2⟩:=ar5.1 hg;have :=hsp _ hr2;rw[hg2]at this;rw[this,hrow];unfold inR bH;by_cases h1:a≤LF
  ·rw[aH9 h1];by_cases h2:a<r
   ·rw[aH9 h2];omega
   ·rw[aH8 h2];omega
  ·rw[aH8 h1];by_cases h2:a<r
   ·rw[aH9 h2];omega
   ·rw[aH8 h2]
theorem set_lv(hl:IsSyms l)(h:IsRows l R)(hk:R[k]? =some at_)(hb:R[bh]? =some (at_+1))(hm:IsSyms (l.set at_ s))(hat:at_+1<l.length)(row:Nat):
  lvR (l.set at_ s) (inL (aB R k) row at_)=inL (aB ((lvR l R).set bh s.toNat) k) row (pvS l at_).toNat:=by
 have hkl:=(ar5.1 hk).1;have hbl:=(ar5.1 hb).1;have hml:(l.set at_ s).length=l.length:=at4;have hpv:∀p,p≠at_+1→p<l.length→pvS (l.set at_ s) p=pvS l p:=by
  intro p hp hpl;rcases aA2 p with rfl | h0
  ·rw[dU hl,dU hm]
  ·obtain⟨q,rfl⟩:∃q,p=q+1:=⟨p-1,E⟩;rw[bN hpl,bN E,qB E,aH8 E]
 have hself:pvS (l.set at_ s) (at_+1)=s:=by rw[bN E,qB E,aH9 rfl]
 unfold lvR;rw[pR,hpv at_ E E,qU];congr 2;apply aq3;intro j;rw[ar8,ar6,at1,ar6];rcases hj:R[j]? with _ | p
 ·have :=List.getElem?_eq_none_iff.1 hj;rw[aH8 E];rfl
 ·by_cases e:bh=j
  ·subst e;rw[hb]at hj;cases hj;rw[aH9 rfl,aH9 hbl,aD3,hself]
  ·have hp2:p≠at_+1:=fun e2=>e ((InvI.of_rows h).inj hb (e2▸hj));rw[aH8 e,aD3,aD3,hpv p hp2 ((InvI.of_rows h).lt (ax2 hj))]
end
section
open Go.Shelf
def Tryz.lays189_ren:Go.Shelf.Ren:=⟨fun | 189=>63 | 125=>131 | 257=>130 | 128=>190 | 129=>191 | 294=>181 | 295=>182 | 296=>183 | 297=>184 | 298=>185 | 299=>186 | 216=>187 | 300=>188 | 301=>189 | 328=>220 | 329=>221 | 330=>222 | 331=>223 | 332=>224 | 215=>204 | 343=>240 | n=>n,fun | 28=>36 | 3=>3 | 46=>23 | 0=>0 | 51=>74 | 53=>69 | 4=>4 | 183=>207 | 182=>206 | 131=>149 | 5=>5 | 9=>9 | 218=>231 | 222=>235 | 228=>249 | 229=>104 | n=>n,fun | n=>n⟩
theorem Tryz.lays189:Go.Proofs.Lays.n189 Tryz.prog Tryz.lays189_ren:={
 mixed:=Ek
 f125:=Tryz.func131.trans (aG8 some Ek)
 f128:=Tryz.func190.trans (aG8 some Ek)
 f129:=Tryz.func191.trans (aG8 some Ek)
 f189:=Tryz.func63.trans (aG8 some Ek)
 f215:=Tryz.func204.trans (aG8 some Ek)
 f216:=Tryz.func187.trans (aG8 some Ek)
 f257:=Tryz.func130.trans (aG8 some Ek)
 f294:=Tryz.func181.trans (aG8 some Ek)
 f295:=Tryz.func182.trans (aG8 some Ek)
 f296:=Tryz.func183.trans (aG8 some Ek)
 f297:=Tryz.func184.trans (aG8 some Ek)
 f298:=Tryz.func185.trans (aG8 some Ek)
 f299:=Tryz.func186.trans (aG8 some Ek)
 f300:=Tryz.func188.trans (aG8 some Ek)
 f301:=Tryz.func189.trans (aG8 some Ek)
 f328:=Tryz.func220.trans (aG8 some Ek)
 f329:=Tryz.func221.trans (aG8 some Ek)
 f330:=Tryz.func222.trans (aG8 some Ek)
 f331:=Tryz.func223.trans (aG8 some Ek)
 f332:=Tryz.func224.trans (aG8 some Ek)
 f343:=Tryz.func240.trans (aG8 some Ek)
 t0:=aE6
 a0:=Tryz.isAgg0
 z0:=Tryz.sizeOf0
 v0:=aF4
 t3:=aE8
 a3:=aD9
 z3:=aE3
 v3:=aF5
 t4:=aF1
 a4:=aE0
 z4:=aE5
 v4:=aF7
 t5:=aF2
 a5:=Tryz.isAgg5
 z5:=Tryz.sizeOf5
 v5:=Tryz.zeroValue5
 t9:=aF3
 a9:=Tryz.isAgg9
 z9:=Tryz.sizeOf9
 v9:=Tryz.zeroValue9
 t28:=aF0
 a28:=Tryz.isAgg36
 z28:=aE4
 v28:=aF6
 t46:=Tryz.underlying23
 a46:=Tryz.isAgg23
 z46:=Tryz.sizeOf23
 v46:=Tryz.zeroValue23
 t51:=Tryz.underlying74
 a51:=Tryz.isAgg74
 z51:=Tryz.sizeOf74
 v51:=Tryz.zeroValue74
 t53:=Tryz.underlying69
 a53:=Tryz.isAgg69
 z53:=Tryz.sizeOf69
 v53:=Tryz.zeroValue69
 t131:=Tryz.underlying149
 a131:=Tryz.isAgg149
 z131:=Tryz.sizeOf149
 v131:=Tryz.zeroValue149
 t182:=Tryz.underlying206
 a182:=Tryz.isAgg206
 z182:=Tryz.sizeOf206
 v182:=Tryz.zeroValue206
 t183:=Tryz.underlying207
 a183:=Tryz.isAgg207
 z183:=Tryz.sizeOf207
 v183:=Tryz.zeroValue207
 t218:=Tryz.underlying231
 a218:=Tryz.isAgg231
 z218:=Tryz.sizeOf231
 v218:=Tryz.zeroValue231
 t222:=Tryz.underlying235
 a222:=Tryz.isAgg235
 z222:=Tryz.sizeOf235
 v222:=Tryz.zeroValue235
 t228:=Tryz.underlying249
 a228:=Tryz.isAgg249
 z228:=Tryz.sizeOf249
 v228:=Tryz.zeroValue249
 t229:=Tryz.underlying104
 a229:=Tryz.isAgg104
 z229:=Tryz.sizeOf104
 v229:=Tryz.zeroValue104}
open Go.Sort Go.RowKit in
theorem Tryz.slices_Sort_int (blk off cap:Nat)(zs:List Int)(w:World)(hH:Holds (Value.int .i64) w blk off zs.toArray)(hblk:blk<w.heap.size)(hsz:zs.length<4611686018427387904):
  Calls Tryz.prog 63 #[.slice (some ⟨blk,off,none⟩) zs.length cap] w fun e w'=>
   e= .returned (.tuple #[])∧∃n os,w'=grow (putRow (Value.int .i64) (Sort.ahead w n) blk off (zs.mergeSort fun x y=>decide (x≤y)).toArray) os:=Any.slices_Sort_int Tryz.lays189 blk off cap zs w hH hblk hsz
open Go.RowKit Go.Sort in
theorem Tryz.slices_Sort_int_none (p:Option Addr)(cap:Nat)(w:World):
  Calls Tryz.prog 63 #[.slice p 0 cap] w fun e w'=>e= .returned (.tuple #[])∧w'=w:=Any.slices_Sort_int_none Tryz.lays189 p cap w
end
section
open Go.RowKit
theorem flat4:∀(ys:List (Option ST)) (i:Nat) (o:Option ST) (j:Nat),ys[i]? =some o→j<4→(ys.flatMap gR)[i*4+j]? =(gR o)[j]?
 | [],i,o,j,h,_=>by simp at h
 | y::ys,0,o,j,h,hj=>by
  simp only[List.getElem?_cons_zero,aD4]at h;subst h;rw[aq7,aq9 (by rw[rA];omega),aC9,aC7]
 | y::ys,i+1,o,j,h,hj=>by
  rw[ar1]at h;rw[aq7,ar0 (by rw[rA];omega),rA,show (i+1)*4+j-4=i*4+j by omega];exact flat4 ys i o j h hj
theorem Ny(o:Option ST):∃a2 a3:Nat,gR o=[.int .i64 ((aF o).length:Nat), .int .i64 (aO o:Nat), .int .i64 a2, .int .i64 a3]:=by
 cases o with
 | none=>exact⟨0,0,rfl⟩
 | some t=>exact⟨_,_,rfl⟩
theorem shRead{w:World}{base n c:Nat}{a:Option Addr}{ys:List (Option ST)}(h:ShRow w base (.slice a n c) ys){i:Nat}{o:Option ST}(hi:ys[i]? =some o):
  ∃g a2 a3:Nat,a=some ⟨g,0,none⟩∧g<w.heap.size∧gR o=[.int .i64 ((aF o).length:Nat), .int .i64 (aO o:Nat), .int .i64 a2, .int .i64 a3]∧w.cell? ⟨g,i*4,none⟩=some (.int .i64 ((aF o).length:Nat))∧w.cell? ⟨g,i*4+1,none⟩=some (.int .i64 (aO o:Nat))∧
   w.cell? ⟨g,i*4+2,none⟩=some (.int .i64 a2)∧w.cell? ⟨g,i*4+3,none⟩=some (.int .i64 a3):=by
 have hlt:=(ar5.1 hi).1;obtain⟨a2,a3,hc⟩:=Ny o;obtain⟨hl,hh⟩:=h;rcases hh with ⟨_,h0⟩ | ⟨g,cap,cur,hv,hb,hg,hcc,hm,hs,ht⟩
 ·omega
 ·injection hv with h1 h2 h3
  have key:∀j u,j<4→(gR o)[j]? =some u→w.cell? ⟨g,i*4+j,none⟩=some u:=by
   intro j u hj hu;have h4:=flat4 ys i o j hi hj;rw[hu,←ht,ar9,aH9 E]at h4;rw[aG7 w g (i*4+j) cur _ (0,0) hg];simpa using h4
  refine⟨g,a2,a3,h1,(am0.1 hg).1,hc,key 0 _ E (by rw[hc];rfl),key 1 _ E (by rw[hc];rfl),key 2 _ E (by rw[hc];rfl),key 3 _ E (by rw[hc];rfl)⟩
def kZ(L:List Nat)(l p:Nat):List (List Bool):=cW L l++((List.range p).map (lvl L l)).filter (fun b=>decide (0<b.length))
theorem yN(L:List Nat)(l p:Nat):kZ L l (p+1)=kZ L l p++if 0<(lvl L l p).length then [lvl L l p]else []:=by
 unfold kZ;rw[ay4,at6,aq4,ao7];congr 2;by_cases h:0<(lvl L l p).length<;>simp[aq5,h]
theorem yM(L:List Nat)(l:Nat):kZ L l (pw l)=cW L (l+1):=by
 unfold kZ cW;rw[ay4,aq6];simp
theorem Xv(L:List Nat){l m:Nat}(h:l≤m):cW L l<+:cW L m:=by
 induction m with
 | zero=>
      obtain rfl:l=0:=E;exact ay3 _
 | succ m ih=>
  by_cases e:l=m+1
  ·subst e;exact ay3 _
  ·refine(ih E).trans ?_;rw[←yM];exact List.prefix_append _ _
theorem Rt(L:List Nat)(l:Nat){p q:Nat}(h:p≤q):kZ L l p<+:kZ L l q:=by
 induction q with
 | zero=>
      obtain rfl:p=0:=E;exact ay3 _
 | succ q ih=>
  by_cases e:p=q+1
  ·subst e;exact ay3 _
  ·refine(ih E).trans ?_;rw[yN];exact List.prefix_append _ _
theorem Xy(L:List Nat){l p:Nat}(hl:l<9)(hp:p<pw l)(hb:0<(lvl L l p).length):(cW L 9)[(kZ L l p).length]? =some (lvl L l p):=by
 have h1:kZ L l (p+1)<+:cW L 9:=((Rt L l (show p+1≤pw l from hp)).trans (by rw[yM];exact ay3 _)).trans (Xv L (show l+1≤9 by omega));obtain⟨r,hr⟩:=h1;rw[←hr,yN,aH9 hb,ao7,ar0 (aA5 _),aC0];rfl
end
end Go.Proofs.YtchinbgemenenaaGreatDoor
