/- Lemmas and contracts under the claims of this seat. No condition. -/
import Derived.Shelf.Spec.TrailingZeros
import Derived.Deep.QuietTactic
import Derived.BigQuiet
import Derived.Deep.DeepCutAuto
import Derived.Deep.CutBlock
import Derived.Deep.CutRange
import Derived.LoopN
import Derived.Test.YtchinbgemenenaaGreatDoorZr1
namespace Go.Proofs.YtchinbgemenenaaGreatDoor
set_option linter.unusedVariables false
set_option linter.unusedSimpArgs false
set_option maxRecDepth 100000
set_option maxHeartbeats 12800000
def aR(l:List Bool)(i:Nat):Bool:=l[i]?.getD false
def loW(l:List Bool):Nat:=eZ (aR l) 64
def hiW(l:List Bool):Nat:=eZ (fun i=>aR l (64+i)) 64
theorem cZ(l:List Bool):loW l<2^64:=jK _ _
theorem cY(l:List Bool):hiW l<2^64:=jK _ _
theorem cJ{l:List Bool}{i:Nat}(h:i<64):(loW l).testBit i=aR l i:=by unfold loW;rw[jZ];simp[h]
theorem cI{l:List Bool}{i:Nat}(h:i<64):(hiW l).testBit i=aR l (64+i):=by unfold hiW;rw[jZ];simp[h]
theorem gW{l:List Bool}{i:Nat}(h:l.length≤i):aR l i=false:=by unfold aR;rw[ar4 h];rfl
theorem ae6:loW []=0:=by decide+kernel
theorem ad9:hiW []=0:=by decide+kernel
def inL{α:Type}(l:List α)(k:Nat)(b:α):List α:=l.take k++b::l.drop k
def aB{α:Type}(l:List α)(k:Nat):List α:=l.take k++l.drop (k+1)
theorem fZ{α:Type}{l:List α}{k:Nat}{b:α}(h:k≤l.length):(inL l k b).length=l.length+1:=by simp[inL];omega
theorem eJ{α:Type}{l:List α}{k:Nat}(h:k<l.length):(aB l k).length=l.length-1:=by simp[aB];omega
theorem ae1{α:Type}{l:List α}{k:Nat}{b:α}(h:k≤l.length)(i:Nat):(inL l k b)[i]? =if i<k then l[i]? else if i=k then some b else l[i-1]? :=by
 unfold inL;rw[aq8,at5,aB2 h];split
 ·rename_i hi;rw[ar9,aH9 hi]
 ·rename_i hi;by_cases e:i=k
  ·subst e;simp
  ·rw[aH8 e];obtain⟨d,hd⟩:∃d,i-k=d+1:=⟨i-k-1,E⟩;rw[hd,ar1,ar2];congr 1;omega
theorem Yg{α:Type}{l:List α}{k:Nat}(h:k<l.length)(i:Nat):(aB l k)[i]? =if i<k then l[i]? else l[i+1]? :=by
 unfold aB;rw[aq8,at5,aB2 E];split
 ·rename_i hi;rw[ar9,aH9 hi]
 ·rename_i hi;rw[ar2];congr 1;omega
theorem qN{l:List Bool}{k:Nat}{b:Bool}(h:k≤l.length)(i:Nat):aR (inL l k b) i=if i<k then aR l i else if i=k then b else aR l (i-1):=by
 unfold aR;rw[ae1 h];split
 ·rfl
 ·split<;>rfl
theorem oL{l:List Bool}{k:Nat}(h:k<l.length)(i:Nat):aR (aB l k) i=if i<k then aR l i else aR l (i+1):=by
 unfold aR;rw[Yg h];split<;>rfl
theorem lo_in{l:List Bool}{k:Nat}(b:Bool)(h:k≤l.length)(hk:k<64):loW (inL l k b)=oA (loW l) k b:=by
 refine dG (cZ _) (zZ _ _ _) (fun i hi=>?_);rw[cJ hi,xC hi,qN h];split
 ·rw[cJ hi]
 ·split
  ·rfl
  ·rw[cJ E]
theorem hi_in{l:List Bool}{k:Nat}(b:Bool)(h:k≤l.length)(hk:k<64):hiW (inL l k b)=oA (hiW l) 0 ((loW l).testBit 63):=by
 refine dG (cY _) (zZ _ _ _) (fun i hi=>?_);rw[cI hi,xC hi,qN h,aH8 E,aH8 E,aH8 E,cJ E];by_cases e:i=0
 ·subst e;rfl
 ·rw[aH8 e,cI E];congr 1;omega
theorem lo_in2{l:List Bool}{k:Nat}(b:Bool)(h:k≤l.length)(hk:64≤k):loW (inL l k b)=loW l:=by
 refine dG (cZ _) (cZ _) (fun i hi=>?_);rw[cJ hi,cJ hi,qN h,aH9 E]
theorem hi_in2{l:List Bool}{k:Nat}(b:Bool)(h:k≤l.length)(hk:64≤k)(h128:k<128):hiW (inL l k b)=oA (hiW l) (k-64) b:=by
 refine dG (cY _) (zZ _ _ _) (fun i hi=>?_);rw[cI hi,xC hi,qN h];by_cases h1:i<k-64
 ·rw[aH9 E,aH9 h1,cI hi]
 ·rw[aH8 E,aH8 h1];by_cases h2:i=k-64
  ·rw[aH9 E,aH9 h2]
  ·rw[aH8 E,aH8 h2,cI E];congr 1;omega
theorem lo_out{l:List Bool}{k:Nat}(h:k<l.length)(hk:k<64):loW (aB l k)=kG (loW l) k ((hiW l).testBit 0):=by
 refine dG (cZ _) (zQ _ _ _) (fun i hi=>?_);rw[cJ hi,vS hi,oL h,cI E];split
 ·rw[cJ hi]
 ·split
  ·rename_i e;subst e;rfl
  ·rw[cJ E]
theorem hi_out{l:List Bool}{k:Nat}(h:k<l.length)(hk:k<64)(h128:l.length≤128):hiW (aB l k)=kG (hiW l) 0 false:=by
 refine dG (cY _) (zQ _ _ _) (fun i hi=>?_);rw[cI hi,vS hi,oL h,aH8 E,aH8 E];split
 ·rw[gW E]
 ·rw[cI E];rfl
theorem ae7{l:List Bool}{k:Nat}(h:k<l.length)(hk:64≤k):loW (aB l k)=loW l:=by
 refine dG (cZ _) (cZ _) (fun i hi=>?_);rw[cJ hi,cJ hi,oL h,aH9 E]
theorem ae0{l:List Bool}{k:Nat}(h:k<l.length)(hk:64≤k)(h128:l.length≤128):hiW (aB l k)=kG (hiW l) (k-64) false:=by
 refine dG (cY _) (zQ _ _ _) (fun i hi=>?_);rw[cI hi,vS hi,oL h];by_cases h1:i<k-64
 ·rw[aH9 E,aH9 h1,cI hi]
 ·rw[aH8 E,aH8 h1];split
  ·rw[gW E]
  ·rw[cI E];rfl
def aJ(l:List Bool)(k:Nat)(b:Bool):Nat:=(l.take k).count b
theorem fT{l:List Bool}{k:Nat}(b:Bool)(h:k<l.length):aJ l (k+1) b=aJ l k b+(if l[k]?.getD false=b then 1 else 0):=by
 unfold aJ;rw[ay9,ar3 h,aD5,ap8,List.count_singleton];simp
theorem dO{l:List Bool}{k:Nat}(b:Bool)(h:l.length≤k):aJ l k b=l.count b:=by unfold aJ;rw[az3 h]
theorem qY(l:List Bool)(k:Nat)(b:Bool):aJ l k b≤k∧aJ l k b≤l.length:=by
 unfold aJ;have :=List.count_le_length (a:=b) (l:=l.take k);rw[at5]at this;omega
theorem Nj(l:List Bool){i j:Nat}(b:Bool)(h:i≤j):aJ l i b≤aJ l j b:=by
 unfold aJ;have :l.take i=(l.take j).take i:=by rw[az5,aB2 h]
 rw[this];exact List.Sublist.count_le _ (az4 _ _)
theorem kM{l:List Bool}{i j:Nat}{b:Bool}(h:i<j)(hi:i<l.length)(hb:l[i]?.getD false=b):aJ l i b<aJ l j b:=by
 have :=Nj l b (i:=i+1) (j:=j) E;rw[fT b hi,aH9 hb]at this;omega
theorem qX{l:List Bool}{k:Nat}(h:k≤l.length):aJ l k true+aJ l k false=k:=by
 induction k with
 | zero=>simp[aJ]
 | succ k ih=>
  have :=ih E;rw[fT true E,fT false E];cases l[k]?.getD false<;>simp<;>omega
theorem Dc{l:List Bool}:∀{k:Nat},k≤64→pc (loW l) k=aJ l k true
 | 0,_=>by simp[pc,aJ]
 | k+1,h=>by
  rw[mL,Dc E,cJ E];by_cases hk:k<l.length
  ·rw[fT true hk];unfold aR;cases l[k]?.getD false<;>simp
  ·rw[gW E,dO true E,dO true E];rfl
theorem Nb{l:List Bool}:∀{k:Nat},k≤64→aJ l 64 true+pc (hiW l) k=aJ l (64+k) true
 | 0,_=>by simp[pc]
 | k+1,h=>by
  rw[mL,←az7,Nb E,cI E,←az7];by_cases hk:64+k<l.length
  ·rw[fT true hk];unfold aR;cases l[64+k]?.getD false<;>simp
  ·rw[gW E,dO true E,dO true E];rfl
theorem ag6{l:List Bool}(h:l.length≤128):pc (loW l) 64+pc (hiW l) 64=l.count true:=by
 rw[Dc (aA5 _),Nb (aA5 _),dO true E]
def cF(l:List Bool)(j:Int)(b:Bool):Int:=match (List.range l.length).find? fun i=>decide (l[i]?.getD false=b)&&decide ((aJ l i b:Int)=j)with
 | some i=>(i:Int)
 | none=> -1
theorem fV{l:List Bool}{k:Nat}{j:Int}{b:Bool}(hk:k<l.length)(hb:l[k]?.getD false=b)(hp:(aJ l k b:Int)=j):cF l j b=k:=by
 unfold cF;have :(List.range l.length).find? (fun i=>decide (l[i]?.getD false=b)&&decide ((aJ l i b:Int)=j))=some k:=by
  rw[List.find?_range_eq_some];refine⟨by simp[hb,hp],by simpa using hk,fun i hi=>?_⟩;by_cases hbi:l[i]?.getD false=b
  ·have :=kM (b:=b) hi E hbi;simp;omega
  ·simp[hbi]
 rw[this]
theorem jH{l:List Bool}{j:Int}{b:Bool}(h:∀i,i<l.length→l[i]?.getD false=b→(aJ l i b:Int)≠j):cF l j b= -1:=by
 unfold cF;have :(List.range l.length).find? (fun i=>decide (l[i]?.getD false=b)&&decide ((aJ l i b:Int)=j))=none:=by
  rw[List.find?_eq_none];intro i hi;simp only[ax4]at hi;by_cases hbi:l[i]?.getD false=b
  ·have :=h i hi hbi;simp[this]
  ·simp[hbi]
 rw[this]
theorem Gg{l:List Bool}{j:Int}{b:Bool}(h:j<0):cF l j b= -1:=jH (fun i _ _=>E)
theorem Tm{l:List Bool}{j:Int}{b:Bool}(h:(l.count b:Int)≤j):cF l j b= -1:=jH (fun i hi hb=>by
 have :=kM (b:=b) (j:=l.length) hi hi hb;rw[dO b (aA5 _)]at this;omega)
def dR(x:Nat)(b:Bool):Nat:=if b then x else cE x
theorem qS{x:Nat}(h:x<2^64)(b:Bool):dR x b<2^64:=by unfold dR;split;exact h;exact Kz x
theorem oR{x i:Nat}(hx:x<2^64)(hi:i<64)(b:Bool):(dR x b).testBit i=decide (x.testBit i=b):=by
 unfold dR;cases b
 ·simp[Ez hx hi]
 ·simp
theorem gN{l:List Bool}(b:Bool):∀{k:Nat},k≤64→k≤l.length→pc (dR (loW l) b) k=aJ l k b
 | 0,_,_=>by simp[pc,aJ]
 | k+1,h,h2=>by
  rw[mL,gN b E E,oR (cZ l) E,cJ E,fT b E];unfold aR;by_cases e:l[k]?.getD false=b<;>simp[e]
theorem oU{l:List Bool}(b:Bool)(h64:64≤l.length):∀{k:Nat},k≤64→64+k≤l.length→aJ l 64 b+pc (dR (hiW l) b) k=aJ l (64+k) b
 | 0,_,_=>by simp[pc]
 | k+1,h,h2=>by
  rw[mL,←az7,oU b h64 E E,oR (cY l) E,cI E,←az7,fT b E];unfold aR;by_cases e:l[64+k]?.getD false=b<;>simp[e]
theorem Tq{l:List Bool}{j:Nat}{b:Bool}(h:j<pc (dR (loW l) b) 64):∃k:Nat,k<64∧sel (dR (loW l) b) j=k∧cF l j b=if k<l.length then (k:Int)else -1:=by
 obtain⟨k,hk,hb,hp,hs⟩:=Gk h;refine⟨k,hk,hs,?_⟩;rw[oR (cZ l) hk,cJ hk,aH2]at hb;split
 ·rename_i hkl;exact fV hkl hb (by rw[←gN b E E,hp])
 ·rename_i hkl;refine jH (fun i hi hbi=>?_);have h1:=kM (b:=b) (j:=l.length) hi hi hbi;have h2:=mK (dR (loW l) b) (i:=l.length) (j:=k) E;rw[gN b E (aA5 _),hp]at h2;omega
theorem Tp{l:List Bool}{j:Nat}{b:Bool}(h:pc (dR (loW l) b) 64≤j)(h1:j-pc (dR (loW l) b) 64<pc (dR (hiW l) b) 64)(h128:l.length≤128):
  ∃k:Nat,k<64∧sel (dR (hiW l) b) ((j:Int)-(pc (dR (loW l) b) 64:Nat))=k∧cF l j b=if 64+k<l.length then ((64+k:Nat):Int)else -1:=by
 obtain⟨k,hk,hb,hp,hs⟩:=Gk h1;refine⟨k,hk,by rw[←hs];congr 1;omega,?_⟩;rw[oR (cY l) hk,cI hk,aH2]at hb;by_cases h64:64≤l.length
 ·have e64:=gN (l:=l) b (aA5 64) h64;split
  ·rename_i hkl;exact fV hkl hb (by rw[←oU b h64 E E,hp];omega)
  ·rename_i hkl;refine jH (fun i hi hbi=>?_);have h3:=kM (b:=b) (j:=l.length) hi hi hbi;have h2:=mK (dR (hiW l) b) (i:=l.length-64) (j:=k) E;have h4:=oU (l:=l) b h64 (k:=l.length-64) E E;rw[show 64+(l.length-64)=l.length by omega]at h4;omega
 ·rw[aH8 E];refine jH (fun i hi hbi=>?_);have h3:=kM (b:=b) (j:=l.length) hi hi hbi;have h2:=mK (dR (loW l) b) (i:=l.length) (j:=64) E;rw[gN b E (aA5 _)]at h2;omega
theorem Tr{l:List Bool}{j:Nat}{b:Bool}(h:pc (dR (loW l) b) 64+pc (dR (hiW l) b) 64≤j)(h128:l.length≤128):cF l j b= -1:=by
 refine jH (fun i hi hbi=>?_);have h3:=kM (b:=b) (j:=l.length) hi hi hbi;by_cases h64:64≤l.length
 ·have e64:=gN (l:=l) b (aA5 64) h64;have h4:=oU (l:=l) b h64 (k:=l.length-64) E E;rw[show 64+(l.length-64)=l.length by omega]at h4;have h2:=mK (dR (hiW l) b) (i:=l.length-64) (j:=64) E;omega
 ·have h2:=mK (dR (loW l) b) (i:=l.length) (j:=64) E;rw[gN b E (aA5 _)]at h2;omega
theorem Kq{l:List Bool}{b:Bool}(h:l.length<64):loW (l++[b])=loW l|||(if b then 2^l.length else 0):=by
 refine dG (cZ _) (aB7 (cZ _) ?_) (fun i hi=>?_)
 ·have :=aB8 (n:=2) (i:=l.length) (j:=63) E (E);split<;>omega
 ·rw[cJ hi,aC4,cJ hi];have hb:(if b=true then 2^l.length else 0:Nat).testBit i=(b&&decide (i=l.length)):=by
   cases b
   ·simp
   ·simp[Nat.testBit_two_pow,eq_comm]
  rw[hb];unfold aR;rw[aq8];split
  ·rename_i h1;have :¬i=l.length:=E;simp[this]
  ·rename_i h1;by_cases e:i=l.length
   ·subst e;simp
   ·rw[ar4 (l:=l) E,ar4 (l:=[b]) (by simp;omega)];simp[e]
theorem Ex{l:List Bool}{b:Bool}(h:64≤l.length):loW (l++[b])=loW l:=by
 refine dG (cZ _) (cZ _) (fun i hi=>?_);rw[cJ hi,cJ hi];unfold aR;rw[aq9 E]
theorem Kj{l:List Bool}{b:Bool}(h:l.length<64):hiW (l++[b])=hiW l:=by
 refine dG (cY _) (cY _) (fun i hi=>?_);rw[cI hi,cI hi,gW (l:=l++[b]) (by simp;omega),gW (l:=l) E]
theorem El{l:List Bool}{b:Bool}(h:64≤l.length)(h128:l.length<128):hiW (l++[b])=hiW l|||(if b then 2^(l.length-64)else 0):=by
 refine dG (cY _) (aB7 (cY _) ?_) (fun i hi=>?_)
 ·have :=aB8 (n:=2) (i:=l.length-64) (j:=63) E (E);split<;>omega
 ·rw[cI hi,aC4,cI hi];have hb:(if b=true then 2^(l.length-64)else 0:Nat).testBit i=(b&&decide (i=l.length-64)):=by
   cases b
   ·simp
   ·simp[Nat.testBit_two_pow,eq_comm]
  rw[hb];unfold aR;rw[aq8];split
  ·rename_i h1;have :¬i=l.length-64:=E;simp[this]
  ·rename_i h1;by_cases e:i=l.length-64
   ·subst e;rw[show 64+(l.length-64)=l.length by omega];simp
   ·rw[ar4 (l:=l) E,ar4 (l:=[b]) (by simp;omega)];simp[e]
inductive ST where
 | leaf (l:List Bool)
 | pair (a b:ST)
def ST.bits:ST→List Bool
 | .leaf l=>l
 | .pair a b=>a.bits++b.bits
def ST.high:ST→Nat
 | .leaf _=>0
 | .pair a b=>max a.high b.high+1
def ST.leaves:ST→Nat
 | .leaf _=>1
 | .pair a b=>a.leaves+b.leaves
def ST.size:ST→Nat
 | .leaf _=>1
 | .pair a b=>a.size+b.size+1
def ST.Avl:ST→Prop
 | .leaf _=>True
 | .pair a b=>a.Avl∧b.Avl∧a.high≤b.high+1∧b.high≤a.high+1
def ST.Fill:ST→Prop
 | .leaf l=>32≤l.length∧l.length≤128
 | .pair a b=>a.Fill∧b.Fill
def ST.Root:ST→Prop
 | .leaf l=>1≤l.length∧l.length≤128
 | .pair a b=>a.Fill∧b.Fill
def ST.Le:ST→Prop
 | .leaf l=>l.length≤128
 | .pair a b=>a.Le∧b.Le
def ST.few:ST→Bool
 | .leaf l=>decide (l.length<32)
 | .pair _ _=>false
def ST.isLeaf:ST→Bool
 | .leaf _=>true
 | .pair _ _=>false
theorem ST.Fill.root {t:ST}(h:t.Fill):t.Root:=by
 cases t with
 | leaf l=>obtain⟨h1,h2⟩:=h;exact⟨E,h2⟩
 | pair a b=>exact h
theorem ST.size_leaves (t:ST):t.size+1=2*t.leaves:=by
 induction t with
 | leaf l=>rfl
 | pair a b iha ihb=>simp only[ST.size,ST.leaves];omega
theorem ST.leaves_pos (t:ST):1≤t.leaves:=by have :=t.size_leaves;omega
theorem ST.high_size (t:ST):t.high<t.size:=by
 induction t with
 | leaf l=>simp[ST.high,ST.size]
 | pair a b iha ihb=>simp only[ST.high,ST.size];omega
theorem ST.Fill.len {t:ST}(h:t.Fill):32*t.leaves≤t.bits.length:=by
 induction t with
 | leaf l=>obtain⟨h1,h2⟩:=h;simp only[ST.leaves,ST.bits];omega
 | pair a b iha ihb=>
  have :=iha h.1;have :=ihb h.2;simp only[ST.leaves,ST.bits,as6];omega
theorem ST.Root.pos {t:ST}(h:t.Root):1≤t.bits.length:=by
 cases t with
 | leaf l=>exact h.1
 | pair a b=>have :=h.1.len;have :=a.leaves_pos;simp only[ST.bits,as6];omega
theorem ST.Root.len {t:ST}(h:t.Root):32*(t.leaves-1)≤t.bits.length:=by
 cases t with
 | leaf l=>simp[ST.leaves]
 | pair a b=>have :=h.1.len;have :=h.2.len;simp only[ST.leaves,ST.bits,as6];omega
def iU:ST→ST
 | .pair (.pair a b) c=> .pair a (.pair b c)
 | t=>t
def iT:ST→ST
 | .pair a (.pair b c)=> .pair (.pair a b) c
 | t=>t
def ST.hl:ST→Nat
 | .leaf _=>0
 | .pair a _=>a.high
def ST.hr:ST→Nat
 | .leaf _=>0
 | .pair _ b=>b.high
def bal:ST→ST
 | .leaf l=> .leaf l
 | .pair l r=>
  if r.high+1<l.high then (if l.hl<l.hr then iU (.pair (iT l) r)else iU (.pair l r))
  else if l.high+1<r.high then (if r.hr<r.hl then iT (.pair l (iU r))else iT (.pair l r))
  else .pair l r
theorem Bv(t:ST):(iU t).bits=t.bits:=by
 unfold iU;split
 ·simp[ST.bits]
 ·rfl
theorem Bs(t:ST):(iT t).bits=t.bits:=by
 unfold iT;split
 ·simp[ST.bits]
 ·rfl
theorem vL(t:ST):(bal t).bits=t.bits:=by
 cases t with
 | leaf l=>rfl
 | pair l r=>
  simp only[bal];split
  ·split<;>simp[Bv,Bs,ST.bits]
  ·split
   ·split<;>simp[Bv,Bs,ST.bits]
   ·rfl
theorem Bx(t:ST):(iU t).size=t.size:=by
 unfold iU;split
 ·simp only[ST.size];omega
 ·rfl
theorem Bt(t:ST):(iT t).size=t.size:=by
 unfold iT;split
 ·simp only[ST.size];omega
 ·rfl
theorem qM(t:ST):(bal t).size=t.size:=by
 cases t with
 | leaf l=>rfl
 | pair l r=>
  simp only[bal];split
  ·split<;>simp[Bx,Bt,ST.size]
  ·split
   ·split<;>simp[Bx,Bt,ST.size]
   ·rfl
theorem sI{t:ST}:(iU t).Fill↔t.Fill:=by
 unfold iU;split
 ·simp only[ST.Fill,and_assoc]
 ·exact Iff.rfl
theorem sH{t:ST}:(iT t).Fill↔t.Fill:=by
 unfold iT;split
 ·simp only[ST.Fill,and_assoc]
 ·exact Iff.rfl
theorem vM{l r:ST}(h1:l.Fill)(h2:r.Fill):(bal (.pair l r)).Fill:=by
 have h:(ST.pair l r).Fill:=⟨h1,h2⟩;simp only[bal];split
 ·split
  ·rw[sI];exact⟨sH.2 h1,h2⟩
  ·rw[sI];exact h
 ·split
  ·split
   ·rw[sH];exact⟨h1,sI.2 h2⟩
   ·rw[sH];exact h
  ·exact h
theorem zM{l r:ST}(hl:l.Avl)(hr:r.Avl)(h1:l.high≤r.high+2)(h2:r.high≤l.high+2):
  (bal (.pair l r)).Avl∧(bal (.pair l r)).high≤max l.high r.high+1∧max l.high r.high≤(bal (.pair l r)).high∧
   (l.high≤r.high+1→r.high≤l.high+1→(bal (.pair l r)).high=max l.high r.high+1):=by
 simp only[bal];by_cases hc:r.high+1<l.high
 ·rw[aH9 hc];cases l with
  | leaf x=>simp[ST.high]at hc
  | pair a b=>
   obtain⟨ha,hb,g1,g2⟩:=hl;simp only[ST.high]at h1 h2 hc;by_cases hd:a.high<b.high
   ·rw[aH9 (show (ST.pair a b).hl<(ST.pair a b).hr from hd)];cases b with
    | leaf x=>simp[ST.high]at hd
    | pair b1 b2=>
     obtain⟨hb1,hb2,g3,g4⟩:=hb;simp only[ST.high]at h1 h2 hc hd g1 g2;simp only[iT,iU,ST.Avl,ST.high];refine⟨⟨⟨ha,hb1,?_,?_⟩,⟨hb2,hr,?_,?_⟩,?_,?_⟩,?_,?_,?_⟩<;>omega
   ·rw[aH8 (show ¬(ST.pair a b).hl<(ST.pair a b).hr from hd)];simp only[iU,ST.Avl,ST.high];refine⟨⟨ha,⟨hb,hr,?_,?_⟩,?_,?_⟩,?_,?_,?_⟩<;>omega
 ·rw[aH8 hc];by_cases hc':l.high+1<r.high
  ·rw[aH9 hc'];cases r with
   | leaf x=>simp[ST.high]at hc'
   | pair a b=>
    obtain⟨ha,hb,g1,g2⟩:=hr;simp only[ST.high]at h1 h2 hc hc';by_cases hd:b.high<a.high
    ·rw[aH9 (show (ST.pair a b).hr<(ST.pair a b).hl from hd)];cases a with
     | leaf x=>simp[ST.high]at hd
     | pair b1 b2=>
      obtain⟨hb1,hb2,g3,g4⟩:=ha;simp only[ST.high]at h1 h2 hc hc' hd g1 g2;simp only[iT,iU,ST.Avl,ST.high];refine⟨⟨⟨hl,hb1,?_,?_⟩,⟨hb2,hb,?_,?_⟩,?_,?_⟩,?_,?_,?_⟩<;>omega
    ·rw[aH8 (show ¬(ST.pair a b).hr<(ST.pair a b).hl from hd)];simp only[iT,ST.Avl,ST.high];refine⟨⟨⟨hl,ha,?_,?_⟩,hb,?_,?_⟩,?_,?_,?_⟩<;>omega
  ·rw[aH8 hc'];refine⟨⟨hl,hr,E,E⟩,aA5 _,?_,fun _ _=>rfl⟩;simp only[ST.high];omega
def cT:ST→Nat→Bool→ST
 | .leaf l,k,b=>if l.length=128 then
   (if 64<k then .pair (.leaf (l.take 64)) (.leaf (inL (l.drop 64) (k-64) b))else .pair (.leaf (inL (l.take 64) k b)) (.leaf (l.drop 64)))
  else .leaf (inL l k b)
 | .pair x y,k,b=>if k≤x.bits.length then bal (.pair (cT x k b) y)else bal (.pair x (cT y (k-x.bits.length) b))
theorem Bc{α:Type}{l m:List α}{k:Nat}{b:α}(h:k≤l.length):inL (l++m) k b=inL l k b++m:=by
 unfold inL;rw[az1 h,aq1 h];simp
theorem Bd{α:Type}{l m:List α}{k:Nat}{b:α}(h:l.length≤k):inL (l++m) k b=l++inL m (k-l.length) b:=by
 unfold inL;rw[List.take_append,aq0,az3 h,List.drop_eq_nil_of_le h];simp
theorem Mo{α:Type}{l m:List α}{k:Nat}(h:k<l.length):aB (l++m) k=aB l k++m:=by
 unfold aB;rw[az1 E,aq1 E];simp
theorem Mp{α:Type}{l m:List α}{k:Nat}(h:l.length≤k):aB (l++m) k=l++aB m (k-l.length):=by
 unfold aB;rw[List.take_append,aq0,az3 h,List.drop_eq_nil_of_le E];rw[show k+1-l.length=k-l.length+1 by omega];simp
theorem rX{t:ST}{k:Nat}{b:Bool}(h:k≤t.bits.length):(cT t k b).bits=inL t.bits k b:=by
 induction t generalizing k with
 | leaf l=>
  simp only[ST.bits]at h;simp only[cT];split
  ·rename_i h1;split
   ·rename_i h2;simp only[ST.bits];have :=Bd (l:=l.take 64) (m:=l.drop 64) (k:=k) (b:=b) (by simp;omega);rw[az0]at this;rw[this];simp[h1]
   ·rename_i h2;simp only[ST.bits];have :=Bc (l:=l.take 64) (m:=l.drop 64) (k:=k) (b:=b) (by simp;omega);rw[az0]at this;rw[this]
  ·rfl
 | pair x y ihx ihy=>
  simp only[ST.bits,as6]at h;simp only[cT];split
  ·rename_i h1;rw[vL];simp only[ST.bits];rw[ihx h1,Bc h1]
  ·rename_i h1;rw[vL];simp only[ST.bits];rw[ihy E,Bd E]
theorem Eo{t:ST}(h:t.Avl)(k:Nat)(b:Bool):(cT t k b).Avl∧t.high≤(cT t k b).high∧(cT t k b).high≤t.high+1:=by
 induction t generalizing k with
 | leaf l=>
  simp only[cT];split
  ·split<;>simp[ST.Avl,ST.high]
  ·simp[ST.Avl,ST.high]
 | pair x y ihx ihy=>
  obtain⟨hx,hy,g1,g2⟩:=h;simp only[cT];split
  ·obtain⟨i1,i2,i3⟩:=ihx hx k;obtain⟨b1,b2,b3,b4⟩:=zM i1 hy E E;refine⟨b1,?_,?_⟩
   ·simp only[ST.high];by_cases hc:(cT x k b).high≤y.high+1
    ·rw[b4 hc E];omega
    ·omega
   ·simp only[ST.high];by_cases hc:(cT x k b).high≤y.high+1
    ·rw[b4 hc E];omega
    ·omega
  ·obtain⟨i1,i2,i3⟩:=ihy hy (k-x.bits.length);obtain⟨b1,b2,b3,b4⟩:=zM hx i1 E E;refine⟨b1,?_,?_⟩
   ·simp only[ST.high];by_cases hc:(cT y (k-x.bits.length) b).high≤x.high+1
    ·rw[b4 E hc];omega
    ·omega
   ·simp only[ST.high];by_cases hc:(cT y (k-x.bits.length) b).high≤x.high+1
    ·rw[b4 E hc];omega
    ·omega
theorem Be{t:ST}(h:t.Fill){k:Nat}(b:Bool)(hk:k≤t.bits.length):(cT t k b).Fill:=by
 induction t generalizing k with
 | leaf l=>
  obtain⟨h1,h2⟩:=h;simp only[ST.bits]at hk;simp only[cT];split
  ·rename_i h3;split
   ·refine⟨⟨by simp;omega,by simp;omega⟩,?_,?_⟩;all_goals rw[fZ (by simp;omega)];simp;omega
   ·refine⟨⟨?_,?_⟩,by simp;omega,by simp;omega⟩;all_goals rw[fZ (by simp;omega)];simp;omega
  ·refine⟨?_,?_⟩;all_goals rw[fZ hk];omega
 | pair x y ihx ihy=>
  simp only[ST.bits,as6]at hk;simp only[cT];split
  ·rename_i h1;exact vM (ihx h.1 h1) h.2
  ·rename_i h1;exact vM h.1 (ihy h.2 E)
theorem Qy{t:ST}(h:t.Root){k:Nat}(b:Bool)(hk:k≤t.bits.length):(cT t k b).Root:=by
 cases t with
 | leaf l=>
  obtain⟨h1,h2⟩:=h;by_cases h3:l.length=128
  ·exact(Be (t:= .leaf l) ⟨E,E⟩ b hk).root
  ·simp only[cT,aH8 h3,ST.Root];simp only[ST.bits]at hk;rw[fZ hk];omega
 | pair x y=>exact(Be (t:= .pair x y) h b hk).root
def lev(x y:List Bool):ST:=if x.length+y.length≤128 then .leaf (x++y)else .pair (.leaf ((x++y).take ((x.length+y.length)/2))) (.leaf ((x++y).drop ((x.length+y.length)/2)))
def cH:ST→ST
 | .leaf l=> .leaf l
 | .pair l r=>if l.few=false∧r.few=false then .pair l r else match l,r with
  | .leaf x, .leaf y=>lev x y
  | .leaf x, .pair (.leaf y) c=>if x.length+y.length≤128 then .pair (.leaf (x++y)) c else .pair (.leaf ((x++y).take ((x.length+y.length)/2))) (.pair (.leaf ((x++y).drop ((x.length+y.length)/2))) c)
  | .pair c (.leaf x), .leaf y=>if x.length+y.length≤128 then .pair c (.leaf (x++y))else .pair (.pair c (.leaf ((x++y).take ((x.length+y.length)/2)))) (.leaf ((x++y).drop ((x.length+y.length)/2)))
  | l,r=> .pair l r
theorem Wq(x y:List Bool):(lev x y).bits=x++y:=by
 unfold lev;split
 ·rfl
 ·simp[ST.bits]
theorem sA(t:ST):(cH t).bits=t.bits:=by
 cases t with
 | leaf l=>rfl
 | pair l r=>
  simp only[cH];split
  ·rfl
  ·split
   ·rw[Wq];rfl
   ·split
    ·simp[ST.bits]
    ·simp only[ST.bits];rw[←ao7,az0,ao7]
   ·split
    ·simp[ST.bits]
    ·simp only[ST.bits];rw[ao7,az0,ao7]
   ·rfl
def ST.Less:ST→Prop
 | .leaf l=>31≤l.length∧l.length≤128
 | .pair a b=>a.Fill∧b.Fill
theorem ST.Less.fill {t:ST}(h:t.Less)(hf:t.few=false):t.Fill:=by
 cases t with
 | leaf l=>
  obtain⟨h1,h2⟩:=h;simp only[ST.few,aH0]at hf;exact⟨E,h2⟩
 | pair a b=>exact h
theorem ST.Fill.less {t:ST}(h:t.Fill):t.Less:=by
 cases t with
 | leaf l=>obtain⟨h1,h2⟩:=h;exact⟨E,h2⟩
 | pair a b=>exact h
theorem ST.Fill.not_few {t:ST}(h:t.Fill):t.few=false:=by
 cases t with
 | leaf l=>obtain⟨h1,h2⟩:=h;simp only[ST.few,aH0];omega
 | pair a b=>rfl
theorem ST.leaf_of_high {t:ST}(h:t.high=0):∃l,t= .leaf l:=by
 cases t with
 | leaf l=>exact⟨l,rfl⟩
 | pair a b=>simp[ST.high]at h
theorem ST.few_high {t:ST}(h:t.few=true):t.high=0:=by
 cases t with
 | leaf l=>rfl
 | pair a b=>simp[ST.few]at h
theorem zU{l r:ST}(hl:l.Avl)(hr:r.Avl)(fl:l.Less)(fr:r.Less)(h1:l.high≤r.high+2)(h2:r.high≤l.high+2)(h0:(l.few=true∨r.few=true)→l.high≤r.high+1∧r.high≤l.high+1):
  (cH (.pair l r)).Fill∧(match cH (.pair l r)with | .leaf _=>l.high=0∧r.high=0∧(l.few=true∨r.few=true) | .pair a b=>a.Avl∧b.Avl∧a.high≤b.high+2∧b.high≤a.high+2∧max a.high b.high≤max l.high r.high∧(a.high≤l.high∧b.high≤r.high∧r.high≤b.high+1∧l.high≤a.high+1∧((a=l∧b=r)∨(a.high≤b.high+1∧b.high≤a.high+1∧(l.few=true∨r.few=true))))∧max l.high r.high≤max a.high b.high+1):=by
 by_cases hf:l.few=false∧r.few=false
 ·simp only[cH,aH9 hf];exact⟨⟨fl.fill hf.1,fr.fill hf.2⟩,hl,hr,h1,h2,aA5 _,⟨aA5 _,aA5 _,E,E,Es⟩,E⟩
 ·have hf':l.few=true∨r.few=true:=by
   rcases Bool.eq_false_or_eq_true l.few with h | h
   ·exact Ei h
   ·rcases Bool.eq_false_or_eq_true r.few with h' | h'
    ·exact Ej h'
    ·exact absurd ⟨h,h'⟩ hf
  obtain⟨h3,h4⟩:=h0 hf';simp only[cH,aH8 hf];cases l with
  | leaf x=>
   cases r with
   | leaf y=>
    obtain⟨a1,a2⟩:=fl;obtain⟨b1,b2⟩:=fr;simp only[lev];split
    ·refine⟨⟨by simp;omega,by simp;omega⟩,rfl,rfl,hf'⟩
    ·refine⟨⟨⟨by simp;omega,by simp;omega⟩,by simp;omega,by simp;omega⟩,trivial,trivial,?_⟩;simp only[ST.high];exact⟨E,E,E,⟨E,E,E,E,Ej ⟨E,E,hf'⟩⟩,E⟩
   | pair d c=>
    have hd:d.high=0:=by simp only[ST.high]at h4;omega
    have hc:c.high=0:=by simp only[ST.high]at h4;omega
    obtain⟨y,rfl⟩:=ST.leaf_of_high hd;obtain⟨z,rfl⟩:=ST.leaf_of_high hc;obtain⟨a1,a2⟩:=fl;obtain⟨⟨b1,b2⟩,c1,c2⟩:=fr;simp only;split
    ·refine⟨⟨⟨by simp;omega,by simp;omega⟩,c1,c2⟩,trivial,trivial,?_⟩;simp only[ST.high];exact⟨E,E,E,⟨E,E,E,E,Ej ⟨E,E,hf'⟩⟩,E⟩
    ·refine⟨⟨⟨by simp;omega,by simp;omega⟩,⟨by simp;omega,by simp;omega⟩,c1,c2⟩,trivial,⟨trivial,trivial,by simp[ST.high],by simp[ST.high]⟩,?_⟩;simp only[ST.high];exact⟨E,E,E,⟨E,E,E,E,Ej ⟨E,E,hf'⟩⟩,E⟩
  | pair c d=>
   cases r with
   | leaf y=>
    have hd:d.high=0:=by simp only[ST.high]at h3;omega
    have hc:c.high=0:=by simp only[ST.high]at h3;omega
    obtain⟨x,rfl⟩:=ST.leaf_of_high hd;obtain⟨z,rfl⟩:=ST.leaf_of_high hc;obtain⟨a1,a2⟩:=fr;obtain⟨⟨c1,c2⟩,b1,b2⟩:=fl;simp only;split
    ·refine⟨⟨⟨c1,c2⟩,by simp;omega,by simp;omega⟩,trivial,trivial,?_⟩;simp only[ST.high];exact⟨E,E,E,⟨E,E,E,E,Ej ⟨E,E,hf'⟩⟩,E⟩
    ·refine⟨⟨⟨⟨c1,c2⟩,by simp;omega,by simp;omega⟩,by simp;omega,by simp;omega⟩,⟨trivial,trivial,by simp[ST.high],by simp[ST.high]⟩,trivial,?_⟩;simp only[ST.high];exact⟨E,E,E,⟨E,E,E,E,Ej ⟨E,E,hf'⟩⟩,E⟩
   | pair e f=>simp[ST.few]at hf'
def dS:ST→Nat→ST
 | .leaf l,k=> .leaf (aB l k)
 | .pair x y,k=>bal (cH (if k<x.bits.length then .pair (dS x k) y else .pair x (dS y (k-x.bits.length))))
theorem iY{t:ST}{k:Nat}(h:k<t.bits.length):(dS t k).bits=aB t.bits k:=by
 induction t generalizing k with
 | leaf l=>rfl
 | pair x y ihx ihy=>
  simp only[ST.bits,as6]at h;simp only[dS];rw[vL,sA];split
  ·rename_i h1;simp only[ST.bits];rw[ihx h1,Mo h1]
  ·rename_i h1;simp only[ST.bits];rw[ihy E,Mp E]
theorem tB{t:ST}(ha:t.Avl)(hf:t.Fill){k:Nat}(hk:k<t.bits.length):
  (dS t k).Avl∧(dS t k).Less∧(dS t k).high≤t.high∧t.high≤(dS t k).high+1:=by
 induction t generalizing k with
 | leaf l=>
  obtain⟨h1,h2⟩:=hf;simp only[ST.bits]at hk;refine⟨trivial,?_,aA5 _,by simp[ST.high]⟩;simp only[dS,ST.Less];rw[eJ hk];omega
 | pair x y ihx ihy=>
  obtain⟨hx,hy,g1,g2⟩:=ha;obtain⟨f1,f2⟩:=hf;simp only[ST.bits,as6]at hk;have key:∀l r:ST,l.Avl→r.Avl→l.Less→r.Less→l.high≤x.high→x.high≤l.high+1→r.high≤y.high→y.high≤r.high+1→(l=x∨r=y)→
    (l.few=true→r=y∧x.high=0)→(r.few=true→l=x∧y.high=0)→
    (bal (cH (.pair l r))).Avl∧(bal (cH (.pair l r))).Less∧(bal (cH (.pair l r))).high≤max x.high y.high+1∧max x.high y.high+1≤(bal (cH (.pair l r))).high+1:=by
   intro l r hl hr fl fr e1 e2 e3 e4 hor hfl hfr;have hm:=zU hl hr fl fr (by rcases hor with rfl | rfl<;>omega) (by rcases hor with rfl | rfl<;>omega) (by
    intro hh
    rcases hh with hh | hh
    ·obtain⟨rfl,h0⟩:=hfl hh;have :=ST.few_high hh;omega
    ·obtain⟨rfl,h0⟩:=hfr hh;have :=ST.few_high hh;omega)
   obtain⟨m1,m2⟩:=hm;cases hmt:cH (.pair l r)with
   | leaf z=>
    rw[hmt]at m1 m2;refine⟨trivial,ST.Fill.less m1,by simp[bal,ST.high],?_⟩;obtain⟨m2,m3,m4⟩:=m2;simp only[bal,ST.high];rcases m4 with m4 | m4
    ·obtain⟨rfl,h0⟩:=hfl m4;omega
    ·obtain⟨rfl,h0⟩:=hfr m4;omega
   | pair a b=>
    rw[hmt]at m1 m2;simp only at m2;obtain⟨p1,p2,p3,p4,p5,⟨p6,p6',p7,p8,p9⟩,p10⟩:=m2;obtain⟨b1,b2,b3,b4⟩:=zM p1 p2 p3 p4;refine⟨b1,(vM m1.1 m1.2).less,E,?_⟩;rcases p9 with ⟨rfl,rfl⟩ | ⟨p9,p9',p11⟩
    ·by_cases hc:a.high≤b.high+1∧b.high≤a.high+1
     ·rw[b4 hc.1 hc.2];rcases hor with rfl | rfl<;>omega
     ·rcases hor with rfl | rfl<;>omega
    ·rw[b4 p9 p9'];rcases p11 with p11 | p11
     ·obtain⟨rfl,h0⟩:=hfl p11;omega
     ·obtain⟨rfl,h0⟩:=hfr p11;omega
  simp only[dS];split
  ·rename_i h1;obtain⟨i1,i2,i3,i4⟩:=ihx hx f1 h1;refine key _ _ i1 hy i2 f2.less i3 i4 (aA5 _) E (Ej rfl) (fun h=>⟨rfl,?_⟩) (fun h=>by rw[f2.not_few]at h;cases h);cases x with
   | leaf l=>rfl
   | pair c d=>
    exfalso;cases hd:dS (.pair c d) k with
    | leaf z=>
     have hb:=iY h1;rw[hd]at h hb;simp only[ST.bits]at hb;have hl:=f1.len;have hll:z.length=(ST.pair c d).bits.length-1:=by rw[hb];exact eJ h1
     simp only[ST.leaves,ST.bits]at hl hll;have :=c.leaves_pos;have :=d.leaves_pos;simp only[ST.few,aH2]at h;omega
    | pair e f=>rw[hd]at h;simp[ST.few]at h
  ·rename_i h1;obtain⟨i1,i2,i3,i4⟩:=ihy hy f2 (k:=k-x.bits.length) E;refine key _ _ hx i1 f1.less i2 (aA5 _) E i3 i4 (Ei rfl) (fun h=>by rw[f1.not_few]at h;cases h) (fun h=>⟨rfl,?_⟩);cases y with
   | leaf l=>rfl
   | pair c d=>
    exfalso;have h2:k-x.bits.length<(ST.pair c d).bits.length:=E;cases hd:dS (.pair c d) (k-x.bits.length)with
    | leaf z=>
     have hb:=iY h2;rw[hd]at h hb;simp only[ST.bits]at hb;have hl:=f2.len;have hll:z.length=(ST.pair c d).bits.length-1:=by rw[hb];exact eJ h2
     simp only[ST.leaves,ST.bits]at hl hll;have :=c.leaves_pos;have :=d.leaves_pos;simp only[ST.few,aH2]at h;omega
    | pair e f=>rw[hd]at h;simp[ST.few]at h
section
variable {a b l:List Bool}{k j:Nat}{x:Bool}
theorem tT(h:k<a.length):aR (a++b) k=aR a k:=by unfold aR;rw[aq9 h]
theorem tU(h:a.length≤k):aR (a++b) k=aR b (k-a.length):=by unfold aR;rw[ar0 h]
theorem vA(h:k≤a.length):aJ (a++b) k x=aJ a k x:=by unfold aJ;rw[az1 h]
theorem vB(h:a.length≤k):aJ (a++b) k x=a.count x+aJ b (k-a.length) x:=by
 unfold aJ;rw[List.take_append,ap8,az3 h]
theorem Lz(l:List Bool):l.count true+l.count false=l.length:=by
 have :=qX (l:=l) (k:=l.length) (aA5 _);simpa[aJ]using this
theorem count_le(l:List Bool)(x:Bool):l.count x≤l.length:=List.count_le_length
def mA(n ones:Int)(x:Bool):Int:=if x then ones else n-ones
theorem kX(l:List Bool)(x:Bool):mA l.length (l.count true) x=l.count x:=by
 have :=Lz l;cases x<;>simp[mA];omega
theorem Mk(h:k≤l.length):mA k (aJ l k true) x=aJ l k x:=by
 have :=qX h;cases x<;>simp[mA];omega
theorem pZ:∀(x:Bool) (l:List Bool) (j:Nat),j<l.count x→∃k,k<l.length∧l[k]?.getD false=x∧aJ l k x=j
 | x,[],j,h=>by simp at h
 | x,y::l,j,h=>by
  by_cases e:y=x
  ·subst e;cases j with
   | zero=>exact⟨0,Es,Es,by simp[aJ]⟩
   | succ j=>
    rw[List.count_cons_self]at h;obtain⟨k,h1,h2,h3⟩:=pZ y l j E;exact⟨k+1,by simp;omega,by simpa using h2,by unfold aJ at *;rw[List.take_succ_cons,List.count_cons_self,h3]⟩
  ·rw[List.count_cons_of_ne e]at h;obtain⟨k,h1,h2,h3⟩:=pZ x l j h;exact⟨k+1,by simp;omega,by simpa using h2,by unfold aJ at *;rw[List.take_succ_cons,List.count_cons_of_ne e,h3]⟩
theorem Nt(h:j<a.count x):cF (a++b) j x=cF a j x:=by
 obtain⟨k,h1,h2,h3⟩:=pZ x a j h;rw[fV h1 h2 (by rw[h3]),fV (l:=a++b) (k:=k) (by simp;omega) (by rw[aq9 h1];exact h2) (by rw[vA E,h3])]
theorem Nv(h:a.count x≤j)(h2:j<(a++b).count x):cF (a++b) j x=a.length+cF b ((j-a.count x:Nat):Int) x:=by
 rw[ap8]at h2;obtain⟨k,h1,h3,h4⟩:=pZ x b (j-a.count x) E;rw[fV h1 h3 (by rw[h4]),fV (l:=a++b) (k:=a.length+k) (by simp;omega) (by rw[ar0 E,Nat.add_sub_cancel_left];exact h3)
  (by rw[vB E,Nat.add_sub_cancel_left,h4];omega)]
 omega
end
def aY:Nat→Nat×Nat
 | 0=>(1,2)
 | h+1=>((aY h).2,(aY h).1+(aY h).2)
theorem lZ:∀h,1≤(aY h).1∧(aY h).1≤(aY h).2
 | 0=>by simp[aY]
 | h+1=>by have :=lZ h;simp only[aY];omega
theorem tY{h g:Nat}(hg:h≤g):(aY h).1≤(aY g).1:=by
 induction g with
 | zero=>
      obtain rfl:h=0:=E;exact aA5 _
 | succ g ih=>
  by_cases e:h=g+1
  ·subst e;exact aA5 _
  ·have :=ih E;have :=lZ g;simp only[aY];omega
theorem qL:∀{t:ST},t.Avl→(aY t.high).1≤t.leaves
 | .leaf l,_=>by simp[ST.high,ST.leaves,aY]
 | .pair a b,h=>by
  obtain⟨ha,hb,h1,h2⟩:=h;have ia:=qL ha;have ib:=qL hb;simp only[ST.high,ST.leaves];have key:∀x y:ST,x.high≤y.high→y.high≤x.high+1→(aY x.high).1≤x.leaves→(aY y.high).1≤y.leaves→(aY (y.high+1)).1≤x.leaves+y.leaves:=by
   intro x y h1 h2 hx hy;cases hh:y.high with
   | zero=>simp only[aY];have :=x.leaves_pos;have :=y.leaves_pos;omega
   | succ g=>
    rw[hh]at hy h2;have :=tY (h:=g) (g:=x.high) E;simp only[aY]at *;omega
  rcases Nat.le_total a.high b.high with h | h
  ·rw[Nat.max_eq_right h];exact key a b h h2 ia ib
  ·rw[Nat.max_eq_left h];have :=key b a h h1 ib ia;omega
def pth(s l:Nat):Nat:=s/2^(9-l)
def cV(s l:Nat):Bool:=decide (s/2^(8-l)%2=1)
def pF(b:Bool):Nat:=if b then 1 else 0
theorem fS{s:Nat}(h:s<512):pth s 0=0:=by unfold pth;exact Nat.div_eq_of_lt (by simpa using h)
theorem mZ(s:Nat):pth s 9=s:=by simp[pth]
theorem gP{s l:Nat}(h:l<9):pth s (l+1)=2*pth s l+pF (cV s l):=by
 unfold pth cV pF;rw[show 9-(l+1)=8-l by omega,show 9-l=(8-l)+1 by omega,aB9,←aA1];generalize s/2^(8-l)=y;by_cases h1:y%2=1
 ·simp[h1];omega
 ·simp[h1];omega
theorem yS{s l:Nat}(hs:s<512)(h:l≤9):pth s l<2^l:=by
 unfold pth;rw[Nat.div_lt_iff_lt_mul (aC6 _),←Nat.pow_add,show l+(9-l)=9 by omega];exact hs
def lvl(L:List Nat)(l π:Nat):List Bool:=(L.filter (fun s=>pth s l=π)).map (cV · l)
def bE(L:List Nat)(l π k:Nat):Nat:=((L.take k).filter (fun s=>pth s l=π)).length
theorem Ke(L:List Nat)(l π k:Nat):bE L l π k≤(lvl L l π).length:=by
 unfold bE lvl;rw[at1];exact List.Sublist.length_le ((az4 k L).filter _)
theorem lE{L:List Nat}(hL:∀s∈L,s<512)(k:Nat)(hk:k≤L.length):bE L 0 0 k=k:=by
 unfold bE;rw[List.filter_eq_self.2 (fun s hs=>by simpa using fS (hL s (List.mem_of_mem_take hs))),List.length_take];omega
theorem Xg{L:List Nat}(hL:∀s∈L,s<512):(lvl L 0 0).length=L.length:=by
 unfold lvl;rw[List.length_map,List.filter_eq_self.2 (fun s hs=>by simpa using fS (hL s hs))]
theorem Xf(L:List Nat)(l π k:Nat):lvl (L.take k) l π=(lvl L l π).take (bE L l π k):=by
 unfold lvl bE;rw[←av6];congr 1;have h:L.filter (fun s=>pth s l=π)=(L.take k).filter (fun s=>pth s l=π)++(L.drop k).filter (fun s=>pth s l=π):=by
  rw[←aq4,az0]
 rw[h,List.take_left]
theorem Qg(L:List Nat)(l:Nat)(hl:l<9)(π:Nat)(b:Bool):((L.filter (fun s=>pth s l=π)).filter (fun s=>cV s l=b))=L.filter (fun s=>pth s (l+1)=2*π+pF b):=by
 rw[List.filter_filter];congr 1;funext s;rw[gP hl];cases b<;>cases h:cV s l<;>simp[pF]<;>omega
theorem Ma(L:List Nat)(l:Nat)(b:Bool):(L.map (cV · l)).count b=(L.filter (fun s=>cV s l=b)).length:=by
 induction L with
 | nil=>rfl
 | cons s L ih=>
  simp only[at8,ap9,ih,aq5];by_cases h:cV s l=b<;>simp[h]
theorem kC(L:List Nat){l:Nat}(hl:l<9)(π k:Nat)(b:Bool):aJ (lvl L l π) (bE L l π k) b=bE L (l+1) (2*π+pF b) k:=by
 unfold aJ;rw[←Xf];unfold lvl;rw[Ma,Qg _ _ hl];rfl
def aV(L:List Nat)(k s:Nat):Nat:=(L.take k).count s
theorem Ap(L:List Nat)(s k:Nat):bE L 9 s k=aV L k s:=by
 unfold bE aV;rw[List.count_eq_length_filter];congr 1;congr 1;funext x;rw[mZ];by_cases h:x=s<;>simp[h]
theorem yK{L:List Nat}{k s:Nat}(hk:L[k]? =some s)(l:Nat):bE L l (pth s l) k<(lvl L l (pth s l)).length∧aR (lvl L l (pth s l)) (bE L l (pth s l) k)=cV s l:=by
 have hlt:=(ar5.1 hk).1;have hs:L[k]=s:=by rw[ar3 hlt]at hk;injection hk
 have hd:L=L.take k++s::L.drop (k+1):=by
  rw[←hs];simp
 have hf:L.filter (fun x=>pth x l=pth s l)=(L.take k).filter (fun x=>pth x l=pth s l)++s::(L.drop (k+1)).filter (fun x=>pth x l=pth s l):=by
  conv=>lhs;rw[hd]
  rw[aq4,aq5,aH9 Es]
 unfold lvl bE aR;rw[hf];constructor
 ·rw[at1,as6,as7];omega
 ·rw[at6,ar0 (by rw[at1];omega)];simp
theorem Zr{L:List Nat}{k s:Nat}(hk:L[k]? =some s){l:Nat}(hl:l<9):cF (lvl L l (pth s l)) ((bE L (l+1) (pth s (l+1)) k:Nat):Int) (cV s l)=(bE L l (pth s l) k:Nat):=by
 obtain⟨h1,h2⟩:=yK hk l;refine fV h1 h2 ?_;rw[kC L hl,gP hl]
theorem Qi(L:List Nat)(k s:Nat)(f:Nat→Bool)(hk:k≤L.length):(inL L k s).filter f=if f s then inL (L.filter f) ((L.take k).filter f).length s else L.filter f:=by
 have hL:L.filter f=(L.take k).filter f++(L.drop k).filter f:=by rw[←aq4,az0]
 unfold inL;rw[aq4,aq5];split
 ·rw[hL,List.take_left,List.drop_left]
 ·rw[hL]
theorem Md(L:List Nat)(k s:Nat)(f:Nat→Bool)(hk:L[k]? =some s):(aB L k).filter f=if f s then aB (L.filter f) ((L.take k).filter f).length else L.filter f:=by
 have hlt:=(ar5.1 hk).1;have hs:L[k]=s:=by rw[ar3 hlt]at hk;injection hk
 have hd:L=L.take k++s::L.drop (k+1):=by rw[←hs];simp
 have hL:L.filter f=(L.take k).filter f++(if f s then s::(L.drop (k+1)).filter f else (L.drop (k+1)).filter f):=by
  conv=>lhs;rw[hd]
  rw[aq4,aq5]
 unfold aB;rw[aq4];split
 ·next h=>rw[hL,aH9 h,List.take_left,aq0];simp
 ·next h=>rw[hL,aH8 h]
theorem map_in{α β:Type}(f:α→β)(L:List α)(k:Nat)(x:α):(inL L k x).map f=inL (L.map f) k (f x):=by simp[inL]
theorem af3{α β:Type}(f:α→β)(L:List α)(k:Nat):(aB L k).map f=aB (L.map f) k:=by simp[aB]
theorem Ri{L:List Nat}{k:Nat}(s:Nat)(hk:k≤L.length)(l π:Nat):lvl (inL L k s) l π=if pth s l=π then inL (lvl L l π) (bE L l π k) (cV s l)else lvl L l π:=by
 unfold lvl bE;rw[Qi L k s _ hk];by_cases h:pth s l=π
 ·simp only[h,decide_true,aI0];rw[map_in]
 ·simp only[h,decide_false,aH7];rfl
theorem Ks{L:List Nat}{k s:Nat}(hk:L[k]? =some s)(l π:Nat):lvl (aB L k) l π=if pth s l=π then aB (lvl L l π) (bE L l π k)else lvl L l π:=by
 unfold lvl bE;rw[Md L k s _ hk];by_cases h:pth s l=π
 ·simp only[h,decide_true,aI0];rw[af3]
 ·simp only[h,decide_false,aH7];rfl
section
open Go.RowKit
theorem sV{n:Int}(h0:0≤n)(h1:n<18446744073709551616):IntKind.u64.wrap n=n:=by rw[ao3];omega
theorem iX(a b:Nat)(ha:a<2^64)(hb:b<2^64):bits .and .u64 (a:Int) (b:Int)=((a&&&b:Nat):Int):=u64_and_nat a b ha hb
theorem Zz{x:Nat}(hx:x<2^64):IntKind.u64.wrap (bits .and .u64 ((x:Int)/2) 6148914691236517205+bits .and .u64 (x:Int) 6148914691236517205)=((st1 8 x:Nat):Int)∧st1 8 x<2^64:=by
 have e1:=iX (x/2) 6148914691236517205 E E;have e2:=iX x 6148914691236517205 hx E;have l1:x/2&&&6148914691236517205≤6148914691236517205:=Nat.and_le_right;have l2:x&&&6148914691236517205≤6148914691236517205:=Nat.and_le_right;have es:st1 8 x=(x/2&&&6148914691236517205)+(x&&&6148914691236517205):=rfl;rw[es];rw[show ((x/2:Nat):Int)=(x:Int)/2 by omega]at e1;rw[show ((6148914691236517205:Nat):Int)=6148914691236517205 from rfl]at e1 e2;rw[e1,e2];generalize (x/2&&&6148914691236517205)=p at *;generalize (x&&&6148914691236517205)=q at *;exact⟨by rw[sV E E];omega,E⟩
theorem aa1{x:Nat}(hx:x<2^64):IntKind.u64.wrap (bits .and .u64 ((x:Int)/4) 3689348814741910323+bits .and .u64 (x:Int) 3689348814741910323)=((st2 8 x:Nat):Int)∧st2 8 x<9223372036854775808:=by
 have e1:=iX (x/4) 3689348814741910323 E E;have e2:=iX x 3689348814741910323 hx E;have l1:x/4&&&3689348814741910323≤3689348814741910323:=Nat.and_le_right;have l2:x&&&3689348814741910323≤3689348814741910323:=Nat.and_le_right;have es:st2 8 x=(x/4&&&3689348814741910323)+(x&&&3689348814741910323):=rfl;rw[es];rw[show ((x/4:Nat):Int)=(x:Int)/4 by omega]at e1;rw[show ((3689348814741910323:Nat):Int)=3689348814741910323 from rfl]at e1 e2;rw[e1,e2];generalize (x/4&&&3689348814741910323)=p at *;generalize (x&&&3689348814741910323)=q at *;exact⟨by rw[sV E E];omega,E⟩
theorem aa3{x:Nat}(hx:x<9223372036854775808):bits .and .u64 (IntKind.u64.wrap ((x:Int)/16+(x:Int))) 1085102592571150095=((st3 8 x:Nat):Int):=by
 rw[sV E E];have e1:=iX (x/16+x) 1085102592571150095 E E;rw[show ((x/16+x:Nat):Int)=(x:Int)/16+x by omega,show ((1085102592571150095:Nat):Int)=1085102592571150095 from rfl]at e1;rw[e1];rfl
theorem Ig(a b:Nat)(ha:a<2^63)(hb:b<2^63):bits .and .i64 (a:Int) (b:Int)=((a&&&b:Nat):Int):=by
 have hx:a&&&b<2^63:=Nat.and_lt_two_pow _ hb;have h1:(BitVec.ofInt 64 (a:Int)).toNat=a:=by
  rw[BitVec.ofInt_natCast,BitVec.toNat_ofNat];exact aB3 E
 have h2:(BitVec.ofInt 64 (b:Int)).toNat=b:=by
  rw[BitVec.ofInt_natCast,BitVec.toNat_ofNat];exact aB3 E
 show IntKind.i64.wrap ((BitVec.ofInt 64 (a:Int)&&&BitVec.ofInt 64 (b:Int)).toNat:Int)=_;rw[BitVec.toNat_and,h1,h2];exact ao4 _ E
theorem Qk{x t:Nat}(ht:t*31<2^64)(h:lY t%256=pc x 64):
  bits .and .i64 ((t:Int)+t/256+(t+t/256)/65536+(t+t/256+(t+t/256)/65536)/4294967296) 127=((pc x 64:Nat):Int):=by
 have e:((t:Int)+t/256+(t+t/256)/65536+(t+t/256+(t+t/256)/65536)/4294967296)=((lY t:Nat):Int):=by
  simp[lY]
 have hl:lY t<2^63:=by unfold lY;omega
 have h64:=eA x 64;rw[e,show (127:Int)=((127:Nat):Int)from rfl,Ig _ _ hl E,show (127:Nat)=2^7-1 from rfl,Nat.and_two_pow_sub_one_eq_mod];omega
theorem Yd(x:Nat)(w:World)(hx:x<2^64):
  Calls Tryz.prog 252 #[.int .u64 x] w fun e w'=>e= .returned (.int .i64 (pc x 64))∧w=w':=by
 have hx':(x:Int)<18446744073709551616:=E;have hx0:(0:Int)≤x:=E;have k1:=Zz hx;have k2:=aa1 k1.2;have k3:=aa3 k2.2;have k4:lY (st3 8 (st2 8 (st1 8 x)))%256=pc x 64:=by rw[Uc];exact Me x
 have k5:st3 8 (st2 8 (st1 8 x))*31<2^64:=by rw[Uc];exact Hl 8 x
 have K1:=θ k1.1;have K2:=θ k2.1;have K3:=θ k3;have K4:=θ k4;clear k1 k2 k3 k4;go_enter Tryz.func252,Tryz.ntmps252;go_upto_region 1 with fail
 go_cut [0] (fun v wx=>v= .int .u64 (st1 8 x)∧w=wx);case first=>
  go_wp2_with fail;go_meet;case rel=>exact⟨by rw[K1.out],rfl⟩
 case rest=>
 obtain⟨rfl,rfl⟩:=hcut;clear hx hx' hx0 K1;generalize st1 8 x=y at *;go_upto_region 2 with fail
 go_cut [0] (fun v wx=>v= .int .u64 (st2 8 y)∧w=wx);case first=>
  go_wp2_with fail;go_meet;case rel=>exact⟨by rw[K2.out],rfl⟩
 case rest=>
 obtain⟨rfl,rfl⟩:=hcut;clear K2;generalize st2 8 y=z at *;go_upto_region 3 with fail
 go_cut [0] (fun v wx=>v= .int .u64 (st3 8 z)∧w=wx);case first=>
  go_wp2_with fail;go_meet;case rel=>exact⟨by rw[K3.out],rfl⟩
 case rest=>
 obtain⟨rfl,rfl⟩:=hcut;clear K3;generalize st3 8 z=t at *;have KF:=θ (Qk k5 K4.out);have t0:(0:Int)≤t:=E;have t1:(t:Int)≤595056260442243600:=E;clear k5;go_wp2_with fail;go_ret;exact⟨aT KF.out,rfl⟩
def BitTab(w:World):Prop:=TabAt 0 Lib.deBruijn64tab w
theorem BitTab.below {w w':World}{B:Nat}(h:BitTab w)(hb:Below B w w')(hB:0<B):BitTab w':=fun j hj=>(hb.cell (p:=⟨0,j,none⟩) hB).trans (h j hj)
theorem BitTab.below' {w w':World}(h:BitTab w)(hb:Below w.heap.size w w'):BitTab w':=h.below hb (aF8 w _ (h 0 Ed))
theorem BitTab.lt {w:World}(h:BitTab w):0<w.heap.size:=aF8 w _ (h 0 Ed)
theorem al1(x k idx:Nat)(w:World)(hx0:((x:Int)==0)=false)
  (key:IntKind.u64.wrap (bits BinOp.and IntKind.u64 (x:Int) (IntKind.u64.wrap (-(x:Int)))*285870213051353865)/288230376151711744=(idx:Int))
  (hi:idx<64) (hk:k<64) (hcell:w.cell? ⟨0,idx,none⟩=some (.int .u8 k)):
  Calls Tryz.prog 253 #[.int .u64 x] w fun e w'=>e= .returned (.int .i64 k)∧w=w':=by
 have KEY:=θ key;clear key;go_enter Tryz.func253,Tryz.ntmps253;go_wp2_with (simp only[KEY.out]);go_ret;exact⟨rfl,rfl⟩
theorem tz_any(x:Nat)(w:World)(hx:x<2^64)(h0:x≠0)(hT:BitTab w):
  Calls Tryz.prog 253 #[.int .u64 x] w fun e w'=>e= .returned (.int .i64 (Lib.ctz 64 x))∧w=w':=by
 obtain⟨hlow,hk⟩:=Lib.lowest_bit 64 x h0 hx;obtain⟨hi,htab⟩:=Lib.deBruijn64_at _ hk;have hcell:=hT _ hi;rw[htab]at hcell;exact al1 x _ _ w (by simp;omega) (tz64_key x _ hx h0 hlow) hi hk hcell
def pcs(ws:List Nat):Nat:=(ws.map fun x=>pc x 64).sum
theorem Yy{ws:List Nat}{k:Nat}(h:k<ws.length):pcs (ws.take (k+1))=pcs (ws.take k)+pc (ws[k]?.getD 0) 64:=by
 unfold pcs;rw[ay9,ar3 h,at6,ay8];simp[-List.map_take]
theorem pcs_le(ws:List Nat):pcs ws≤64*ws.length:=by
 induction ws with
 | nil=>simp[pcs]
 | cons x l ih=>have :=eA x 64;simp only[pcs,at8,List.sum_cons,as7]at *;omega
def natI(n:Nat):Int:=n
theorem As(a:Option Addr)(c:Nat)(ws:List Nat)(w:World)(hr:Reads w .u64 a (ws.map natI))(hw:∀x∈ws,x<2^64)(hl:ws.length≤1000000000000000):
  Calls Tryz.prog 238 #[.slice a ws.length c] w fun e w'=>e= .returned (.int .i64 (pcs ws))∧w=w':=by
 go_enter Tryz.func238,Tryz.ntmps238;go_wp2_with fail;go_loop [3,8] (fun n i=>∃k:Nat,k≤ws.length∧i= .int .i64 k∧n= .int .i64 (pcs (ws.take k))) (fun _ i=>ws.length-(intOf i).toNat);case atStart=>exact⟨0,aC8 _,rfl,rfl⟩
 case round=>
  obtain⟨k,hk,rfl,rfl⟩:=hrel;have hp:=pcs_le (ws.take k);rw[at5]at hp;by_cases hlt:k<ws.length
  ·obtain⟨b,off,rfl,hbl,hcells⟩:=hr.some (by simpa using Nat.lt_of_le_of_lt (Nat.zero_le _) hlt);have hc:=hcells k (by simpa using hlt);rw[ar6,ar3 hlt]at hc;simp only[aD3,aD0,natI]at hc;have hx:=hw _ (as3 hlt);have hst:=Yy hlt;rw[ar3 hlt,aD0]at hst;have HST:=θ hst;generalize ws[k]=x at *;have h64:=eA x 64;clear hst hcells hr hw;generalize pcs (ws.take k)=s at *;go_wp2_with (go_at_call 252;refine(Yd x _ hx).mono ?_;rintro e w' ⟨rfl,rfl⟩);go_round;case rel=>exact⟨k+1,E,by go_num,by rw[HST.o];go_num⟩
   case measure=>simp[intOf];omega
  ·have hkn:k=ws.length:=E;clear hr;go_wp2_with fail;go_ret;exact⟨rfl,rfl⟩
theorem gH(x:Nat)(w:World)(b off c:Nat)(hc:w.cell? ⟨b,off,none⟩=some (.int .u64 x))(hx:x<2^64):
  Calls Tryz.prog 238 #[.slice (some ⟨b,off,none⟩) 1 c] w fun e w'=>e= .returned (.int .i64 (pc x 64))∧w=w':=by
 have :=As (some ⟨b,off,none⟩) c [x] w (Sx hc) (by simpa using hx) Es;simpa[pcs]using this
def gC(w:Nat)(k:Int):Nat:=if 64≤k then w else w%2^k.toNat
theorem ae8{w:Nat}(h:w<2^64)(k:Int):gC w k<2^64:=by
 unfold gC;split
 ·exact h
 ·exact aA8 (Nat.mod_le _ _) h
theorem iE{k:Nat}(h:k<64):(2:Nat)^k≤9223372036854775808:=aB8 (n:=2) (i:=k) (j:=63) E E
theorem pI(k:Nat):(2:Int)^k=((2^k:Nat):Int):=Es
theorem Ws{x:Nat}{k:Int}(hx:x<2^64)(h0:0<k)(h1:k<64):bits .and .u64 (x:Int) (IntKind.u64.wrap (IntKind.u64.wrap ((2:Int)^k.toNat)-1))=((gC x k:Nat):Int):=by
 have h2:=iE (k:=k.toNat) E;have h3:=aC6 k.toNat;have e1:IntKind.u64.wrap (((2^k.toNat:Nat):Int))=((2^k.toNat:Nat):Int):=sV E E;have e2:IntKind.u64.wrap (((2^k.toNat:Nat):Int)-1)=((2^k.toNat:Nat):Int)-1:=sV E E;rw[pI,e1,e2,show (((2^k.toNat:Nat):Int)-1)=((2^k.toNat-1:Nat):Int) by omega,iX _ _ hx E,Nat.and_two_pow_sub_one_eq_mod];unfold gC;rw[aH8 E]
theorem pc_low{x:Nat}(hx:x<2^64)(k:Int):pc (gC x k) 64=pc x (min k.toNat 64):=by
 unfold gC;split
 ·congr 1;omega
 ·have e:min k.toNat 64=k.toNat:=E;rw[e,pc_ge (aB4 x (aC6 k.toNat)) E];exact Fe (fun i hi=>by rw[aC3];simp[hi])
theorem tC(x:Nat)(k:Int)(w:World)(hx:x<2^64):
  Calls Tryz.prog 254 #[.int .u64 x, .int .i64 k] w fun e w'=>e= .returned (.int .u64 (gC x k))∧w=w':=by
 by_cases h0:k≤0
 ·have hR:Hid ((0:Int)=(gC x k:Nat)):=by
   show _=_;have :k.toNat=0:=E;unfold gC;rw[aH8 E,this];simp[Nat.mod_one]
  go_enter Tryz.func254,Tryz.ntmps254;go_wp2_with fail;go_ret;exact⟨aT hR.out,rfl⟩
 ·by_cases h64:64≤k
  ·have hR:Hid ((x:Int)=(gC x k:Nat)):=by
    show _=_;unfold gC;rw[aH9 h64]
   go_enter Tryz.func254,Tryz.ntmps254;go_wp2_with fail;go_ret;exact⟨aT hR.out,rfl⟩
  ·go_enter Tryz.func254,Tryz.ntmps254;go_wp2_with fail;go_ret;exact⟨aT (Ws hx E E),rfl⟩
theorem Zb(x:Nat)(k:Int)(w:World)(hx:x<2^64):
  Calls Tryz.prog 243 #[.int .u64 x, .int .i64 k] w fun e w'=>e= .returned (.int .i64 (pc x (min k.toNat 64)))∧Below w.heap.size w w':=by
 have hl:=ae8 hx k;have hR:=θ (pc_low hx k);go_enter Tryz.func243,Tryz.ntmps243;go_wp2_with fail;refine(tC x k _ hx).mono ?_;rintro e w' ⟨rfl,rfl⟩;generalize gC x k=y at *;go_wp2_with fail;refine(gH y _ _ _ _ (by simp[go_sem]) hl).mono ?_;rintro e w' ⟨rfl,rfl⟩;go_wp2_with fail;go_ret;exact⟨aT (by rw[hR.out]),(am4 _ _).alloc (aA5 _) _⟩
theorem Nx(x:Nat)(j:Int)(w:World)(hx:x<2^64)(hT:BitTab w):
  Calls Tryz.prog 239 #[.int .u64 x, .int .i64 j] w fun e w'=>e= .returned (.int .i64 (sel x j))∧Below w.heap.size w w':=by
 by_cases h0:j<0
 ·have hR:=θ (Gj (w:=x) (j:=j) (Ei h0));go_enter Tryz.func239,Tryz.ntmps239;go_wp2_with fail;go_ret;exact⟨aT hR.out.symm,am4 _ _⟩
 ·have hp:=eA x 64;by_cases h1:j<(pc x 64:Nat)
  ·obtain⟨n,rfl⟩:=am8 (show 0≤j by omega);have hg0:=Qq hx;have hn:n<pc x 64:=E;have HN:=θ hn;have HX:=θ hx;have HT:=θ hT;have hm:(pc x 64:Int)≤64:=E;clear hn hT;go_enter Tryz.func239,Tryz.ntmps239;go_wp2_with fail;refine(gH x _ _ _ _ (by simp[go_sem]) hx).mono ?_;rintro e w' ⟨rfl,rfl⟩;go_wp2_with fail;have hT2:BitTab (w.alloc (.cells #[.int .u64 x] 69)):=HT.o.below' ((am4 _ _).alloc (aA5 _) _);have hB2:Below w.heap.size w (w.alloc (.cells #[.int .u64 x] 69)):=(am4 _ _).alloc (aA5 _) _;generalize w.alloc (.cells #[.int .u64 x] 69)=w2 at *;clear hx;go_loop [0,15] (fun v i=>∃k y:Nat,k≤n∧i= .int .i64 k∧v= .int .u64 y∧zL x k y) (fun _ i=>n-(intOf i).toNat);case atStart=>exact⟨0,x,aC8 _,rfl,rfl,hg0⟩
   case round=>
    obtain⟨k,y,hk,rfl,rfl,hg⟩:=hrel;by_cases hlt:k<n
    ·obtain⟨c,_,hy0,_,_,_,_⟩:=qQ HX.o hg (by have :=HN.o;omega);have hs:=Qp HX.o hg (by have :=HN.o;omega);have hy:=hg.1;have ea:bits .and .u64 (y:Int) ((y:Int)-1)=((y&&&(y-1):Nat):Int):=by
      rw[show (y:Int)-1=((y-1:Nat):Int) by omega];exact iX y (y-1) hy E
     have HA:=θ ea;have HS:=θ hs;clear hg hs ea hg0 h1;go_wp2_with fail;go_round;case rel=>exact⟨k+1,y&&&(y-1),E,by go_num,by rw[HA.o],HS.o⟩
     case measure=>simp[intOf];omega
    ·obtain rfl:k=n:=E;have hn:=HN.o;have hy0:y≠0:=by obtain⟨c,_,h,_⟩:=qQ HX.o hg hn;exact h
     have hselout:=θ (Wf HX.o hg hn);have hy:=hg.1;clear hg hn hg0 h1;go_wp2_with fail;refine(tz_any y _ hy hy0 hT2).mono ?_;rintro e w' ⟨rfl,rfl⟩;go_wp2_with fail;go_ret;exact⟨aT hselout.out,hB2⟩
  ·have hR:=θ (Gj (w:=x) (j:=j) (Ej E));have hm:(pc x 64:Int)≤64:=E;go_enter Tryz.func239,Tryz.ntmps239;go_wp2_with fail;refine(gH x _ _ _ _ (by simp[go_sem]) hx).mono ?_;rintro e w' ⟨rfl,rfl⟩;go_wp2_with fail;go_ret;exact⟨aT hR.out.symm,(am4 _ _).alloc (aA5 _) _⟩
theorem yU{k:IntKind}{a a':Int}{b b':Bool}(h:a=a')(h':b=b'):Ending.returned (.tuple #[.int k a, .bool b])=Ending.returned (.tuple #[.int k a', .bool b']):=by rw[h,h']
theorem pU(a b:Nat)(ha:a<2^64)(hb:b<2^64):bits .or .u64 (a:Int) (b:Int)=((a|||b:Nat):Int):=u64_or_nat a b ha hb
theorem xN(a b:Nat)(ha:a<2^64)(hb:b<2^64):bits .andNot .u64 (a:Int) (b:Int)=((a&&&(2^64-1-b):Nat):Int):=u64_andNot_nat a b ha hb
theorem Hs(a:Nat):IntKind.u64.wrap (a:Int)=((a%2^64:Nat):Int):=by rw[ao3];omega
theorem Fj{x y k n:Nat}{b:Bool}(hx:x<2^64)(hk:k<64)(hy:x%2^k=y)(hn:n=if b then 2^k else 0):
  bits .or .u64 (bits .or .u64 (y:Int) (n:Int)) (IntKind.u64.wrap (bits .andNot .u64 (x:Int) (y:Int)*2))=((oA x k b:Nat):Int):=by
 have h2:=iE hk;have hyl:y<2^64:=by rw[←hy];exact aA8 (Nat.mod_le _ _) hx
 have hnl:n<2^64:=by rw[hn];split<;>omega
 have hol:y|||n<2^64:=aB7 hyl hnl
 rw[xN _ _ hx hyl,show (((x&&&(2^64-1-y):Nat):Int)*2)=((((x&&&(2^64-1-y))*2:Nat)):Int) by omega,Hs,pU _ _ hyl hnl,pU _ _ hol (aB4 _ (aC6 _))];rw[←put_eq b hk hx,hy,←hn]
theorem Lv{x:Nat}(hx:x<2^64):((x:Int)/9223372036854775808==1)=x.testBit 63:=by
 rw[←al0 hx,am6];simp only[aG6,aH2];have :(2:Nat)^63=9223372036854775808:=Ed;rw[this];omega
theorem xD(x k:Nat)(b:Bool)(w:World)(hx:x<2^64)(hk:k<64):
  Calls Tryz.prog 264 #[.int .u64 x, .int .i64 k, .bool b] w fun e w'=>e= .returned (.tuple #[.int .u64 (oA x k b), .bool (x.testBit 63)])∧w=w':=by
 have el:gC x k=x%2^k:=by unfold gC;rw[aH8 E];rfl
 have hp:=iE hk;have hpw:IntKind.u64.wrap ((2:Int)^k)=((2^k:Nat):Int):=by rw[pI,sV E E]
 have B1:=θ (Lv hx);have PF:=θ (Fj (b:=false) (n:=0) hx hk rfl rfl);have PT:=θ (Fj (b:=true) (n:=2^k) hx hk rfl rfl);have HPW:=θ hpw;have EL:=θ el;clear el hpw hp;cases b;all_goals
  go_enter Tryz.func264,Tryz.ntmps264;go_wp2_with fail;refine(tC x k _ hx).mono ?_;rintro e w' ⟨rfl,rfl⟩;rw[EL.out];generalize x%2^k=y at *;go_wp2_with fail;go_ret2
 ·exact⟨yU PF.out B1.out,rfl⟩
 ·exact⟨yU (by rw[HPW.o];exact PT.out) B1.out,rfl⟩
theorem Dz{x y z k n:Nat}{b:Bool}(hx:x<2^64)(hk:k<64)(hy:x%2^k=y)(hz:x/2%2^k=z)(hn:n=if b then 2^63 else 0):
  bits .or .u64 (bits .or .u64 (y:Int) (bits .andNot .u64 ((x:Int)/2) (z:Int))) (n:Int)=((kG x k b:Nat):Int):=by
 have hyl:y<2^64:=by rw[←hy];exact aA8 (Nat.mod_le _ _) hx
 have hzl:z<2^64:=by rw[←hz];exact aA8 (Nat.mod_le _ _) E
 have hnl:n<2^64:=by rw[hn];split<;>omega
 have hal:x/2&&&(2^64-1-z)<2^64:=aA8 Nat.and_le_left E;rw[show ((x:Int)/2)=((x/2:Nat):Int) by omega,xN _ _ E hzl,pU _ _ hyl hal,pU _ _ (aB7 hyl hal) hnl];rw[←cut_eq b hk hx,hy,hz,←hn]
theorem rP{x k:Nat}(hx:x<2^64)(hk:k<64):(bits .and .u64 ((x:Int)/2^k) 1==1)=x.testBit k:=by
 rw[show ((x:Int)/2^k)=((x/2^k:Nat):Int) by simp,show (1:Int)=((1:Nat):Int)from rfl,iX _ _ (aA8 (Nat.div_le_self _ _) hx) E,←Zx x k,am6];simp only[aG6,aH2];omega
theorem Wc(x k:Nat)(b:Bool)(w:World)(hx:x<2^64)(hk:k<64):
  Calls Tryz.prog 255 #[.int .u64 x, .int .i64 k, .bool b] w fun e w'=>e= .returned (.tuple #[.int .u64 (kG x k b), .bool (x.testBit k)])∧w=w':=by
 have el:gC x k=x%2^k:=by unfold gC;rw[aH8 E];rfl
 have el2:gC (x/2) k=x/2%2^k:=by unfold gC;rw[aH8 E];rfl
 have hx2:x/2<2^64:=E;have ed:(x:Int)/2=((x/2:Nat):Int):=E;have B1:=θ (rP hx hk);have CF:=θ (Dz (b:=false) (n:=0) hx hk rfl rfl rfl);have CT:=θ (Dz (b:=true) (n:=2^63) hx hk rfl rfl rfl);have EL:=θ el;have EL2:=θ el2;have ED:=θ ed;clear el el2 ed;cases b;all_goals
  go_enter Tryz.func255,Tryz.ntmps255;go_wp2_with fail;refine(tC x k _ hx).mono ?_;rintro e w' ⟨rfl,rfl⟩;rw[EL.out];generalize x%2^k=y at *;go_wp2_with fail;rw[ED.out];refine(tC (x/2) k _ hx2).mono ?_;rintro e w' ⟨rfl,rfl⟩;rw[EL2.out];generalize x/2%2^k=z at *;go_wp2_with fail;go_ret2
 ·exact⟨yU CF.out B1.out,rfl⟩
 ·exact⟨yU CT.out B1.out,rfl⟩
theorem ai1{X K Y:Int}{b c:Bool}(x k:Nat)(w:World)(hx:x<2^64)(hk:k<64)(eX:X=(x:Int))(eK:K=(k:Int))(eY:((oA x k b:Nat):Int)=Y)(ec:x.testBit 63=c):
  Calls Tryz.prog 264 #[.int .u64 X, .int .i64 K, .bool b] w fun e w'=>e= .returned (.tuple #[.int .u64 Y, .bool c])∧w=w':=by
 subst eX eK eY ec;exact xD x k b w hx hk
theorem zR{X K Y:Int}{b c:Bool}(x k:Nat)(w:World)(hx:x<2^64)(hk:k<64)(eX:X=(x:Int))(eK:K=(k:Int))(eY:((kG x k b:Nat):Int)=Y)(ec:x.testBit k=c):
  Calls Tryz.prog 255 #[.int .u64 X, .int .i64 K, .bool b] w fun e w'=>e= .returned (.tuple #[.int .u64 Y, .bool c])∧w=w':=by
 subst eX eK eY ec;exact Wc x k b w hx hk
theorem Fq{X K Y:Int}(x:Nat)(w:World)(hx:x<2^64)(eX:X=(x:Int))(eY:((pc x (min K.toNat 64):Nat):Int)=Y):
  Calls Tryz.prog 243 #[.int .u64 X, .int .i64 K] w fun e w'=>e= .returned (.int .i64 Y)∧Below w.heap.size w w':=by
 subst eX eY;exact Zb x K w hx
theorem mE{X K Y:Int}(x:Nat)(w:World)(hx:x<2^64)(hT:BitTab w)(eX:X=(x:Int))(eY:sel x K=Y):
  Calls Tryz.prog 239 #[.int .u64 X, .int .i64 K] w fun e w'=>e= .returned (.int .i64 Y)∧Below w.heap.size w w':=by
 subst eX eY;exact Nx x K w hx hT
theorem Qe{a:Option Addr}{n c:Nat}{Y:Int}(ws:List Nat)(w:World)(hn:n=ws.length)(hr:Reads w .u64 a (ws.map natI))(hw:∀x∈ws,x<2^64)(hl:ws.length≤1000000000000000)(eY:(pcs ws:Int)=Y):
  Calls Tryz.prog 238 #[.slice a n c] w fun e w'=>e= .returned (.int .i64 Y)∧w=w':=by
 subst hn eY;exact As a c ws w hr hw hl
theorem aN(w:World)(o:Obj):Below w.heap.size w (w.alloc o):=(am4 _ _).alloc (aA5 _) _
theorem af6{x:Nat}(hx:x<2^64):bits .xor .u64 18446744073709551615 (x:Int)=((cE x:Nat):Int):=by
 have h:=u64_xor_nat 18446744073709551615 x E hx;rw[show ((18446744073709551615:Nat):Int)=18446744073709551615 from rfl]at h;rw[h];congr 1;refine dG (n:=64) (Nat.xor_lt_two_pow E hx) (Kz x) (fun i hi=>?_);rw[Nat.testBit_xor,Ez hx hi,show (18446744073709551615:Nat)=2^64-1 from rfl,Nat.testBit_two_pow_sub_one];simp[hi]
theorem Ld{x:Nat}(hx:x<2^64):Op.unary .xor (.int .u64 (x:Int))=pure (.int .u64 ((cE x:Nat):Int)):=by
 have h:Op.unary .xor (.int .u64 (x:Int))=pure (.int .u64 (bits .xor .u64 IntKind.u64.max (x:Int))):=rfl;rw[h,show IntKind.u64.max=18446744073709551615 by decide,af6 hx]
def IsBlock(w:World)(p:Nat)(l:List Bool):Prop:=
 l.length≤128∧w.heap[p]? =some (.cells #[.int .i64 l.length, .int .u64 (loW l), .int .u64 (hiW l)] 242 (0,0))
section
variable {w w':World}{p:Nat}{l:List Bool}
theorem IsBlock.lt (h:IsBlock w p l):p<w.heap.size:=(am0.1 h.2).1
theorem IsBlock.chg {S:Nat→Prop}(h:IsBlock w p l)(hc:Chg S w w')(hn:¬S p):IsBlock w' p l:=⟨h.1,hc.heap h.2 hn⟩
theorem IsBlock.below {B:Nat}(h:IsBlock w p l)(hb:Below B w w')(hp:p<B):IsBlock w' p l:=⟨h.1,(hb.block p hp).trans h.2⟩
theorem IsBlock.below' (h:IsBlock w p l)(hb:Below w.heap.size w w'):IsBlock w' p l:=h.below hb h.lt
theorem IsBlock.cells (h:IsBlock w p l):w.cell? ⟨p,0,none⟩=some (.int .i64 l.length)∧w.cell? ⟨p,1,none⟩=some (.int .u64 (loW l))∧w.cell? ⟨p,2,none⟩=some (.int .u64 (hiW l))∧∀j,w.frozen? ⟨p,j,none⟩=false:=
 ⟨by rw[aG7 w p 0 _ _ _ h.2];rfl,by rw[aG7 w p 1 _ _ _ h.2];rfl,by rw[aG7 w p 2 _ _ _ h.2];rfl,fun j=>aH3 w p j _ _ h.2⟩
end
theorem xS{w:World}{p:Nat}{l:List Bool}(h:IsBlock w p l):Calls Tryz.prog 249 #[.pointer (some ⟨p,0,none⟩)] w fun e w'=>e= .returned (.int .i64 l.length)∧w=w':=by
 obtain⟨h0,_⟩:=h.cells;go_enter Tryz.func249,Tryz.ntmps249;go_wp2_with fail;go_ret;exact⟨rfl,rfl⟩
def dZ(l:List Bool)(k:Int):Int:=if 0≤k∧k<l.length then 0 else 2
theorem xR{w:World}{p:Nat}{l:List Bool}(h:IsBlock w p l)(k:Int):Calls Tryz.prog 231 #[.pointer (some ⟨p,0,none⟩), .int .i64 k] w fun e w'=>e= .returned (.int .i64 (dZ l k))∧w=w':=by
 obtain⟨h0,_⟩:=h.cells;by_cases h1:k<0
 ·have hR:=θ (show (2:Int)=dZ l k by unfold dZ;rw[aH8 E]);go_enter Tryz.func231,Tryz.ntmps231;go_wp2_with fail;go_ret;exact⟨aT hR.out,rfl⟩
 ·by_cases h2:k<l.length
  ·have hR:=θ (show (0:Int)=dZ l k by unfold dZ;rw[aH9 E]);have d:decide ((l.length:Int)≤k)=false:=by simp;omega
   go_enter Tryz.func231,Tryz.ntmps231;go_wp2_with fail;go_ret;exact⟨aT hR.out,rfl⟩
  ·have hR:=θ (show (2:Int)=dZ l k by unfold dZ;rw[aH8 E]);have d:decide ((l.length:Int)≤k)=true:=by simp;omega
   go_enter Tryz.func231,Tryz.ntmps231;go_wp2_with fail;go_ret;exact⟨aT hR.out,rfl⟩
theorem Gb{k:IntKind}{b b':Bool}{a a':Int}(h:b=b')(h':a=a'):Ending.returned (.tuple #[.bool b, .int k a])=Ending.returned (.tuple #[.bool b', .int k a']):=by rw[h,h']
theorem Pt{w:World}{p:Nat}{l:List Bool}(h:IsBlock w p l)(k:Nat)(hk:k<l.length):
  Calls Tryz.prog 208 #[.pointer (some ⟨p,0,none⟩), .int .i64 k] w fun e w'=>e= .returned (.tuple #[.bool (aR l k), .int .i64 0])∧w=w':=by
 obtain⟨h0,h1,h2,_⟩:=h.cells;have hR:dZ l k=0:=by unfold dZ;rw[aH9 E]
 have hm:=h.1;have HR:=θ hR;have HB:=θ h;clear hR h;by_cases hk64:k<64
 ·have b1:=rP (cZ l) hk64;rw[cJ hk64]at b1;have B1:=θ b1;have q1:(k:Int)/64=0:=E;have q2:(k:Int)%64=k:=E;clear b1 h2;go_enter Tryz.func208,Tryz.ntmps208;go_wp2_with fail;refine(xR HB.o k).mono ?_;rintro e w' ⟨rfl,rfl⟩;rw[HR.o];go_wp2_with fail;go_ret2;exact⟨Gb B1.out rfl,rfl⟩
 ·obtain⟨m,rfl⟩:=aA3 (show 64≤k by omega);have hm64:m<64:=E;have b1:=rP (cY l) hm64;rw[cI hm64]at b1;have B1:=θ b1;have q1:((64+m:Nat):Int)/64=1:=E;have q2:((64+m:Nat):Int)%64=m:=E;clear b1 h1;generalize hg:64+m=k at *;have HG:=θ hg;clear hg;go_enter Tryz.func208,Tryz.ntmps208;go_wp2_with fail;refine(xR HB.o k).mono ?_;rintro e w' ⟨rfl,rfl⟩;rw[HR.o];go_wp2_with fail;go_ret2;exact⟨Gb B1.out rfl,rfl⟩
theorem ad2{w:World}{p:Nat}{l:List Bool}(h:IsBlock w p l):Calls Tryz.prog 256 #[.pointer (some ⟨p,0,none⟩)] w fun e w'=>e= .returned (.int .i64 (l.count true))∧w=w':=by
 obtain⟨h0,h1,h2,_⟩:=h.cells;have hc:pcs [loW l,hiW l]=l.count true:=by simp[pcs];exact ag6 h.1
 have HC:=θ hc;have hr:Reads w .u64 (some ⟨p,1,none⟩) ([loW l,hiW l].map natI):=by
  intro i hi;refine⟨p,1,rfl,h.lt,fun j hj=>?_⟩;match j,hj with
  | 0,_=>exact h1
  | 1,_=>exact h2
 have HR:=θ hr;clear hr hc h0 h1 h2;go_enter Tryz.func256,Tryz.ntmps256;go_wp2_with fail;refine(Qe (Y:=(l.count true:Int)) [loW l,hiW l] _ rfl HR.o (by intro x hx;simp only[av9,ay0,aI5]at hx;rcases hx with rfl | rfl;exact cZ l;exact cY l) Es (by rw[HC.o])).mono ?_;rintro e w' ⟨rfl,rfl⟩;go_wp2_with fail;go_ret;exact⟨rfl,rfl⟩
theorem Zc{l:List Bool}{K:Nat}(h:K≤l.length)(h128:l.length≤128):pc (loW l) (min K 64)+pc (hiW l) (min (K-64) 64)=aJ l K true:=by
 by_cases h64:K≤64
 ·rw[aB2 h64,Dc h64,show min (K-64) 64=0 by omega];rfl
 ·rw[Nat.min_eq_right E,Dc (aA5 _),aB2 E,Nb E,show 64+(K-64)=K by omega]
theorem idx0(a b:Value)(w:World):(Instr.index 240 (.agg #[a,b]) (.int .i64 0)).run Tryz.prog w= .ok a w:=Ek
theorem idx1(a b:Value)(w:World):(Instr.index 240 (.agg #[a,b]) (.int .i64 1)).run Tryz.prog w= .ok b w:=Ek
theorem mP{w:World}{p:Nat}{l:List Bool}(h:IsBlock w p l)(k:Int)(K:Nat)(hk:(k<0∧K=0)∨(0≤k∧k≤l.length∧k=K)∨((l.length:Int)<k∧K=l.length)):
  Calls Tryz.prog 232 #[.pointer (some ⟨p,0,none⟩), .int .i64 k] w fun e w'=>e= .returned (.int .i64 (aJ l K true))∧Below w.heap.size w w':=by
 obtain⟨h0,h1,h2,_⟩:=h.cells;have hl:=h.1;have hR:pc (loW l) (min K 64)+pc (hiW l) (min (K-64) 64)=aJ l K true:=Zc E hl;have hx:=cZ l;have hy:=cY l;have q1:=eA (loW l) (min K 64);have q2:=eA (hiW l) (min (K-64) 64);have q1':pc (loW l) (min K 64)≤64:=E;have q2':pc (hiW l) (min (K-64) 64)≤64:=E;have R1:Hid (∀(a:Int) (w:World),a=(K:Int)→Calls Tryz.prog 243 #[.int .u64 (loW l), .int .i64 a] w fun e w'=>e= .returned (.int .i64 (pc (loW l) (min K 64)))∧Below w.heap.size w w'):=
  fun a w ha=>Fq (loW l) w hx rfl (by rw[ha,ao2])
 have R2:Hid (∀(a:Int) (w:World),a=(K:Int)-64→Calls Tryz.prog 243 #[.int .u64 (hiW l), .int .i64 a] w fun e w'=>e= .returned (.int .i64 (pc (hiW l) (min (K-64) 64)))∧Below w.heap.size w w'):=
  fun a w ha=>Fq (hiW l) w hy rfl (by rw[ha];congr 2;omega)
 have HR:=θ hR;have HB:=θ h;have I0:=idx0 (.int .u64 (loW l)) (.int .u64 (hiW l));have I1:=idx1 (.int .u64 (loW l)) (.int .u64 (hiW l));clear q1 q2 hR h hx hy;generalize pc (loW l) (min K 64)=A at *;generalize pc (hiW l) (min (K-64) 64)=B at *;rcases hk with ⟨hk,rfl⟩ | ⟨hk1,hk2,rfl⟩ | ⟨hk,rfl⟩
 all_goals
  go_enter Tryz.func232,Tryz.ntmps232;go_wp2_with fail;refine aJ1 3 ?_;rw[aI6];go_wp2_with fail;refine(R1.out _ _ E).mono ?_;rintro e w1 ⟨rfl,hb⟩;obtain⟨g0,_⟩:=(HB.o.below' hb).cells;go_wp2_with fail;rw[aI6];go_wp2_with fail;refine(R2.out _ _ E).mono ?_;rintro e w2 ⟨rfl,hb2⟩;have hb3:=hb.trans (hb2.mono hb.size);clear hb hb2;go_wp2_with fail;rw[aI6];go_wp2_with fail;go_ret;exact⟨aT (by rw[←HR.o];simp),hb3⟩
theorem ad3{w:World}{p:Nat}{l:List Bool}(h:IsBlock w p l)(k:Int):
  Calls Tryz.prog 232 #[.pointer (some ⟨p,0,none⟩), .int .i64 k] w fun e w'=>e= .returned (.int .i64 (aJ l k.toNat true))∧Below w.heap.size w w':=by
 by_cases h1:k<0
 ·have :=mP h k 0 (Ei ⟨h1,rfl⟩);rwa[show k.toNat=0 by omega]
 ·by_cases h2:k≤l.length
  ·exact mP h k k.toNat (Ej (Ei ⟨E,h2,E⟩))
  ·have :=mP h k l.length (Ej (Ej ⟨E,rfl⟩));rwa[dO true (aA5 _),←dO (k:=k.toNat) true E]at this
theorem Cl(w:World)(p:Nat)(j:Int)(b:Bool)(hj:j<0):Calls Tryz.prog 219 #[.pointer (some ⟨p,0,none⟩), .int .i64 j, .bool b] w fun e w'=>e= .returned (.int .i64 (-1))∧w=w':=by
 go_enter Tryz.func219,Tryz.ntmps219;go_wp2_with fail;go_ret;exact⟨rfl,rfl⟩
theorem zO{w:World}{p:Nat}{l:List Bool}(h:IsBlock w p l)(hT:BitTab w)(j:Nat)(hjm:(j:Int)≤9223372036854775807):
  Calls Tryz.prog 219 #[.pointer (some ⟨p,0,none⟩), .int .i64 j, .bool true] w fun e w'=>e= .returned (.int .i64 (cF l j true))∧Below w.heap.size w w':=by
 obtain⟨h0,h1,h2,_⟩:=h.cells;have hl:=h.1;have hx:=cZ l;have hy:=cY l;have I0:=idx0 (.int .u64 (loW l)) (.int .u64 (hiW l));have I1:=idx1 (.int .u64 (loW l)) (.int .u64 (hiW l));have LX:Hid (loW l<2^64):=qS hx true;have LY:Hid (hiW l<2^64):=qS hy true;have p1:pc (loW l) 64≤64:=eA _ 64;have p2:pc (hiW l) 64≤64:=eA _ 64;have S1:Hid (j<pc (loW l) 64→∃k:Nat,k<64∧sel (loW l) j=k∧cF l j true=if k<l.length then (k:Int)else -1):=Tq (l:=l) (j:=j) (b:=true);have S2:Hid (pc (loW l) 64≤j→j-pc (loW l) 64<pc (hiW l) 64→∃k:Nat,k<64∧sel (hiW l) ((j:Int)-(pc (loW l) 64:Nat))=k∧cF l j true=if 64+k<l.length then ((64+k:Nat):Int)else -1):=
  fun a b=>Tp (l:=l) (j:=j) (b:=true) a b hl
 have S3:Hid (pc (loW l) 64+pc (hiW l) 64≤j→cF l j true= -1):=fun a=>Tr (l:=l) (j:=j) (b:=true) a hl;have C0:Hid (∀(w:World) (b off c:Nat),w.cell? ⟨b,off,none⟩=some (.int .u64 (loW l))→Calls Tryz.prog 238 #[.slice (some ⟨b,off,none⟩) 1 c] w fun e w'=>e= .returned (.int .i64 (pc (loW l) 64))∧w=w'):=
  fun w b off c hc=>gH _ w b off c hc LX.out
 have C1:Hid (∀(w:World) (b off c:Nat),w.cell? ⟨b,off,none⟩=some (.int .u64 (hiW l))→Calls Tryz.prog 238 #[.slice (some ⟨b,off,none⟩) 1 c] w fun e w'=>e= .returned (.int .i64 (pc (hiW l) 64))∧w=w'):=
  fun w b off c hc=>gH _ w b off c hc LY.out
 have HT:=θ hT;have HB:=θ h;clear hT h hx hy;generalize pc (loW l) 64=n0 at *;generalize pc (hiW l) 64=n1 at *;by_cases hj0:j<n0
 ·obtain⟨k,hk,hs,hr⟩:=S1.out hj0;have HS:=θ hs;have HR:=θ hr;clear hs hr S1 S2 S3 C1;by_cases hkl:k<l.length;all_goals
   go_enter Tryz.func219,Tryz.ntmps219;go_wp2_with fail;refine aJ1 3 ?_;rw[aI6];go_wp2_with fail;refine(C0.out _ _ _ _ (by simp[go_sem])).mono ?_;rintro e w' ⟨rfl,rfl⟩;have hb:=aN w (.cells #[.int .u64 (loW l)] 69);have hs1:=hb.size;generalize w.alloc (.cells #[.int .u64 (loW l)] 69)=w1 at *;go_wp2_with fail;refine(mE (Y:=(k:Int)) (loW l) _ LX.out (HT.o.below' hb) rfl HS.o).mono ?_;rintro e w2 ⟨rfl,hb2⟩;have hb:=hb.trans (hb2.mono hs1);obtain⟨g0,_⟩:=(HB.o.below' hb).cells;clear hb2;go_wp2_with fail;go_ret;exact⟨aT (by rw[HR.o];simp[hkl]),hb⟩
 ·by_cases hj1:j<n0+n1
  ·obtain⟨k,hk,hs,hr⟩:=S2.out E E;have HS:=θ hs;have HR:=θ hr;clear hs hr S1 S2 S3;by_cases hkl:64+k<l.length;all_goals
    go_enter Tryz.func219,Tryz.ntmps219;go_wp2_with fail;refine aJ1 3 ?_;rw[aI6];go_wp2_with fail;refine(C0.out _ _ _ _ (by simp[go_sem])).mono ?_;rintro e w' ⟨rfl,rfl⟩;have hb:=aN w (.cells #[.int .u64 (loW l)] 69);have hs1:=hb.size;generalize w.alloc (.cells #[.int .u64 (loW l)] 69)=w1 at *;go_wp2_with fail;rw[aI6];go_wp2_with fail;refine(C1.out _ _ _ _ (by simp[go_sem])).mono ?_;rintro e w' ⟨rfl,rfl⟩;have hb:=hb.alloc hs1 (.cells #[.int .u64 (hiW l)] 69);have hs1:=hb.size;generalize w1.alloc (.cells #[.int .u64 (hiW l)] 69)=w2 at *;go_wp2_with fail;refine(mE (Y:=(k:Int)) (hiW l) _ LY.out (HT.o.below' hb) rfl HS.o).mono ?_;rintro e w3 ⟨rfl,hb2⟩;have hb:=hb.trans (hb2.mono hs1);obtain⟨g0,_⟩:=(HB.o.below' hb).cells;clear hb2;go_wp2_with fail;go_ret;exact⟨aT (by rw[HR.o];simp[hkl]),hb⟩
  ·have hr:=S3.out E;have HR:=θ hr;clear hr S1 S2 S3;go_enter Tryz.func219,Tryz.ntmps219;go_wp2_with fail;refine aJ1 3 ?_;rw[aI6];go_wp2_with fail;refine(C0.out _ _ _ _ (by simp[go_sem])).mono ?_;rintro e w' ⟨rfl,rfl⟩;have hb:=aN w (.cells #[.int .u64 (loW l)] 69);have hs1:=hb.size;generalize w.alloc (.cells #[.int .u64 (loW l)] 69)=w1 at *;go_wp2_with fail;rw[aI6];go_wp2_with fail;refine(C1.out _ _ _ _ (by simp[go_sem])).mono ?_;rintro e w' ⟨rfl,rfl⟩;have hb:=hb.alloc hs1 (.cells #[.int .u64 (hiW l)] 69);generalize w1.alloc (.cells #[.int .u64 (hiW l)] 69)=w2 at *;go_wp2_with fail;rw[aI6];go_wp2_with fail;go_ret;exact⟨aT HR.o.symm,hb⟩
theorem xT{w:World}{p:Nat}{l:List Bool}(h:IsBlock w p l)(hT:BitTab w)(j:Nat)(hjm:(j:Int)≤9223372036854775807):
  Calls Tryz.prog 219 #[.pointer (some ⟨p,0,none⟩), .int .i64 j, .bool false] w fun e w'=>e= .returned (.int .i64 (cF l j false))∧Below w.heap.size w w':=by
 obtain⟨h0,h1,h2,_⟩:=h.cells;have hl:=h.1;have hx:=cZ l;have hy:=cY l;have N1:=Ld hx;have N2:=Ld hy;have I0:=idx0 (.int .u64 (loW l)) (.int .u64 (hiW l));have I1:=idx1 (.int .u64 (loW l)) (.int .u64 (hiW l));have LX:Hid (cE (loW l)<2^64):=qS hx false;have LY:Hid (cE (hiW l)<2^64):=qS hy false;have p1:pc (cE (loW l)) 64≤64:=eA _ 64;have p2:pc (cE (hiW l)) 64≤64:=eA _ 64;have S1:Hid (j<pc (cE (loW l)) 64→∃k:Nat,k<64∧sel (cE (loW l)) j=k∧cF l j false=if k<l.length then (k:Int)else -1):=Tq (l:=l) (j:=j) (b:=false);have S2:Hid (pc (cE (loW l)) 64≤j→j-pc (cE (loW l)) 64<pc (cE (hiW l)) 64→∃k:Nat,k<64∧sel (cE (hiW l)) ((j:Int)-(pc (cE (loW l)) 64:Nat))=k∧cF l j false=if 64+k<l.length then ((64+k:Nat):Int)else -1):=
  fun a b=>Tp (l:=l) (j:=j) (b:=false) a b hl
 have S3:Hid (pc (cE (loW l)) 64+pc (cE (hiW l)) 64≤j→cF l j false= -1):=fun a=>Tr (l:=l) (j:=j) (b:=false) a hl;have C0:Hid (∀(w:World) (b off c:Nat),w.cell? ⟨b,off,none⟩=some (.int .u64 (cE (loW l)))→Calls Tryz.prog 238 #[.slice (some ⟨b,off,none⟩) 1 c] w fun e w'=>e= .returned (.int .i64 (pc (cE (loW l)) 64))∧w=w'):=
  fun w b off c hc=>gH _ w b off c hc LX.out
 have C1:Hid (∀(w:World) (b off c:Nat),w.cell? ⟨b,off,none⟩=some (.int .u64 (cE (hiW l)))→Calls Tryz.prog 238 #[.slice (some ⟨b,off,none⟩) 1 c] w fun e w'=>e= .returned (.int .i64 (pc (cE (hiW l)) 64))∧w=w'):=
  fun w b off c hc=>gH _ w b off c hc LY.out
 have HT:=θ hT;have HB:=θ h;clear hT h hx hy;generalize pc (cE (loW l)) 64=n0 at *;generalize pc (cE (hiW l)) 64=n1 at *;by_cases hj0:j<n0
 ·obtain⟨k,hk,hs,hr⟩:=S1.out hj0;have HS:=θ hs;have HR:=θ hr;clear hs hr S1 S2 S3 C1;by_cases hkl:k<l.length;all_goals
   go_enter Tryz.func219,Tryz.ntmps219;go_wp2_with fail;refine aJ1 3 ?_;rw[aI6];go_wp2_with fail;refine(C0.out _ _ _ _ (by simp[go_sem])).mono ?_;rintro e w' ⟨rfl,rfl⟩;have hb:=aN w (.cells #[.int .u64 (cE (loW l))] 69);have hs1:=hb.size;generalize w.alloc (.cells #[.int .u64 (cE (loW l))] 69)=w1 at *;go_wp2_with fail;refine(mE (Y:=(k:Int)) (cE (loW l)) _ LX.out (HT.o.below' hb) rfl HS.o).mono ?_;rintro e w2 ⟨rfl,hb2⟩;have hb:=hb.trans (hb2.mono hs1);obtain⟨g0,_⟩:=(HB.o.below' hb).cells;clear hb2;go_wp2_with fail;go_ret;exact⟨aT (by rw[HR.o];simp[hkl]),hb⟩
 ·by_cases hj1:j<n0+n1
  ·obtain⟨k,hk,hs,hr⟩:=S2.out E E;have HS:=θ hs;have HR:=θ hr;clear hs hr S1 S2 S3;by_cases hkl:64+k<l.length;all_goals
    go_enter Tryz.func219,Tryz.ntmps219;go_wp2_with fail;refine aJ1 3 ?_;rw[aI6];go_wp2_with fail;refine(C0.out _ _ _ _ (by simp[go_sem])).mono ?_;rintro e w' ⟨rfl,rfl⟩;have hb:=aN w (.cells #[.int .u64 (cE (loW l))] 69);have hs1:=hb.size;generalize w.alloc (.cells #[.int .u64 (cE (loW l))] 69)=w1 at *;go_wp2_with fail;rw[aI6];go_wp2_with fail;refine(C1.out _ _ _ _ (by simp[go_sem])).mono ?_;rintro e w' ⟨rfl,rfl⟩;have hb:=hb.alloc hs1 (.cells #[.int .u64 (cE (hiW l))] 69);have hs1:=hb.size;generalize w1.alloc (.cells #[.int .u64 (cE (hiW l))] 69)=w2 at *;go_wp2_with fail;refine(mE (Y:=(k:Int)) (cE (hiW l)) _ LY.out (HT.o.below' hb) rfl HS.o).mono ?_;rintro e w3 ⟨rfl,hb2⟩;have hb:=hb.trans (hb2.mono hs1);obtain⟨g0,_⟩:=(HB.o.below' hb).cells;clear hb2;go_wp2_with fail;go_ret;exact⟨aT (by rw[HR.o];simp[hkl]),hb⟩
  ·have hr:=S3.out E;have HR:=θ hr;clear hr S1 S2 S3;go_enter Tryz.func219,Tryz.ntmps219;go_wp2_with fail;refine aJ1 3 ?_;rw[aI6];go_wp2_with fail;refine(C0.out _ _ _ _ (by simp[go_sem])).mono ?_;rintro e w' ⟨rfl,rfl⟩;have hb:=aN w (.cells #[.int .u64 (cE (loW l))] 69);have hs1:=hb.size;generalize w.alloc (.cells #[.int .u64 (cE (loW l))] 69)=w1 at *;go_wp2_with fail;rw[aI6];go_wp2_with fail;refine(C1.out _ _ _ _ (by simp[go_sem])).mono ?_;rintro e w' ⟨rfl,rfl⟩;have hb:=hb.alloc hs1 (.cells #[.int .u64 (cE (hiW l))] 69);generalize w1.alloc (.cells #[.int .u64 (cE (hiW l))] 69)=w2 at *;go_wp2_with fail;rw[aI6];go_wp2_with fail;go_ret;exact⟨aT HR.o.symm,hb⟩
theorem Pv{w:World}{p:Nat}{l:List Bool}(h:IsBlock w p l)(hT:BitTab w)(j:Int)(b:Bool)(hjm:j≤9223372036854775807):
  Calls Tryz.prog 219 #[.pointer (some ⟨p,0,none⟩), .int .i64 j, .bool b] w fun e w'=>e= .returned (.int .i64 (cF l j b))∧Below w.heap.size w w':=by
 by_cases hj:j<0
 ·rw[Gg hj];refine(Cl w p j b hj).mono ?_;rintro e w' ⟨rfl,rfl⟩;exact⟨rfl,am4 _ _⟩
 ·obtain⟨n,rfl⟩:=am8 (show 0≤j by omega);cases b
  ·exact xT h hT n hjm
  ·exact zO h hT n hjm
def Blk(w:World)(p:Nat)(n:Int)(x y:Nat):Prop:=w.heap[p]? =some (.cells #[.int .i64 n, .int .u64 x, .int .u64 y] 242 (0,0))
theorem Blk.cells {w:World}{p:Nat}{n:Int}{x y:Nat}(h:Blk w p n x y):w.cell? ⟨p,0,none⟩=some (.int .i64 n)∧w.cell? ⟨p,1,none⟩=some (.int .u64 x)∧w.cell? ⟨p,2,none⟩=some (.int .u64 y)∧∀j,w.frozen? ⟨p,j,none⟩=false:=
 ⟨by rw[aG7 w p 0 _ _ _ h];rfl,by rw[aG7 w p 1 _ _ _ h];rfl,by rw[aG7 w p 2 _ _ _ h];rfl,fun j=>aH3 w p j _ _ h⟩
theorem Blk.set0 {w:World}{p:Nat}{n:Int}{x y:Nat}(h:Blk w p n x y)(n':Int):Blk (w.setCell ⟨p,0,none⟩ (.int .i64 n')) p n' x y:=aH6 w p 0 _ _ (.int .i64 n') h
theorem Blk.set1 {w:World}{p:Nat}{n:Int}{x y:Nat}(h:Blk w p n x y)(x':Nat):Blk (w.setCell ⟨p,1,none⟩ (.int .u64 x')) p n x' y:=aH6 w p 1 _ _ (.int .u64 x') h
theorem Blk.set2 {w:World}{p:Nat}{n:Int}{x y:Nat}(h:Blk w p n x y)(y':Nat):Blk (w.setCell ⟨p,2,none⟩ (.int .u64 y')) p n x y':=aH6 w p 2 _ _ (.int .u64 y') h
theorem ai0{k:Nat}(h:k<64):IntKind.u64.wrap ((2:Int)^k)=((2^k:Nat):Int):=by
 have h2:=iE h;have h3:=aC6 k;rw[pI];exact sV E E
theorem Pr{k m:Nat}(h:k%64=m):IntKind.u64.wrap ((2:Int)^min (IntKind.u64.wrap ((k:Int).tmod 64)).toNat 64)=((2^m:Nat):Int):=by
 have h1:(k:Int).tmod 64=(m:Int):=by rw[ao1 E];omega
 have h2:IntKind.u64.wrap (m:Int)=(m:Int):=sV E E;rw[h1,h2,ao2,aB2 E];exact ai0 E
theorem Ss{k:Nat}(h:k<64):IntKind.i64.wrap ((k:Int)/64)=0∧IntKind.i64.wrap ((k:Int).tmod 64)=k∧IntKind.i64.wrap ((k:Int)%64)=k:=by
 refine⟨?_,?_,?_⟩
 ·rw[ao4]<;>omega
 ·rw[ao1 E,ao4]<;>omega
 ·rw[ao4]<;>omega
theorem Sr{k:Nat}(h:64≤k)(h2:k<128):IntKind.i64.wrap ((k:Int)/64)=1∧IntKind.i64.wrap ((k:Int).tmod 64)=((k-64:Nat):Int)∧IntKind.i64.wrap ((k:Int)%64)=((k-64:Nat):Int):=by
 refine⟨?_,?_,?_⟩
 ·rw[ao4]<;>omega
 ·rw[ao1 E,ao4]<;>omega
 ·rw[ao4]<;>omega
theorem pM(w:World)(a:Option Addr)(c:Nat)(l:List Bool)(hr:ReadsV w a (l.map Value.bool))(hl:l.length≤128):
  Calls Tryz.prog 235 #[.slice a l.length c] w fun e w'=>e= .returned (.tuple #[.pointer (some ⟨w.heap.size,0,none⟩), .int .i64 0])∧IsBlock w' w.heap.size l∧Below w.heap.size w w':=by
 have hd:decide ((128:Int)<(l.length:Int))=false:=by simp;omega
 have hb0:=aN w (.cells #[.int .i64 l.length, .int .u64 0, .int .u64 0] 242);have hk0:Blk (w.alloc (.cells #[.int .i64 l.length, .int .u64 0, .int .u64 0] 242)) w.heap.size l.length (loW (l.take 0)) (hiW (l.take 0)):=by
  have e1:loW (l.take 0)=0:=by rw[az6];exact ae6
  have e2:hiW (l.take 0)=0:=by rw[az6];exact ad9
  rw[e1,e2];exact aH5 w _
 have HK0:=θ hk0;have HR:=θ hr;obtain⟨p,hp⟩:∃p,w.heap.size=p:=⟨_,rfl⟩;have HP:=θ hp;clear hk0 hr hp;go_enter Tryz.func235,Tryz.ntmps235;go_wp2_with fail;rw[HP.o];go_loopw [16] (fun i wr=>∃k:Nat,k≤l.length∧i= .int .i64 k∧Blk wr p l.length (loW (l.take k)) (hiW (l.take k))∧Below w.heap.size w wr) (fun i _=>l.length-(intOf i).toNat);case atStart=>exact⟨0,aC8 _,rfl,by have :=HK0.o;rw[HP.o]at this;exact this,hb0⟩
 case round=>
  obtain⟨k,hk,rfl,hbk,hb⟩:=hrel;clear hb0;by_cases hlt:k<l.length
  ·obtain⟨b,off,rfl,hbl,hc⟩:=(HR.o.below' hb).some (by rw[at1];omega);have hcell:=hc k (.bool (l[k]?.getD false)) (by rw[ar6,ar3 hlt];rfl);have ht:l.take (k+1)=l.take k++[l[k]?.getD false]:=by rw[ay9,ar3 hlt];rfl
   have hlen:(l.take k).length=k:=by rw[at5];omega
   have HT:=θ ht;have HLEN:=θ hlen;have hlo:=cZ (l.take k);have hhi:=cY (l.take k);generalize hbv:l[k]?.getD false=bv at *;have HBV:=θ hbv;clear hc ht hlen hbv;cases bv
   ·have e1:loW (l.take (k+1))=loW (l.take k):=by
     rw[HT.o];by_cases h:k<64
     ·rw[Kq (by rw[HLEN.o];exact h)];simp
     ·rw[Ex (by rw[HLEN.o];omega)]
    have e2:hiW (l.take (k+1))=hiW (l.take k):=by
     rw[HT.o];by_cases h:k<64
     ·rw[Kj (by rw[HLEN.o];exact h)]
     ·rw[El (by rw[HLEN.o];omega) (by rw[HLEN.o];omega)];simp
    have E1:=θ e1;have E2:=θ e2;have HBK:=θ hbk;clear e1 e2 hbk;go_wp2_with fail;go_roundw;case rel=>exact⟨k+1,E,by go_num,by rw[E1.out,E2.out];exact HBK.o,hb⟩
    case measure=>simp[intOf];omega
   ·by_cases h64:k<64
    ·have e1:loW (l.take (k+1))=loW (l.take k)|||2^k:=by
      rw[HT.o,Kq (by rw[HLEN.o];exact h64),HLEN.o];simp
     have e2:hiW (l.take (k+1))=hiW (l.take k):=by rw[HT.o,Kj (by rw[HLEN.o];exact h64)]
     have h2k:=iE h64;have e3:bits .or .u64 ((loW (l.take k):Nat):Int) (IntKind.u64.wrap ((2:Int)^min (IntKind.u64.wrap ((k:Int).tmod 64)).toNat 64))=((loW (l.take k)|||2^k:Nat):Int):=by
      rw[Pr (m:=k) E];exact pU _ _ hlo E
     have E1:=θ e1;have E2:=θ e2;have E3:=θ e3;generalize loW (l.take k)=x at *;generalize hiW (l.take k)=y at *;obtain⟨c0,c1,c2,fz⟩:=hbk.cells;have fz1:=fz 1;obtain⟨q1,q2,q3⟩:=Ss h64;have HBK:=θ hbk;clear e1 e2 e3 hbk fz c0 c2 h2k;go_wp2_with fail;refine aE (fun _=>True) Ek trivial (fun hh=>?_);refine rt 0 hh ?_;refine rt 1 hh ?_;refine rt 2 hh ?_;refine rt 3 hh ?_;refine rt 4 hh ?_;refine rt 5 hh ?_;refine rt 7 hh ?_;refine rt 8 hh ?_;refine rt 9 hh ?_;refine rt 10 hh ?_;refine rt 12 hh ?_;refine rt 13 hh ?_;refine rg 6 fun κ hK=>?_;go_simp;refine hK.out _ _ trivial ?_;intro hh;try simp only[pt]
     refine rt 11 hh ?_;refine rt 14 hh ?_;refine rg 15 fun κ hK=>?_;go_simp;refine hK.out _ _ trivial ?_;intro hh;try simp only[pt]
     refine rz ?_;rw[E3.out];clear c1 fz1 q1 q2 q3;go_wp2_with fail;go_roundw;case rel=>exact⟨k+1,E,by go_num,by rw[E1.out,E2.out];exact HBK.o.set1 _,lW hb.drew hb.drew.size (by have :=HP.o;omega) _⟩
     case measure=>simp[intOf];omega
    ·have e1:loW (l.take (k+1))=loW (l.take k):=by rw[HT.o,Ex (by rw[HLEN.o];omega)]
     have e2:hiW (l.take (k+1))=hiW (l.take k)|||2^(k-64):=by
      rw[HT.o,El (by rw[HLEN.o];omega) (by rw[HLEN.o];omega),HLEN.o];simp
     have h2k:=iE (k:=k-64) E;have e3:bits .or .u64 ((hiW (l.take k):Nat):Int) (IntKind.u64.wrap ((2:Int)^min (IntKind.u64.wrap ((k:Int).tmod 64)).toNat 64))=((hiW (l.take k)|||2^(k-64):Nat):Int):=by
      rw[Pr (m:=k-64) E];exact pU _ _ hhi E
     have E1:=θ e1;have E2:=θ e2;have E3:=θ e3;generalize loW (l.take k)=x at *;generalize hiW (l.take k)=y at *;obtain⟨c0,c1,c2,fz⟩:=hbk.cells;have fz1:=fz 2;obtain⟨q1,q2,q3⟩:=Sr (k:=k) E E;have HBK:=θ hbk;clear e1 e2 e3 hbk fz c0 c1 h2k;go_wp2_with fail;refine aE (fun _=>True) Ek trivial (fun hh=>?_);refine rt 0 hh ?_;refine rt 1 hh ?_;refine rt 2 hh ?_;refine rt 3 hh ?_;refine rt 4 hh ?_;refine rt 5 hh ?_;refine rt 7 hh ?_;refine rt 8 hh ?_;refine rt 9 hh ?_;refine rt 10 hh ?_;refine rt 12 hh ?_;refine rt 13 hh ?_;refine rg 6 fun κ hK=>?_;go_simp;refine hK.out _ _ trivial ?_;intro hh;try simp only[pt]
     refine rt 11 hh ?_;refine rt 14 hh ?_;refine rg 15 fun κ hK=>?_;go_simp;refine hK.out _ _ trivial ?_;intro hh;try simp only[pt]
     refine rz ?_;rw[E3.out];clear c2 fz1 q1 q2 q3;go_wp2_with fail;go_roundw;case rel=>exact⟨k+1,E,by go_num,by rw[E1.out,E2.out];exact HBK.o.set2 _,lW hb.drew hb.drew.size (by have :=HP.o;omega) _⟩
     case measure=>simp[intOf];omega
  ·have hkl:k=l.length:=E;have ht:l.take k=l:=by rw[hkl,az2]
   rw[ht]at hbk;clear ht hkl;go_wp2_with fail;go_ret2;exact⟨by rw[HP.o];rfl,⟨hl,by rw[HP.o];exact hbk⟩,hb⟩
def BlkStep(w w':World)(p:Nat)(l:List Bool):Prop:=IsBlock w' p l∧Chg (fun q=>q=p) w w'
theorem Dt{w:World}{p:Nat}{l0:List Bool}(h:IsBlock w p l0)(a:Option Addr)(c:Nat)(l:List Bool)(hr:ReadsV w a (l.map Value.bool))(hl:l.length≤128):
  Calls Tryz.prog 263 #[.pointer (some ⟨p,0,none⟩), .slice a l.length c] w fun e w'=>e= .returned (.tuple #[])∧BlkStep w w' p l:=by
 have HR:=θ hr;have HB:=θ h;clear hr h;go_enter Tryz.func263,Tryz.ntmps263;go_wp2_with fail;refine(pM w a c l HR.o hl).mono ?_;rintro e w1 ⟨rfl,hk,hb⟩;obtain⟨c0,c1,c2,_⟩:=hk.cells;have hB:=HB.o.below' hb;obtain⟨d0,d1,d2,fz⟩:=hB.cells;have f0:=fz 0;have f1:=fz 1;have f2:=fz 2;have H1:=θ hB;have H2:=θ hk;have H3:Hid (Chg (fun q=>q=p) w w1):=Chg.of_below hb;generalize w.heap.size=q at *;clear hB hk hb fz;go_wp2_with fail;go_end0;exact⟨rfl,⟨hl,((Blk.set0 (x:=loW l0) (y:=hiW l0) H1.o.2 _).set1 _).set2 _⟩,((H3.o.setCell _ (Ei rfl) _).setCell _ (Ei rfl) _).setCell _ (Ei rfl) _⟩
theorem Dr{w:World}{p:Nat}{l:List Bool}(h:IsBlock w p l)(hl:l.length<128)(k:Nat)(hk:k≤l.length)(h64:k<64)(b:Bool):
  Calls Tryz.prog 251 #[.pointer (some ⟨p,0,none⟩), .int .i64 k, .bool b] w fun e w'=>e= .returned (.int .i64 0)∧BlkStep w w' p (inL l k b):=by
 have hB:Blk w p l.length (loW l) (hiW l):=h.2;obtain⟨c0,c1,c2,fz⟩:=hB.cells;have f0:=fz 0;have f1:=fz 1;have f2:=fz 2;have hd:((l.length:Int)==128)=false:=by simp;omega
 have hd1:decide ((k:Int)<0)=false:=Es;have hd2:decide ((l.length:Int)<(k:Int))=false:=by simp;omega
 have q1:(k:Int)/64=0:=E;have q2:(k:Int)%64=k:=E;have hx:=cZ l;have hy:=cY l;have e1:=lo_in b hk h64;have e2:=hi_in b hk h64;have e3:=fZ (b:=b) hk;have E1:=θ e1;have E2:=θ e2;have E3:=θ e3;have HB:=θ hB;clear e1 e2 e3 hB h fz;generalize loW l=x at *;generalize hiW l=y at *;go_enter Tryz.func251,Tryz.ntmps251;go_wp2_with fail;refine aJ1 3 ?_;rw[aI6];go_wp2_with fail;refine aE (fun _=>True) Ek trivial (fun hh=>?_);refine rt 0 hh ?_;refine rt 1 hh ?_;refine rt 2 hh ?_;refine rt 3 hh ?_;refine rt 4 hh ?_;refine rt 5 hh ?_;refine rt 6 hh ?_;refine rt 8 hh ?_;refine rt 9 hh ?_;refine rt 14 hh ?_;refine rt 15 hh ?_;refine rg 7 fun κ hK=>?_;go_simp;refine hK.out _ _ trivial ?_;intro hh;try simp only[pt]
 refine rg 10 fun κ hK=>?_;go_simp;refine(xD x k b _ hx h64).mono ?_;rintro e w' ⟨rfl,rfl⟩;go_wp2_with fail;refine hK.out _ _ trivial ?_;intro hh;try simp only[pt]
 refine rt 11 hh ?_;refine rt 12 hh ?_;refine rt 13 hh ?_;refine rt 16 hh ?_;refine rg 17 fun κ hK=>?_;go_simp;refine hK.out _ _ trivial ?_;intro hh;try simp only[pt]
 refine rt 18 hh ?_;refine rz ?_;go_wp2_with fail;rw[aI6];go_wp2_with fail;refine aE (fun _=>True) Ek trivial (fun hh=>?_);refine rt 0 hh ?_;refine rt 1 hh ?_;refine rt 2 hh ?_;refine rt 3 hh ?_;refine rt 4 hh ?_;refine rt 5 hh ?_;refine rt 6 hh ?_;refine rt 8 hh ?_;refine rt 9 hh ?_;refine rt 14 hh ?_;refine rt 15 hh ?_;refine rg 7 fun κ hK=>?_;go_simp;refine hK.out _ _ trivial ?_;intro hh;try simp only[pt]
 refine rg 10 fun κ hK=>?_;go_simp;refine(ai1 (Y:=((oA y 0 (x.testBit 63):Nat):Int)) (c:=y.testBit 63) y 0 _ hy E rfl rfl rfl rfl).mono ?_;rintro e w' ⟨rfl,rfl⟩;go_wp2_with fail;refine hK.out _ _ trivial ?_;intro hh;try simp only[pt]
 refine rt 11 hh ?_;refine rt 12 hh ?_;refine rt 13 hh ?_;refine rt 16 hh ?_;refine rg 17 fun κ hK=>?_;go_simp;refine hK.out _ _ trivial ?_;intro hh;try simp only[pt]
 refine rt 18 hh ?_;refine rz ?_;go_wp2_with fail;rw[aI6];go_wp2_with fail;go_ret;refine⟨rfl,⟨by rw[E3.out];omega,?_⟩,?_⟩
 ·rw[E1.out,E2.out,E3.out];exact((HB.o.set1 _).set2 _).set0 _
 ·exact((((Chg.refl (S:=fun q=>q=p)).setCell ⟨p,1,none⟩ (Ei rfl) _).setCell ⟨p,2,none⟩ (Ei rfl) _).setCell ⟨p,0,none⟩ (Ei rfl) _).drew.drew
theorem Dq{w:World}{p:Nat}{l:List Bool}(h:IsBlock w p l)(hl:l.length<128)(k:Nat)(hk:k≤l.length)(h64:64≤k)(b:Bool):
  Calls Tryz.prog 251 #[.pointer (some ⟨p,0,none⟩), .int .i64 k, .bool b] w fun e w'=>e= .returned (.int .i64 0)∧BlkStep w w' p (inL l k b):=by
 have hB:Blk w p l.length (loW l) (hiW l):=h.2;obtain⟨c0,c1,c2,fz⟩:=hB.cells;have f0:=fz 0;have f2:=fz 2;have hd:((l.length:Int)==128)=false:=by simp;omega
 have hd1:decide ((k:Int)<0)=false:=Es;have hd2:decide ((l.length:Int)<(k:Int))=false:=by simp;omega
 have q1:(k:Int)/64=1:=E;have q2:(k:Int)%64=((k-64:Nat):Int):=E;have hy:=cY l;have e1:=lo_in2 b hk h64;have e2:=hi_in2 b hk h64 E;have e3:=fZ (b:=b) hk;have E1:=θ e1;have E2:=θ e2;have E3:=θ e3;have HB:=θ hB;have hm:k-64<64:=E;clear e1 e2 e3 hB h fz;generalize loW l=x at *;generalize hiW l=y at *;generalize hmm:k-64=m at *;clear hmm;go_enter Tryz.func251,Tryz.ntmps251;go_wp2_with fail;refine aJ1 2 ?_;rw[aI6];go_wp2_with fail;refine aE (fun _=>True) Ek trivial (fun hh=>?_);refine rt 0 hh ?_;refine rt 1 hh ?_;refine rt 2 hh ?_;refine rt 3 hh ?_;refine rt 4 hh ?_;refine rt 5 hh ?_;refine rt 6 hh ?_;refine rt 8 hh ?_;refine rt 9 hh ?_;refine rt 14 hh ?_;refine rt 15 hh ?_;refine rg 7 fun κ hK=>?_;go_simp;refine hK.out _ _ trivial ?_;intro hh;try simp only[pt]
 refine rg 10 fun κ hK=>?_;go_simp;refine(xD y m b _ hy hm).mono ?_;rintro e w' ⟨rfl,rfl⟩;go_wp2_with fail;refine hK.out _ _ trivial ?_;intro hh;try simp only[pt]
 refine rt 11 hh ?_;refine rt 12 hh ?_;refine rt 13 hh ?_;refine rt 16 hh ?_;refine rg 17 fun κ hK=>?_;go_simp;refine hK.out _ _ trivial ?_;intro hh;try simp only[pt]
 refine rt 18 hh ?_;refine rz ?_;go_wp2_with fail;rw[aI6];go_wp2_with fail;go_ret;refine⟨rfl,⟨by rw[E3.out];omega,?_⟩,?_⟩
 ·rw[E1.out,E2.out,E3.out];exact(HB.o.set2 _).set0 _
 ·exact(((Chg.refl (S:=fun q=>q=p)).setCell ⟨p,2,none⟩ (Ei rfl) _).setCell ⟨p,0,none⟩ (Ei rfl) _).drew
theorem rS{w:World}{p:Nat}{l:List Bool}(h:IsBlock w p l)(hl:l.length<128)(k:Nat)(hk:k≤l.length)(b:Bool):
  Calls Tryz.prog 251 #[.pointer (some ⟨p,0,none⟩), .int .i64 k, .bool b] w fun e w'=>e= .returned (.int .i64 0)∧BlkStep w w' p (inL l k b):=by
 by_cases h64:k<64
 ·exact Dr h hl k hk h64 b
 ·exact Dq h hl k hk E b
theorem Dp{w:World}{p:Nat}{l:List Bool}(h:IsBlock w p l)(k:Nat)(hk:k<l.length)(h64:k<64):
  Calls Tryz.prog 244 #[.pointer (some ⟨p,0,none⟩), .int .i64 k] w fun e w'=>e= .returned (.tuple #[.bool (aR l k), .int .i64 0])∧BlkStep w w' p (aB l k):=by
 have hB:Blk w p l.length (loW l) (hiW l):=h.2;obtain⟨c0,c1,c2,fz⟩:=hB.cells;have f0:=fz 0;have f1:=fz 1;have f2:=fz 2;have hR:dZ l k=0:=by unfold dZ;rw[aH9 E]
 have HR:=θ hR;have HH:=θ h;have q1:(k:Int)/64=0:=E;have q7:IntKind.i64.wrap 0=0:=Ed;obtain⟨q3,q4,q5⟩:=Ss h64;have Q6:Hid ((k:Int).tmod 64=(k:Int)):=by show _=_;rw[ao1 E];omega
 have hx:=cZ l;have hy:=cY l;have hl:=h.1;have e1:=lo_out hk h64;have e2:=hi_out hk h64 h.1;have e3:=eJ hk;have e4:=cJ (l:=l) h64;obtain⟨yb,hyb⟩:∃yb,(hiW l).testBit 0=yb:=⟨_,rfl⟩;rw[hyb]at e1;have HYB:=θ hyb;have E1:=θ e1;have E2:=θ e2;have E3:=θ e3;have E4:=θ e4;have HB:=θ hB;clear e1 e2 e3 e4 hB h fz hR q4 q5 hyb;generalize loW l=x at *;generalize hiW l=y at *;go_enter Tryz.func244,Tryz.ntmps244;go_wp2_with fail;refine(xR HH.o k).mono ?_;rintro e w' ⟨rfl,rfl⟩;rw[HR.o];go_wp2_with fail;refine aJ1 2 ?_;rw[aI6];go_wp2_with fail;refine aE (fun _=>True) Ek trivial (fun hh=>?_);refine rt 0 hh ?_;refine rt 1 hh ?_;refine rt 2 hh ?_;refine rt 3 hh ?_;refine rt 4 hh ?_;refine rt 5 hh ?_;refine rt 6 hh ?_;refine rt 8 hh ?_;refine rt 13 hh ?_;refine rt 14 hh ?_;refine rg 7 fun κ hK=>?_;go_simp;refine hK.out _ _ trivial ?_;intro hh;try simp only[pt]
 refine rg 9 fun κ hK=>?_;go_simp;refine(zR (Y:=((kG y 0 false:Nat):Int)) (c:=yb) y 0 _ hy E rfl rfl rfl HYB.o).mono ?_;rintro e w' ⟨rfl,rfl⟩;go_wp2_with fail;refine hK.out _ _ trivial ?_;intro hh;try simp only[pt]
 refine rt 10 hh ?_;refine rt 11 hh ?_;refine rt 12 hh ?_;refine rt 15 hh ?_;refine rg 16 fun κ hK=>?_;go_simp;refine hK.out _ _ trivial ?_;intro hh;try simp only[pt]
 refine rt 17 hh ?_;refine rz ?_;go_wp2_with fail;rw[aI6];go_wp2_with fail;refine aE (fun _=>True) Ek trivial (fun hh=>?_);refine rt 0 hh ?_;refine rt 1 hh ?_;refine rt 2 hh ?_;refine rt 3 hh ?_;refine rt 4 hh ?_;refine rt 5 hh ?_;refine rt 6 hh ?_;refine rt 7 hh ?_;refine rt 8 hh ?_;refine rt 10 hh ?_;refine rt 11 hh ?_;refine rt 12 hh ?_;refine rt 17 hh ?_;refine rt 18 hh ?_;refine rg 9 fun κ hK=>?_;go_simp;refine hK.out _ _ trivial ?_;intro hh;try simp only[pt]
 refine rg 13 fun κ hK=>?_;go_simp;refine(zR (Y:=((kG x k yb:Nat):Int)) (c:=aR l k) x k _ hx h64 rfl Q6.out rfl E4.out).mono ?_;rintro e w' ⟨rfl,rfl⟩;go_wp2_with fail;refine hK.out _ _ trivial ?_;intro hh;try simp only[pt]
 refine rt 14 hh ?_;refine rt 15 hh ?_;refine rt 16 hh ?_;refine rt 19 hh ?_;refine rg 20 fun κ hK=>?_;go_simp;refine hK.out _ _ trivial ?_;intro hh;try simp only[pt]
 refine rt 21 hh ?_;refine rz ?_;go_wp2_with fail;go_ret2;refine⟨rfl,⟨by rw[E3.out];omega,?_⟩,?_⟩
 ·rw[E1.out,E2.out,E3.out,show ((l.length-1:Nat):Int)=(l.length:Int)-1 by omega];exact((HB.o.set2 _).set1 _).set0 _
 ·exact((((Chg.refl (S:=fun q=>q=p)).setCell ⟨p,2,none⟩ (Ei rfl) _).setCell ⟨p,1,none⟩ (Ei rfl) _).setCell ⟨p,0,none⟩ (Ei rfl) _).drew.drew
theorem Do{w:World}{p:Nat}{l:List Bool}(h:IsBlock w p l)(k:Nat)(hk:k<l.length)(h64:64≤k):
  Calls Tryz.prog 244 #[.pointer (some ⟨p,0,none⟩), .int .i64 k] w fun e w'=>e= .returned (.tuple #[.bool (aR l k), .int .i64 0])∧BlkStep w w' p (aB l k):=by
 have hB:Blk w p l.length (loW l) (hiW l):=h.2;obtain⟨c0,c1,c2,fz⟩:=hB.cells;have f0:=fz 0;have f2:=fz 2;have hl:=h.1;have hR:dZ l k=0:=by unfold dZ;rw[aH9 E]
 have HR:=θ hR;have HH:=θ h;have q1:(k:Int)/64=1:=E;have q7:IntKind.i64.wrap 1=1:=Ed;obtain⟨q3,q4,q5⟩:=Sr h64 E;have hy:=cY l;have e1:=ae7 hk h64;have e2:=ae0 hk h64 h.1;have e3:=eJ hk;have hm:k-64<64:=E;have e4:=cI (l:=l) hm;rw[show 64+(k-64)=k by omega]at e4;have Q6:Hid ((k:Int).tmod 64=((k-64:Nat):Int)):=by show _=_;rw[ao1 E];omega
 have E1:=θ e1;have E2:=θ e2;have E3:=θ e3;have E4:=θ e4;have HB:=θ hB;clear e1 e2 e3 e4 hB h fz hR q4 q5;generalize loW l=x at *;generalize hiW l=y at *;generalize hmm:k-64=m at *;clear hmm;go_enter Tryz.func244,Tryz.ntmps244;go_wp2_with fail;refine(xR HH.o k).mono ?_;rintro e w' ⟨rfl,rfl⟩;rw[HR.o];go_wp2_with fail;refine aJ1 1 ?_;rw[aI6];go_wp2_with fail;refine aE (fun _=>True) Ek trivial (fun hh=>?_);refine rt 0 hh ?_;refine rt 1 hh ?_;refine rt 2 hh ?_;refine rt 3 hh ?_;refine rt 4 hh ?_;refine rt 5 hh ?_;refine rt 6 hh ?_;refine rt 7 hh ?_;refine rt 8 hh ?_;refine rt 10 hh ?_;refine rt 11 hh ?_;refine rt 12 hh ?_;refine rt 17 hh ?_;refine rt 18 hh ?_;refine rg 9 fun κ hK=>?_;go_simp;refine hK.out _ _ trivial ?_;intro hh;try simp only[pt]
 refine rg 13 fun κ hK=>?_;go_simp;refine(zR (Y:=((kG y m false:Nat):Int)) (c:=aR l k) y m _ hy hm rfl Q6.out rfl E4.out).mono ?_;rintro e w' ⟨rfl,rfl⟩;go_wp2_with fail;refine hK.out _ _ trivial ?_;intro hh;try simp only[pt]
 refine rt 14 hh ?_;refine rt 15 hh ?_;refine rt 16 hh ?_;refine rt 19 hh ?_;refine rg 20 fun κ hK=>?_;go_simp;refine hK.out _ _ trivial ?_;intro hh;try simp only[pt]
 refine rt 21 hh ?_;refine rz ?_;go_wp2_with fail;go_ret2;refine⟨rfl,⟨by rw[E3.out];omega,?_⟩,?_⟩
 ·rw[E1.out,E2.out,E3.out,show ((l.length-1:Nat):Int)=(l.length:Int)-1 by omega];exact(HB.o.set2 _).set0 _
 ·exact(((Chg.refl (S:=fun q=>q=p)).setCell ⟨p,2,none⟩ (Ei rfl) _).setCell ⟨p,0,none⟩ (Ei rfl) _).drew
theorem Ps{w:World}{p:Nat}{l:List Bool}(h:IsBlock w p l)(k:Nat)(hk:k<l.length):
  Calls Tryz.prog 244 #[.pointer (some ⟨p,0,none⟩), .int .i64 k] w fun e w'=>e= .returned (.tuple #[.bool (aR l k), .int .i64 0])∧BlkStep w w' p (aB l k):=by
 by_cases h64:k<64
 ·exact Dp h k hk h64
 ·exact Do h k hk (E)
end
end Go.Proofs.YtchinbgemenenaaGreatDoor
