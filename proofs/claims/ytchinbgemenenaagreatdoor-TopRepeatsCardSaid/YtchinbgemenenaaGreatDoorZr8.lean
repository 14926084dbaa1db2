/- Lemmas and contracts under the claims of this seat. No condition. -/
import Derived.Deep.SlicePairs
import Derived.Test.YtchinbgemenenaaGreatDoorRows
import Derived.Lib.LaidTab
import Derived.Lay
import Derived.LaidSub
import Derived.MakeChecks
import Derived.SevenTiedAt
import Derived.JoinedOf
import Derived.ProofKit
import Derived.OpenShut
import Derived.ChangeVars
import Derived.Test.YtchinbgemenenaaGreatDoorZr1
import Derived.Test.YtchinbgemenenaaGreatDoorZr2
namespace Go.Proofs.YtchinbgemenenaaGreatDoor
set_option linter.unusedVariables false
set_option linter.unusedSimpArgs false
set_option maxRecDepth 100000
set_option maxHeartbeats 12800000
section
open Go.RowKit
def rO(P:Program)(md:Region.Mode)(ops:Array Oper)(Q:Exit→Act→World→Prop)(S:World→Prop)(z:Nat):Nat→Array Bool→Act→World→Prop
 | 0,l,a,w=>Region.ready md ops l=[]∧Q .normal a w
 | n+1,l,a,w=>(Region.ready md ops l=[]→Q .normal a w)∧∀i∈Region.ready md ops l,wpOp P ops Q i (fun a' w'=>(i=z∨S w')∧rO P md ops Q S z n (l.setIfInBounds i true) a' w') a w
section
variable {P:Program}{md:Region.Mode}{ops:Array Oper}{Q:Exit→Act→World→Prop}{S:World→Prop}{z i:Nat}{oi:Oper}{v:Value}{a:Act}{w:World}
theorem Vl:∀(n:Nat) (l:Array Bool) (a:Act) (w:World),rO P md ops Q S z n l a w→wpAny P md ops Q n l a w:=by
 intro n;induction n with
 | zero=>exact fun _ _ _ h=>h
 | succ n ih=>exact fun l a w h=>⟨h.1,fun i hi=>wpOp_mono (fun a' w' k=>ih _ a' w' k.2) (h.2 i hi)⟩
theorem Ip{l:Array Bool}{j:Nat}{oj:Oper}(hi:i∈Region.ready md ops l)(hj:j∈Region.ready md ops l)(ho:ops[j]? =some oj):∀e∈oj.after,Region.binds md e=true→e.on≠i:=by
 intro e he hb h;obtain⟨h0,_⟩:=mem_ready.1 hi;obtain⟨_,o,ho',hall⟩:=mem_ready.1 hj;rw[ho]at ho';injection ho' with ho'
 subst ho';have h1:=hall e he hb;rw[h]at h1;by_cases hl:i<l.size<;>simp[hl]at h0 h1
 rw[h0]at h1;cases h1
theorem Ze{l:Array Bool}{j:Nat}{oj:Oper}(hj:j∈Region.ready md ops l)(ho:ops[j]? =some oj):∀e∈oj.after,Region.binds md e=true→¬l.getD e.on true=false:=by
 intro e he hb h;obtain⟨_,o,ho',hall⟩:=mem_ready.1 hj;rw[ho]at ho';injection ho' with ho'
 subst ho';have h1:=hall e he hb;by_cases hl:e.on<l.size<;>simp[hl]at h h1
 rw[h]at h1;cases h1
theorem xO(hi:ops[i]? =some oi)(hsel:∀(j:Nat) (o:Oper) cs b,ops[j]? =some o→o.op≠ .select cs b)(hQ:∀c a w,Q (.panic c) (a.put oi.dst v) w→Q (.panic c) a w)
  {k:Nat} (hzk:∀oz,ops[z]? =some oz→∃e∈oz.after,Region.binds md e=true∧e.on=k):∀(n:Nat) (l:Array Bool) (a:Act) (w:World),
  (k=i∨(l.getD k true=false∧∀ok,ops[k]? =some ok→∃e∈ok.after,Region.binds md e=true∧e.on=i))→(∀j oj,ops[j]? =some oj→j≠i→l.getD j true=false→(∀e∈oj.after,Region.binds md e=true→e.on≠i)→oi.apart ops oj=true)→i∈Region.ready md ops l→YieldsIf P ops S oi v a→S w→
  rO P md ops Q S z n (l.setIfInBounds i true) (a.put oi.dst v) w→rO P md ops Q S z (n+1) l a w
 | n,l,a,w,hz,hf,hr,hy,hS,H=>by
  refine⟨fun h0=>absurd hr (by rw[h0];simp),fun j hj=>?_⟩;by_cases e:j=i
  ·subst e;exact hy.wpOp hi hS ⟨Ej hS,H⟩
  ·have hj2:j∈Region.ready md ops (l.setIfInBounds i true):=ready_mono hj e;match n,H with
   | 0,H=>rw[H.1]at hj2;cases hj2
   | n+1,H=>
    obtain⟨hun,oj,hoj,_⟩:=mem_ready.1 hj;have hap:=Ip hr hj hoj;have hjz:j≠z:=fun e2=>by
     subst e2;obtain⟨x,h1,h2,h3⟩:=hzk oj hoj;rcases hz with e3 | ⟨e3,_⟩
     ·exact hap x h1 h2 (h3.trans e3)
     ·exact Ze hj hoj x h1 h2 (by rw[h3];exact e3)
    refine wpOp_mono ?_ (wpOp_putIf hoj (hf j oj hoj e hun hap) (fun cs b=>hsel i oi cs b hi) (fun cs b=>hsel j oj cs b hoj) hQ hy (H.2 j hj2));rintro a' w' ⟨k1,k2,k3⟩;have hS':=k2.resolve_left hjz;rw[Array.setIfInBounds_comm _ _ (Ne.symm e)]at k3;refine⟨Ej hS',xO hi hsel hQ hzk n _ a' w' (hz.imp id (fun e3=>⟨by rw[getD_set_ne true (fun e4=>by subst e4;obtain⟨x,h1,h2,h3⟩:=e3.2 oj hoj;exact hap x h1 h2 h3)];exact e3.1,e3.2⟩)) (fun k ok hk hki hku=>?_) (ready_mono hr (Ne.symm e)) k1 hS' k3⟩;refine hf k ok hk hki ?_;by_cases hjk:j=k
    ·subst hjk;exact hun
    ·rwa[getD_set_ne true hjk]at hku
end
section
variable {P:Program}{md:Region.Mode}{l:List Oper}{Q:Exit→Act→World→Prop}{S:World→Prop}{z n:Nat}{oi:Oper}{listed:Array Bool}{a:Act}{w:World}
theorem qZ{id:Nat}(S:World→Prop)(z:Nat)(hm:P.follows .mixedOrders=true)(hS:S w.drew)
  (h:S w.drew→rO P .any l.toArray (NoPanic Q) S z l.length (Array.replicate l.length false) a w.drew):(Code.region id l.toArray true).wp P Q a w:=by
 refine wp_region_noPanic (wp_region_any hm (Vl (S:=S) (z:=z) _ _ _ _ ?_));rw[ay7];exact h hS
def oH(md:Region.Mode)(l:List Oper)(z i:Nat):Bool:=match (l.drop z).head? with
 | some o=>o.after.any (fun e=>Region.binds md e&&e.on==i)
 | none=>true
theorem vF{z i:Nat}(h:oH md l z i=true):∀oz,l.toArray[z]? =some oz→∃e∈oz.after,Region.binds md e=true∧e.on=i:=fun oz hoz=>by
 unfold oH at h;have e:(l.drop z).head?=some oz:=by rw[List.head?_drop];simpa using hoz
 rw[e]at h;simpa only[Array.any_eq_true',Bool.and_eq_true,beq_iff_eq]using h
def Bg(md:Region.Mode)(l:List Oper)(listed:Array Bool)(z i:Nat):Bool:=oH md l z i||(List.range l.length).any (fun k=>oH md l z k&&oH md l k i&& !(listed.getD k true))
theorem rl{v:Value}{a':Act}(i:Nat){oi:Oper}(hS:S w)(h:rO P md l.toArray (NoPanic Q) S z n (listed.setIfInBounds i true) a' w)
  (hi:(l.drop i).head?=some oi:=by rfl) (hk:(Region.noSelect l.toArray&&Region.free md l.toArray listed i&&(Region.ready md l.toArray listed).contains i&&Bg md l listed z i)=true:=by kernel_rfl)
  (hw:Region.wanted oi (yielded l.toArray a.tmps)=true:=by rfl) (hy:∀w,S w→(execOp a.eval oi).run P w= .ok (.value v) w:=by (intro w hSw;(try dsimp only at hSw);go_simp;all_goals with_reducible rfl))
  (hp:a.put oi.dst v=a':=by ((try simp only[pt]);rfl)):rO P md l.toArray (NoPanic Q) S z (n+1) listed a w:=by
 subst hp;simp only[am5]at hk;obtain⟨k,h1,h2⟩:∃k,oH md l z k=true∧(k=i∨(listed.getD k true=false∧oH md l k i=true)):=by
  have h4:=hk.2;unfold Bg at h4;rcases Bool.or_eq_true _ _▸h4 with h5 | h5
  ·exact⟨i,h5,Ei rfl⟩
  ·obtain⟨k,_,h6⟩:=ao6.1 h5;simp only[am5,Bool.not_eq_true']at h6;exact⟨k,h6.1.1,Ej ⟨h6.2,h6.1.2⟩⟩
 exact xO (cO hi) (Region.noSelect_spec hk.1.1.1) (fun _ _ _ h=>h) (vF h1) n listed a w (h2.imp id (fun h=>⟨h.1,vF h.2⟩)) (Region.free_spec (cO hi) hk.1.1.2) (by simpa using hk.1.2) (Ei ⟨hw,hy⟩) hS h
theorem tI{oz:Oper}(hz:(l.drop z).head?=some oz)(hr:Region.ready md l.toArray listed=[z])(hr2:Region.ready md l.toArray (listed.setIfInBounds z true)=[])(hw:Region.wanted oz (yielded l.toArray a.tmps)=true)
  (h:Oper.wp P oz a w (fun a' w'=>Q .normal a' w') (NoPanic Q)):rO P md l.toArray (NoPanic Q) S z (n+1) listed a w:=by
 refine⟨fun h0=>absurd (h0.symm.trans hr) Es,fun i hi=>?_⟩;rw[hr]at hi;obtain rfl:i=z:=by simpa using hi
 refine wpOp_step (cO hz) (fun K hK=>?_);rw[aH9 hw];refine Oper.wp_mono (fun a' w' hq=>hK _ _ ⟨Ei rfl,?_⟩) h;cases n with
 | zero=>exact⟨hr2,NoPanic.normal hq⟩
 | succ n=>exact⟨fun _=>NoPanic.normal hq,by rw[hr2];simp⟩
end
end
section
open Go.ChangeShapes Go.WideShapes Go.ChangeAt Go.RowKit
variable {H:Type}{enc:TypeId×Value→H}{P:Program}{w:World}{base:Nat}{sp:Nat→Bool}{held:Bool}
structure Stp where
 k:Int
 p:Int
 n:Int
 r:Row
instance:Inhabited Stp:=⟨⟨0,0,0,default⟩⟩
variable {H:Type}{enc:TypeId×Value→H}{P:Program}{w:World}{base:Nat}{sp:Nat→Bool}{held:Bool}
end
def pS:List (String×DataW Unit):=[("math/bits.deBruijn64tab",Rows.laid_math_bits_deBruijn64tab)]
theorem ab6:(Rows.laid_math_bits_deBruijn64tab:DataW Unit)=Lib.tabData .u8 (Lib.deBruijn64tab.map Int.ofNat):=rfl
theorem Pq{W:World}(hL:laidMetH Tryz.prog pS W):BitTab W:=by
 rw[MakeChecks.laidMetH_plain _ _ _ Ek]at hL;have hL':laidMet Tryz.prog [("math/bits.deBruijn64tab",Lib.tabData .u8 (Lib.deBruijn64tab.map Int.ofNat))] W:=by rw[←ab6];exact hL
 have hg:Tryz.prog.globalNamed "math/bits.deBruijn64tab" =some 0:=Ek;have hT:=Lib.tabIs_of_head hg (t:=260) Ek Tryz.underlying260 aF2 Ek Ek hL';intro j hj;rw[hT.cell hg j (by simpa using hj)];simp[List.getD_eq_getElem?_getD,ar3 hj]
end Go.Proofs.YtchinbgemenenaaGreatDoor
