/- Lemmas and contracts under the claims of this seat. No condition. -/
import Derived.Deep.SlicePairs
import Derived.Test.YtchinbgemenenaaGreatDoorRows
import Derived.Lib.LaidTab
import Derived.Lay
import Derived.LaidSub
import Derived.MakeChecks
import Derived.SevenTiedAt
import Derived.JoinedOf
import Derived.ProofKit
import Derived.OpenShut
import Derived.ChangeVars
import Derived.Test.YtchinbgemenenaaGreatDoorZq1
import Derived.Test.YtchinbgemenenaaGreatDoorZq2
namespace Go.Proofs.YtchinbgemenenaaGreatDoor
set_option linter.unusedVariables false
set_option linter.unusedSimpArgs false
set_option maxRecDepth 100000
set_option maxHeartbeats 12800000
section
open Go.RowKit
def rI(P:Program)(md:Region.Mode)(ops:Array Oper)(Q:Exit→Act→World→Prop)(S:World→Prop)(z:Nat):Nat→Array Bool→Act→World→Prop
 | 0,l,a,w=>Region.ready md ops l=[]∧Q .normal a w
 | n+1,l,a,w=>(Region.ready md ops l=[]→Q .normal a w)∧∀i∈Region.ready md ops l,wpOp P ops Q i (fun a' w'=>(i=z∨S w')∧rI P md ops Q S z n (l.setIfInBounds i true) a' w') a w
section
variable {P:Program}{md:Region.Mode}{ops:Array Oper}{Q:Exit→Act→World→Prop}{S:World→Prop}{z i:Nat}{oi:Oper}{v:Value}{a:Act}{w:World}
theorem Vm:∀(n:Nat) (l:Array Bool) (a:Act) (w:World),rI P md ops Q S z n l a w→wpAny P md ops Q n l a w:=by
 intro n;induction n with
 | zero=>exact fun _ _ _ h=>h
 | succ n ih=>exact fun l a w h=>⟨h.1,fun i hi=>wpOp_mono (fun a' w' k=>ih _ a' w' k.2) (h.2 i hi)⟩
theorem Is{l:Array Bool}{j:Nat}{oj:Oper}(hi:i∈Region.ready md ops l)(hj:j∈Region.ready md ops l)(ho:ops[j]? =some oj):∀e∈oj.after,Region.binds md e=true→e.on≠i:=by
 intro e he hb h;obtain⟨h0,_⟩:=mem_ready.1 hi;obtain⟨_,o,ho',hall⟩:=mem_ready.1 hj;rw[ho]at ho';injection ho' with ho'
 subst ho';have h1:=hall e he hb;rw[h]at h1;by_cases hl:i<l.size<;>simp[hl]at h0 h1
 rw[h0]at h1;cases h1
theorem Zd{l:Array Bool}{j:Nat}{oj:Oper}(hj:j∈Region.ready md ops l)(ho:ops[j]? =some oj):∀e∈oj.after,Region.binds md e=true→¬l.getD e.on true=false:=by
 intro e he hb h;obtain⟨_,o,ho',hall⟩:=mem_ready.1 hj;rw[ho]at ho';injection ho' with ho'
 subst ho';have h1:=hall e he hb;by_cases hl:e.on<l.size<;>simp[hl]at h h1
 rw[h]at h1;cases h1
theorem xJ(hi:ops[i]? =some oi)(hsel:∀(j:Nat) (o:Oper) cs b,ops[j]? =some o→o.op≠ .select cs b)(hQ:∀c a w,Q (.panic c) (a.put oi.dst v) w→Q (.panic c) a w)
  {k:Nat} (hzk:∀oz,ops[z]? =some oz→∃e∈oz.after,Region.binds md e=true∧e.on=k):∀(n:Nat) (l:Array Bool) (a:Act) (w:World),
  (k=i∨(l.getD k true=false∧∀ok,ops[k]? =some ok→∃e∈ok.after,Region.binds md e=true∧e.on=i))→(∀j oj,ops[j]? =some oj→j≠i→l.getD j true=false→(∀e∈oj.after,Region.binds md e=true→e.on≠i)→oi.apart ops oj=true)→i∈Region.ready md ops l→YieldsIf P ops S oi v a→S w→
  rI P md ops Q S z n (l.setIfInBounds i true) (a.put oi.dst v) w→rI P md ops Q S z (n+1) l a w
 | n,l,a,w,hz,hf,hr,hy,hS,H=>by
  refine⟨fun h0=>absurd hr (by rw[h0];simp),fun j hj=>?_⟩;by_cases e:j=i
  ·subst e;exact hy.wpOp hi hS ⟨Ej hS,H⟩
  ·have hj2:j∈Region.ready md ops (l.setIfInBounds i true):=ready_mono hj e;match n,H with
   | 0,H=>rw[H.1]at hj2;cases hj2
   | n+1,H=>
    obtain⟨hun,oj,hoj,_⟩:=mem_ready.1 hj;have hap:=Is hr hj hoj;have hjz:j≠z:=fun e2=>by
     subst e2;obtain⟨x,h1,h2,h3⟩:=hzk oj hoj;rcases hz with e3 | ⟨e3,_⟩
     ·exact hap x h1 h2 (h3.trans e3)
     ·exact Zd hj hoj x h1 h2 (by rw[h3];exact e3)
    refine wpOp_mono ?_ (wpOp_putIf hoj (hf j oj hoj e hun hap) (fun cs b=>hsel i oi cs b hi) (fun cs b=>hsel j oj cs b hoj) hQ hy (H.2 j hj2));rintro a' w' ⟨k1,k2,k3⟩;have hS':=k2.resolve_left hjz;rw[Array.setIfInBounds_comm _ _ (Ne.symm e)]at k3;refine⟨Ej hS',xJ hi hsel hQ hzk n _ a' w' (hz.imp id (fun e3=>⟨by rw[getD_set_ne true (fun e4=>by subst e4;obtain⟨x,h1,h2,h3⟩:=e3.2 oj hoj;exact hap x h1 h2 h3)];exact e3.1,e3.2⟩)) (fun k ok hk hki hku=>?_) (ready_mono hr (Ne.symm e)) k1 hS' k3⟩;refine hf k ok hk hki ?_;by_cases hjk:j=k
    ·subst hjk;exact hun
    ·rwa[getD_set_ne true hjk]at hku
end
section
variable {P:Program}{md:Region.Mode}{l:List Oper}{Q:Exit→Act→World→Prop}{S:World→Prop}{z n:Nat}{oi:Oper}{listed:Array Bool}{a:Act}{w:World}
theorem vY{id:Nat}(S:World→Prop)(z:Nat)(hm:P.follows .mixedOrders=true)(hS:S w.drew)
  (h:S w.drew→rI P .any l.toArray (NoPanic Q) S z l.length (Array.replicate l.length false) a w.drew):(Code.region id l.toArray true).wp P Q a w:=by
 refine wp_region_noPanic (wp_region_any hm (Vm (S:=S) (z:=z) _ _ _ _ ?_));rw[az1];exact h hS
def oD(md:Region.Mode)(l:List Oper)(z i:Nat):Bool:=match (l.drop z).head? with
 | some o=>o.after.any (fun e=>Region.binds md e&&e.on==i)
 | none=>true
theorem tY{z i:Nat}(h:oD md l z i=true):∀oz,l.toArray[z]? =some oz→∃e∈oz.after,Region.binds md e=true∧e.on=i:=fun oz hoz=>by
 unfold oD at h;have e:(l.drop z).head?=some oz:=by rw[List.head?_drop];simpa using hoz
 rw[e]at h;simpa only[Array.any_eq_true',Bool.and_eq_true,beq_iff_eq]using h
def Bf(md:Region.Mode)(l:List Oper)(listed:Array Bool)(z i:Nat):Bool:=oD md l z i||(List.range l.length).any (fun k=>oD md l z k&&oD md l k i&& !(listed.getD k true))
theorem rl{v:Value}{a':Act}(i:Nat){oi:Oper}(hS:S w)(h:rI P md l.toArray (NoPanic Q) S z n (listed.setIfInBounds i true) a' w)
  (hi:(l.drop i).head?=some oi:=by rfl) (hk:(Region.noSelect l.toArray&&Region.free md l.toArray listed i&&(Region.ready md l.toArray listed).contains i&&Bf md l listed z i)=true:=by kernel_rfl)
  (hw:Region.wanted oi (yielded l.toArray a.tmps)=true:=by rfl) (hy:∀w,S w→(execOp a.eval oi).run P w= .ok (.value v) w:=by (intro w hSw;(try dsimp only at hSw);go_simp;all_goals with_reducible rfl))
  (hp:a.put oi.dst v=a':=by ((try simp only[pt]);rfl)):rI P md l.toArray (NoPanic Q) S z (n+1) listed a w:=by
 subst hp;simp only[am9]at hk;obtain⟨k,h1,h2⟩:∃k,oD md l z k=true∧(k=i∨(listed.getD k true=false∧oD md l k i=true)):=by
  have h4:=hk.2;unfold Bf at h4;rcases Bool.or_eq_true _ _▸h4 with h5 | h5
  ·exact⟨i,h5,Ei rfl⟩
  ·obtain⟨k,_,h6⟩:=ap1.1 h5;simp only[am9,Bool.not_eq_true']at h6;exact⟨k,h6.1.1,Ej ⟨h6.2,h6.1.2⟩⟩
 exact xJ (cO hi) (Region.noSelect_spec hk.1.1.1) (fun _ _ _ h=>h) (tY h1) n listed a w (h2.imp id (fun h=>⟨h.1,tY h.2⟩)) (Region.free_spec (cO hi) hk.1.1.2) (by simpa using hk.1.2) (Ei ⟨hw,hy⟩) hS h
theorem Ab{oz:Oper}(hz:(l.drop z).head?=some oz)(hr:Region.ready md l.toArray listed=[z])(hr2:Region.ready md l.toArray (listed.setIfInBounds z true)=[])(hw:Region.wanted oz (yielded l.toArray a.tmps)=true)
  (h:Oper.wp P oz a w (fun a' w'=>Q .normal a' w') (NoPanic Q)):rI P md l.toArray (NoPanic Q) S z (n+1) listed a w:=by
 refine⟨fun h0=>absurd (h0.symm.trans hr) Es,fun i hi=>?_⟩;rw[hr]at hi;obtain rfl:i=z:=by simpa using hi
 refine wpOp_step (cO hz) (fun K hK=>?_);rw[aI4 hw];refine Oper.wp_mono (fun a' w' hq=>hK _ _ ⟨Ei rfl,?_⟩) h;cases n with
 | zero=>exact⟨hr2,NoPanic.normal hq⟩
 | succ n=>exact⟨fun _=>NoPanic.normal hq,by rw[hr2];simp⟩
end
end
section
open Go.ChangeShapes Go.WideShapes Go.ChangeAt Go.RowKit
variable {H:Type}{enc:TypeId×Value→H}{P:Program}{w:World}{base:Nat}{sp:Nat→Bool}{held:Bool}
theorem pF{t:TypeId}{k:IntKind}{fuel:Nat}{v:Value}{x:DataW H×List MemPlace}(ht:P.underlying t=some (.int k))(hf:DataW.trod enc P w base sp held fuel t [v]=some x):∃n,v= .int k n∧(Lit.int k n).wf=true:=by
 cases fuel with
 | zero=>simp[DataW.trod]at hf
 | succ fuel=>
  cases v<;>simp[DataW.trod,ht]at hf
  rename_i k' n;obtain⟨⟨rfl,h⟩,_⟩:=hf;exact⟨n,rfl,h⟩
structure Stp where
 k:Int
 p:Int
 n:Int
 r:Row
instance:Inhabited Stp:=⟨⟨0,0,0,default⟩⟩
structure ArgS (w:World) (a:Option Addr) (cap:Nat) (xs:List Stp):Prop where
 reads:∀i,i<xs.length→∃b off,a=some ⟨b,off,none⟩∧b<w.heap.size∧∀j,j<xs.length→
  w.cell? ⟨b,off+j*4,none⟩=some (.int .i64 (xs[j]?.getD default).k)∧w.cell? ⟨b,off+j*4+1,none⟩=some (.int .i64 (xs[j]?.getD default).p)∧w.cell? ⟨b,off+j*4+2,none⟩=some (.int .i64 (xs[j]?.getD default).n)∧
  w.cell? ⟨b,off+j*4+3,none⟩=some (.slice (xs[j]?.getD default).r.a (xs[j]?.getD default).r.l.length (xs[j]?.getD default).r.cap)
 wf:∀i,i<xs.length→(Lit.int .i64 (xs[i]?.getD default).k).wf=true∧(Lit.int .i64 (xs[i]?.getD default).p).wf=true∧(Lit.int .i64 (xs[i]?.getD default).n).wf=true∧ArgI .u8 w (xs[i]?.getD default).r.a (xs[i]?.getD default).r.cap (xs[i]?.getD default).r.l
 le:xs.length≤cap
 max:cap≤maxLen
variable {H:Type}{enc:TypeId×Value→H}{P:Program}{w:World}{base:Nat}{sp:Nat→Bool}{held:Bool}
theorem ad0{t e g:TypeId}{f0 f1 f2 f3:Field}{fuel:Nat}{a:Option Addr}{len cap:Nat}{x:DataW H×List MemPlace}(ht:P.underlying t=some (.slice e))(he:P.underlying e=some (.struct #[f0,f1,f2,f3]))
  (ce:P.cellsOf e=4) (o0:f0.offset=0) (o1:f1.offset=1) (o2:f2.offset=2) (o3:f3.offset=3) (c0:P.cellsOf f0.type=1) (c1:P.cellsOf f1.type=1) (c2:P.cellsOf f2.type=1) (c3:P.cellsOf f3.type=1)
  (i0:P.underlying f0.type=some (.int .i64)) (i1:P.underlying f1.type=some (.int .i64)) (i2:P.underlying f2.type=some (.int .i64)) (i3:P.underlying f3.type=some (.slice g)) (ig:P.underlying g=some (.int .u8)) (cg:P.cellsOf g=1)
  (hf:DataW.trod enc P w base sp held fuel t (Value.slice a len cap).cells.toList=some x):∃xs:List Stp,len=xs.length∧ArgS w a cap xs:=by
 rcases Go.Deep.open_slice ht hf with ⟨hcs,_⟩ | ⟨x,l,c,m,n,D,Pl,hcs,_,hl,hm,hmm,_,hx⟩
 ·simp[Value.cells]at hcs;obtain⟨rfl,rfl,rfl⟩:=hcs;exact⟨[],rfl,⟨fun i hi=>absurd hi Es,fun i hi=>absurd hi Es,Es,by unfold maxLen;omega⟩⟩
 ·simp[Value.cells]at hcs;obtain⟨rfl,rfl,rfl⟩:=hcs;have hlm:len≤m:=by rw[hmm];split<;>omega
  have hz:∀i,i<m→∃z:Stp,w.cell? (x.add (i*4))=some (.int .i64 z.k)∧w.cell? (x.add (i*4+1))=some (.int .i64 z.p)∧w.cell? (x.add (i*4+2))=some (.int .i64 z.n)∧w.cell? (x.add (i*4+3))=some (.slice z.r.a z.r.l.length z.r.cap)∧
    (Lit.int .i64 z.k).wf=true∧(Lit.int .i64 z.p).wf=true∧(Lit.int .i64 z.n).wf=true∧ArgI .u8 w z.r.a z.r.cap z.r.l:=fun i hi=>by
   obtain⟨cs',h1,h2⟩:=hx i hi;rw[ce]at h1;obtain⟨_,hlen,hcell⟩:=World.cells?_some h1;obtain⟨xs,k,hk,hxy,_,hxl,hfs⟩:=DataW.trod_struct he h2;match xs,hxl,cs',hlen with
   | [y0,y1,y2,y3],_,[v0,v1,v2,v3],_=>
    have g0:=hfs 0 f0 rfl;have g1:=hfs 1 f1 rfl;have g2:=hfs 2 f2 rfl;have g3:=hfs 3 f3 rfl;simp[o0,o1,o2,o3,c0,c1,c2,c3]at g0 g1 g2 g3;have e0:=hcell 0 E;have e1:=hcell 1 E;have e2:=hcell 2 E;have e3:=hcell 3 E;rw[Go.Deep.add_add]at e0 e1 e2 e3;obtain⟨n0,rfl,hw0⟩:=pF i0 g0;obtain⟨n1,rfl,hw⟩:=pF i1 g1;obtain⟨b2,rfl,hw2⟩:=pF i2 g2;obtain⟨a1,c1,xs1,e1',hA⟩:=ac9 i3 ig cg g3;injection e1' with e1'
    subst e1';exact⟨⟨n0,n1,b2,⟨a1,c1,xs1⟩⟩,by simpa using e0,by simpa using e1,by simpa using e2,by simpa using e3,hw0,hw,hw2,hA⟩
  obtain⟨z,hzz⟩:=Go.Deep.choose_lt hz;have hlen:((List.range len).map z).length=len:=Es;have hget:∀j,j<len→((List.range len).map z)[j]?.getD default=z j:=fun j hj=>by simp[hj]
  refine⟨(List.range len).map z,hlen.symm,⟨fun i hi=>?_,fun i hi=>?_,by rw[hlen];exact hl,hm⟩⟩
  ·rw[hlen]at hi⊢;obtain⟨b,off,spot⟩:=x;have h0:=(hzz 0 E).1;have hspot:spot=none:=by simpa[Addr.add]using World.cell?_spot h0
   subst hspot;refine⟨b,off,rfl,World.block_lt_of_cell? w _ (by simpa[Addr.add]using h0),fun j hj=>?_⟩;obtain⟨g0,g1,g2,g3,_⟩:=hzz j E;rw[al9]at g0 g1 g2 g3;rw[hget j hj];exact⟨g0,g1,g2,g3⟩
  ·rw[hlen]at hi;rw[hget i hi];exact(hzz i E).2.2.2.2
end
def pP:List (String×DataW Unit):=[("math/bits.deBruijn64tab",Rows.laid_math_bits_deBruijn64tab)]
theorem ab6:(Rows.laid_math_bits_deBruijn64tab:DataW Unit)=Lib.tabData .u8 (Lib.deBruijn64tab.map Int.ofNat):=rfl
theorem Pq{W:World}(hL:laidMetH Tryz.prog pP W):BitTab W:=by
 rw[MakeChecks.laidMetH_plain _ _ _ Ek]at hL;have hL':laidMet Tryz.prog [("math/bits.deBruijn64tab",Lib.tabData .u8 (Lib.deBruijn64tab.map Int.ofNat))] W:=by rw[←ab6];exact hL
 have hg:Tryz.prog.globalNamed "math/bits.deBruijn64tab" =some 0:=Ek;have hT:=Lib.tabIs_of_head hg (t:=260) Ek Tryz.underlying260 aF7 Ek Ek hL';intro j hj;rw[hT.cell hg j (by simpa using hj)];simp[List.getD_eq_getElem?_getD,ar7 hj]
end Go.Proofs.YtchinbgemenenaaGreatDoor
