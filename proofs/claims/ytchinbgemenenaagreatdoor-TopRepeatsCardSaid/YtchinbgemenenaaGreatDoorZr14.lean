/- Lemmas and contracts under the claims of this seat. No condition. -/
import Derived.Test.YtchinbgemenenaaGreatDoorZr1
import Derived.Test.YtchinbgemenenaaGreatDoorZr7
import Derived.Test.YtchinbgemenenaaGreatDoorZr11
import Derived.Test.YtchinbgemenenaaGreatDoorZr12
import Derived.Test.YtchinbgemenenaaGreatDoorZr13
namespace Go.Proofs.YtchinbgemenenaaGreatDoor
set_option linter.unusedVariables false
set_option linter.unusedSimpArgs false
set_option maxRecDepth 100000
set_option maxHeartbeats 12800000
section
open Go.RowKit
theorem PVw.row_inj {m:Pm}{L:List Int}{N:Nat}(h:PVw m L N){x y:Nat}(hx:x∈m.O)(hy:y∈m.O)(e:aD m.L x=aD m.L y):x=y:=by
 obtain⟨i,hi,rfl⟩:=as4 hx;obtain⟨j,hj,rfl⟩:=as4 hy;rcases aB1 i j with q | q | q
 ·have :=ay2.1 h.so i j hi hj q;omega
 ·subst q;rfl
 ·have :=ay2.1 h.so j i hj hi q;omega
theorem aj3{w:World}{p q bp:Nat}{SA:Nat→Prop}{lv ov:Value}{m:Pm}(h:PmIn w p q SA lv ov m)(hok:m.Ok)(hb:w.cell? ⟨bp,0,none⟩=some (.pointer (some ⟨p,0,none⟩)))(hbn:¬pmS p SA lv ov bp)
  (hl:m.L.length≤1000000000) (hinj:∀a∈m.O,∀b∈m.O,aD m.L a=aD m.L b→a=b):
  Calls Tryz.prog 95 #[ov, .func (.func 172) #[] #[.pointer (some ⟨bp,0,none⟩)]] w
   fun e w'=>e= .returned (.tuple #[])∧∃O':List Nat,O'.Perm m.O∧(Pm.mk m.A m.L O' m.R m.N).Sorted∧PmIn w' p q SA lv ov ⟨m.A,m.L,O',m.R,m.N⟩∧Chg (fun b=>ov.ownBlock=some b) w w':=by
 by_cases h0:m.O.length=0
 ·have e0:m.O=[]:=aq2 h0;obtain⟨a,c,rfl,_,_⟩:=aM h.ord;have key:Calls Tryz.prog 95 #[.slice a m.O.length c, .func (.func 172) #[] #[.pointer (some ⟨bp,0,none⟩)]] w fun e w'=>e= .returned (.tuple #[])∧w'=w:=by
   rw[h0];exact AnyF.slices_SortFunc_none Tryz.laysSF0 a c _ w
  refine key.mono ?_;rintro e w' ⟨rfl,rfl⟩;exact⟨rfl,m.O,List.Perm.refl _,by unfold Pm.Sorted;rw[e0];exact List.Pairwise.nil,h,Chg.refl⟩
 ·rcases h.ord.2 with ⟨_,h1⟩ | ⟨g,cap,cur,rfl,_,hg,hc1,hc2,hsz,htk⟩
  ·omega
  have hlen:0<m.L.length:=by
   have :=hok.lt (as3 (l:=m.O) (n:=0) E);omega
  obtain⟨gl,capl,rfl,hrd⟩:=h.rd hlen hb
  letI:Inhabited (Fin m.L.length):=⟨⟨0,hlen⟩⟩
  let d:Array (Fin m.L.length):=(m.O.attach.map fun x=>⟨x.1,hok.lt x.2⟩).toArray
  have hdv:d.toList.map Fin.val=m.O:=by
   show (m.O.attach.map _).map _=m.O;rw[av0];exact ao9 m.O
  have hds:d.size=m.O.length:=by rw[←Array.length_toList,←at1 (f:=Fin.val),hdv]
  have henc:d.toList.map (fun x:Fin m.L.length=>bG x.1)=m.O.map bG:=by
   have e:=aG8 (List.map bG) hdv;rw[av0]at e;exact e
  have hqlt:=(bX h.ord (k:=g) rfl).2;have hH:Go.Sort.Holds (fun x:Fin m.L.length=>bG x.1) w g 0 d:=by
   intro j hj;refine⟨?_,aH3 w g _ _ _ hg⟩;rw[aC7,aG7 w g j _ _ _ hg,←am1];have e:(cur.toList.take (m.O.length*1))[j]? =(m.O.map bG)[j]? :=by rw[htk]
   rw[ar9,aH9 E]at e;rw[e,←henc,ar6];simp[hj]
  obtain⟨n1,n2,n3⟩:=h.d3 g rfl;have hcmp:CmpLays1 Tryz.prog 172 #[.pointer (some ⟨bp,0,none⟩)] (fun x:Fin m.L.length=>bG x.1) (fun x y=>Lib.compareInt (aD m.L x.1) (aD m.L y.1)) g 0 d.size w:=by
   intro mm os dk _ x y;have hc:=dX (fun x:Fin m.L.length=>bG x.1) w g mm dk os;refine(Rl (hrd.chg hc (fun e=>hbn (by rw[e];exact Ej (Ej (Ej rfl)))) (fun e=>n1 e.symm) (fun e=>n3 (by rw[←e];rfl))) x.1 y.1 x.2 y.2 hl).mono ?_;rintro e w' ⟨rfl,n,rfl⟩;exact⟨rfl,n,#[],by rw[Go.Sort.grow_empty]⟩
  have hlt:∀x y:Fin m.L.length,ltOf (fun x y:Fin m.L.length=>Lib.compareInt (aD m.L x.1) (aD m.L y.1)) x y=true↔aD m.L x.1<aD m.L y.1:=fun x y=>by
   unfold ltOf;rw[aH2,xZ]
  have hltf:∀x y:Fin m.L.length,ltOf (fun x y:Fin m.L.length=>Lib.compareInt (aD m.L x.1) (aD m.L y.1)) x y=false↔¬aD m.L x.1<aD m.L y.1:=fun x y=>by
   rw[←hlt,am7]
  have hO:Go.Sort.SWO (ltOf (fun x y:Fin m.L.length=>Lib.compareInt (aD m.L x.1) (aD m.L y.1))):=
   ⟨fun x=>(hltf x x).2 E,fun x y z a b=>(hlt x z).2 (by have :=(hlt x y).1 a;have :=(hlt y z).1 b;omega),fun x y z a b=>(hltf x z).2 (by have :=(hltf x y).1 a;have :=(hltf y z).1 b;omega)⟩
  have eg:∀args w,(callFunc 172 args).run Tryz.prog w= .ok (.enter 172 args) w:=enters_of Tryz.func172 Ek rfl;have hcon:=Tryz.slices_SortFunc (fun x:Fin m.L.length=>bG x.1) (fun _=>rfl) (fun x y=>Lib.compareInt (aD m.L x.1) (aD m.L y.1)) hO 172 #[.pointer (some ⟨bp,0,none⟩)] g 0 cap d w eg hcmp hH hqlt (by rw[hds];have :=hok.olen;omega);rw[hds]at hcon;refine hcon.mono ?_;rintro e w' ⟨rfl,d',n,os,hpi,hsi,rfl⟩;have hd's:d'.size=m.O.length:=by have :=hpi.1;omega
  have hperm:(d'.toList.map Fin.val).Perm m.O:=by
   have :=hpi.2.2;rw[al8 E,al8 E]at this;rw[←hdv];exact this.map _
  have hch:Chg (fun b=>b=g) w (sortWorld (fun x:Fin m.L.length=>bG x.1) w g 0 n d' os):=dX _ _ _ _ _ _;have hnd:(d'.toList.map Fin.val).Nodup:=hperm.nodup_iff.2 hok.nd;refine⟨rfl,d'.toList.map Fin.val,hperm,ay2.2 (fun i j hi hj hij=>?_),⟨hch.heap h.hp (fun e=>n1 e.symm),h.ar.chg hch (fun k hk e=>n2 (e▸hk)),hch.own h.tab (fun k hk e=>n3 (e▸hk)),?_,h.d1,h.d2,h.d3⟩,hch.mono (fun b e=>by rw[e];rfl)⟩
  ·have hj':j<d'.size:=by simpa using hj
   have :=hsi i j (aC8 _) hij E;rw[hltf,aH4 d' i E,aH4 d' j hj']at this;have hne:aD m.L (d'.toList.map Fin.val)[i]≠aD m.L (d'.toList.map Fin.val)[j]:=fun e=>by
    have :=hinj _ (hperm.mem_iff.1 (as3 hi)) _ (hperm.mem_iff.1 (as3 hj)) e;exact(ay2.1 hnd i j hi hj hij) this
   have e1:(d'.toList.map Fin.val)[i]=(d'[i]'(E)).1:=Es;have e2:(d'.toList.map Fin.val)[j]=(d'[j]'hj').1:=Es;show aD m.L _<aD m.L _;rw[e1,e2]at hne⊢;omega
  ·have hl':(d'.toList.map Fin.val).length=m.O.length:=by simp[hd's]
   have :=iM (fun x:Fin m.L.length=>bG x.1) h.ord n d' os hd's;show World.ownsRow _ _ _ _ _ (d'.toList.map Fin.val).length ((d'.toList.map Fin.val).map bG);rw[hl',av0];exact this
theorem Mz{S:Nat→Prop}{w:World}{p c:Nat}{L:List Int}{N:Nat}(h:PmV S w p c L N)(hc:c≤1000000)(hL:L.length≤1000000)(a b:Nat)(ha:a<L.length)(hb:b<L.length):
  Calls Tryz.prog 114 #[.pointer (some ⟨p,0,none⟩), .int .i64 a, .int .i64 b] w fun e w'=>e= .returned (.int .i64 0)∧PmStep S w w' p c (mvL L a b) N:=by
 obtain⟨q,SA,lv,ov,m,hP0,hV,hml,hS⟩:=h;have hlt:=hP0.lt;obtain⟨W,hW⟩:∃W,W=((w.alloc (.cells #[.pointer (some ⟨p,0,none⟩)] 92)).alloc (.cells #[.int .i64 (a:Int)] 3)).alloc (.cells #[.int .i64 (b:Int)] 3):=⟨_,rfl⟩;have hB:Below w.heap.size w W:=by rw[hW];exact((aC w _).alloc Es _).alloc (by simp;omega) _
 have hsz:W.heap.size=w.heap.size+3:=by rw[hW];simp
 have c1:W.cell? ⟨w.heap.size,0,none⟩=some (.pointer (some ⟨p,0,none⟩)):=by
  rw[hW];refine((aC ((w.alloc (.cells #[.pointer (some ⟨p,0,none⟩)] 92)).alloc (.cells #[.int .i64 (a:Int)] 3)) (.cells #[.int .i64 (b:Int)] 3)).cell (p:=⟨w.heap.size,0,none⟩) (by simp;omega)).trans ?_;exact((aC (w.alloc (.cells #[.pointer (some ⟨p,0,none⟩)] 92)) (.cells #[.int .i64 (a:Int)] 3)).cell (p:=⟨w.heap.size,0,none⟩) Es).trans (aF9 _ _ _ _ rfl)
 have c2:W.cell? ⟨w.heap.size+1,0,none⟩=some (.int .i64 (a:Int)):=by
  rw[hW];refine((aC ((w.alloc (.cells #[.pointer (some ⟨p,0,none⟩)] 92)).alloc (.cells #[.int .i64 (a:Int)] 3)) (.cells #[.int .i64 (b:Int)] 3)).cell (p:=⟨w.heap.size+1,0,none⟩) Es).trans ?_;have :((w.alloc (.cells #[.pointer (some ⟨p,0,none⟩)] 92)).alloc (.cells #[.int .i64 (a:Int)] 3)).cell? ⟨(w.alloc (.cells #[.pointer (some ⟨p,0,none⟩)] 92)).heap.size,0,none⟩=some (.int .i64 (a:Int)):=aF9 _ _ _ _ rfl;rwa[show (w.alloc (.cells #[.pointer (some ⟨p,0,none⟩)] 92)).heap.size=w.heap.size+1 by simp]at this
 have c3:W.cell? ⟨w.heap.size+2,0,none⟩=some (.int .i64 (b:Int)):=by
  rw[hW];have :(((w.alloc (.cells #[.pointer (some ⟨p,0,none⟩)] 92)).alloc (.cells #[.int .i64 (a:Int)] 3)).alloc (.cells #[.int .i64 (b:Int)] 3)).cell? ⟨((w.alloc (.cells #[.pointer (some ⟨p,0,none⟩)] 92)).alloc (.cells #[.int .i64 (a:Int)] 3)).heap.size,0,none⟩=some (.int .i64 (b:Int)):=aF9 _ _ _ _ rfl;rwa[show ((w.alloc (.cells #[.pointer (some ⟨p,0,none⟩)] 92)).alloc (.cells #[.int .i64 (a:Int)] 3)).heap.size=w.heap.size+2 by simp]at this
 have hP:=hP0.below hB;have hC0:Chg (pmS p SA lv ov) w W:=by rw[hW];exact((Chg.refl.alloc _).alloc _).alloc _
 have hR:=hV.eR;have d1:decide ((a:Int)<0)=false:=aG9 E;have d2:decide (m.R≤a)=false:=aG9 E;have d3:decide ((b:Int)<0)=false:=aG9 E;have d4:decide (m.R≤b)=false:=aG9 E;obtain⟨_,_,_,c4,_,c5⟩:=hP.cells;have HP:=θ hP;have HC0:=θ hC0;have HLT:=θ hlt;have HV:=θ hV;have HC1:=θ c1;have HC2:=θ c2;have HC3:=θ c3;have HR:=θ hR;have hpl:p<w.heap.size:=hlt p (Ei rfl);have HSZ:=θ hsz;clear c5 hP hP0 hC0 hlt hV hB hR hsz;go_enter Tryz.func114,Tryz.ntmps114;go_wp2_with fail;rw[←hW];clear hW;go_quiet (fail);obtain⟨n1,rfl⟩:∃n1,n1=nq:=⟨_,rfl⟩;go_wp2_with fail;have hP1:=HP.o.below (aX (am4 _ _) n1);have hok1:=HV.o.ok;have key:=jE hP1 hok1 E (oM a b) 171 #[.pointer (some ⟨w.heap.size+1,0,none⟩), .pointer (some ⟨w.heap.size+2,0,none⟩)] (enters_of Tryz.func171 Ek rfl)
  (fun gl cap hlv W' L k hW hT hLl hk er ep=>by
   have hgl:=HLT.o gl (Ej (Ej (Ei (by rw[hlv];rfl))))
   have hb:=HV.o.row hk
   have hkl:=hok1.lt hk
   have :=Mr hT (k:=k) (by rw[hLl];exact hkl) (hW.cell HC2.o (fun e=>by have e:w.heap.size+1=gl:=e;omega)) (hW.cell HC3.o (fun e=>by have e:w.heap.size+2=gl:=e;omega)) E E (by rw[er];omega) (by rw[er];omega)
   rw[er,ep]at this
   exact this)
 have HK:=θ key;clear key hP1 hok1 c2 c3 c4;refine HK.o.mono ?_;rintro e w1 ⟨rfl,hP1,hC1⟩;have c1':w1.cell? ⟨w.heap.size,0,none⟩=some (.pointer (some ⟨p,0,none⟩)):=hC1.cell c1 (fun e=>by have :=HLT.o _ (Ej (Ej (Ei e)));exact absurd this (aA7 _));have hV1:=HV.o.move ha hb;have hs:=aj3 hP1 hV1.ok c1' (fun e=>by have :=HLT.o _ e;exact absurd this (aA7 _)) (by show (bK _ _ _).length≤_;rw[cK];omega) (fun x hx y hy e=>by
  have h1:=hV1.row hx
  have h2:=hV1.row hy
  have hrow:∀z∈m.O,mvI a b (aD (bK (oM a b) m.O m.L) z)=aD m.L z:=fun z hz=>by
   rw[(mR (f:=oM a b) hz (HV.o.ok.lt hz)).1]
   exact Kv a b _
  have e2:aD m.L x=aD m.L y:=by rw[←hrow x hx,←hrow y hy];exact aG8 _ e
  exact HV.o.row_inj hx hy e2)
 obtain⟨_,_,c6,_,_,_⟩:=hP1.cells;have HS:=θ hs;have HV1:=θ hV1;have HCC:=θ hC1;clear hs hV1 hP1 hC1 c1;go_wp2_with fail;refine HS.o.mono ?_;rintro e w2 ⟨rfl,O',hp,hso,hP2,hC2⟩;have HP2:=θ hP2;have HC2':=θ hC2;have HPP:=θ hp;have HSO:=θ hso;clear hp hso hP2 hC2;go_wp2_with fail;go_ret;have hv:=HV1.o.perm HPP.o HSO.o;exact⟨rfl,PmStep.of HP2.o hv (by show (bK _ _ _).length≤c;rw[cK];exact hml) (fun j hj=>Ei (hS j hj)) ((((HC0.o.drewN n1).mono hS).trans HCC.o (fun b hb=>Ei (hS b (Ej (Ej (Ei hb)))))).trans HC2'.out (fun b hb=>Ei (hS b (Ej (Ej (Ej hb))))))⟩
theorem Tryz.infoPair:(Tryz.prog.info? 134).map (fun i=>(i.zero,i.size,i.bytes))=some (some (.agg #[.int .i64 0, .int .i64 0]),2,16):=Ek
theorem PmIn.setA {w w':World}{p q:Nat}{SA SA':Nat→Prop}{lv ov:Value}{m:Pm}{A':Ar}(h:PmIn w p q SA lv ov m)(hA:IsArena w' q SA' A')(hc:Chg SA w w')(hs:∀k,SA' k→SA k∨w.heap.size≤k):PmIn w' p q SA' lv ov ⟨A',m.L,m.O,m.R,m.N⟩:=by
 have hlt:=h.lt;have hn:∀k,k<w.heap.size→¬SA k→¬SA' k:=fun k hk hn h=>(hs k h).elim hn (fun h=>E);exact⟨hc.heap h.hp h.d1,hA,hc.own h.tab (fun k hk=>(h.d2 k hk).2),hc.own h.ord (fun k hk=>(h.d3 k hk).2.1),hn p (hlt p (Ei rfl)) h.d1,
  fun g hg=>⟨(h.d2 g hg).1,hn g (hlt g (Ej (Ej (Ei hg)))) (h.d2 g hg).2⟩,fun g hg=>⟨(h.d3 g hg).1,hn g (hlt g (Ej (Ej (Ej hg)))) (h.d3 g hg).2.1,(h.d3 g hg).2.2⟩⟩
theorem PmIn.setPair {w:World}{p q gl n cap:Nat}{SA:Nat→Prop}{ov:Value}{m:Pm}(h:PmIn w p q SA (.slice (some ⟨gl,0,none⟩) n cap) ov m)(hn:m.L.length=n){k:Nat}(hk:k<n)(x y:Int):
  PmIn ((w.setCell ⟨gl,k*2,none⟩ (.int .i64 x)).setCell ⟨gl,k*2+1,none⟩ (.int .i64 y)) p q SA (.slice (some ⟨gl,0,none⟩) n cap) ov ⟨m.A,m.L.set k (x,y),m.O,m.R,m.N⟩:=by
 subst hn;have hT:TabIs w gl cap m.L:=h.tab;obtain⟨n1,n2⟩:=h.d2 gl rfl;have hc:Chg (fun b=>b=gl) w ((w.setCell ⟨gl,k*2,none⟩ (.int .i64 x)).setCell ⟨gl,k*2+1,none⟩ (.int .i64 y)):=(Chg.refl.setCell (S:=fun b=>b=gl) ⟨gl,k*2,none⟩ (Ei rfl) _).setCell ⟨gl,k*2+1,none⟩ (Ei rfl) _;refine⟨hc.heap h.hp (fun e=>n1 e.symm),h.ar.chg hc (fun j hj e=>n2 (by rw[←e];exact hj)),?_,hc.own h.ord (fun j hj e=>(h.d3 j hj).2.2 (by rw[e];rfl)),h.d1,h.d2,h.d3⟩;have h1:=(hT.setRow hk x).setPos (k:=k) (by simpa using hk) y;have e:((m.L.set k (x,aH m.L k)).set k (aD (m.L.set k (x,aH m.L k)) k,y))=m.L.set k (x,y):=by
  rw[ay6];congr 2;simp[aD,hk]
 rw[e]at h1;unfold TabIs at h1;rw[at4]at h1;show World.ownsRow _ _ _ _ _ (m.L.set k (x,y)).length _;rw[at4];exact h1
theorem PmIn.setO {w w':World}{p q g n c:Nat}{SA:Nat→Prop}{lv ov:Value}{m:Pm}{O':List Nat}(h:PmIn w p q SA lv ov m)(hn:O'.length=n)(ho:w'.ownsRow 0 3 1 (.slice (some ⟨g,0,none⟩) n c) n (O'.map bG))(hc:Chg (fun b=>ov.ownBlock=some b) w w')(hg:ov.ownBlock=some g∨w.heap.size≤g):
  PmIn (w'.setCell ⟨p,2,none⟩ (.slice (some ⟨g,0,none⟩) n c)) p q SA lv (.slice (some ⟨g,0,none⟩) n c) ⟨m.A,m.L,O',m.R,m.N⟩:=by
 subst hn;have hlt:=h.lt;have hp:w'.heap[p]? =_:=hc.heap h.hp (fun e=>(h.d3 p e).1 rfl);have hs:Chg (fun b=>b=p) w' (w'.setCell ⟨p,2,none⟩ (.slice (some ⟨g,0,none⟩) O'.length c)):=Chg.refl.setCell (S:=fun b=>b=p) ⟨p,2,none⟩ (Ei rfl) _;have hgp:g≠p∧¬SA g∧lv.ownBlock≠some g:=by
  rcases hg with hg | hg
  ·exact h.d3 g hg
  ·exact⟨fun e=>by have :=hlt p (Ei rfl);omega,fun e=>by have :=hlt g (Ej (Ei e));omega,fun e=>by have :=hlt g (Ej (Ej (Ei e)));omega⟩
 refine⟨aH6 w' p 2 _ _ _ hp,(h.ar.chg hc (fun k hk e=>(h.d3 k e).2.1 hk)).chg hs (fun k hk e=>h.d1 (by rw[←e];exact hk)),hs.own (hc.own h.tab (fun k hk e=>(h.d3 k e).2.2 hk)) (fun k hk e=>(h.d2 k hk).1 e),hs.own ho (fun k hk e=>?_),h.d1,h.d2,fun k hk=>?_⟩
 ·injection hk with hk;subst hk;exact hgp.1 e
 ·injection hk with hk;subst hk;exact hgp
theorem PmIn.setL {w w':World}{p q g n c:Nat}{SA:Nat→Prop}{lv ov:Value}{m:Pm}{L':List (Int×Int)}(h:PmIn w p q SA lv ov m)(hn:L'.length=n)(ho:w'.ownsRow 0 134 2 (.slice (some ⟨g,0,none⟩) n c) n (bB L'))(hc:Chg (fun b=>lv.ownBlock=some b) w w')(hg:lv.ownBlock=some g∨w.heap.size≤g):
  PmIn (w'.setCell ⟨p,1,none⟩ (.slice (some ⟨g,0,none⟩) n c)) p q SA (.slice (some ⟨g,0,none⟩) n c) ov ⟨m.A,L',m.O,m.R,m.N⟩:=by
 subst hn;have hlt:=h.lt;have hp:w'.heap[p]? =_:=hc.heap h.hp (fun e=>(h.d2 p e).1 rfl);have hs:Chg (fun b=>b=p) w' (w'.setCell ⟨p,1,none⟩ (.slice (some ⟨g,0,none⟩) L'.length c)):=Chg.refl.setCell (S:=fun b=>b=p) ⟨p,1,none⟩ (Ei rfl) _;have hgp:g≠p∧¬SA g∧ov.ownBlock≠some g:=by
  rcases hg with hg | hg
  ·exact⟨(h.d2 g hg).1,(h.d2 g hg).2,fun e=>(h.d3 g e).2.2 hg⟩
  ·exact⟨fun e=>by have :=hlt p (Ei rfl);omega,fun e=>by have :=hlt g (Ej (Ei e));omega,fun e=>by have :=hlt g (Ej (Ej (Ej e)));omega⟩
 refine⟨aH6 w' p 1 _ _ _ hp,(h.ar.chg hc (fun k hk e=>(h.d2 k e).2 hk)).chg hs (fun k hk e=>h.d1 (by rw[←e];exact hk)),hs.own ho (fun k hk e=>?_),hs.own (hc.own h.ord (fun k hk e=>(h.d3 k hk).2.2 e)) (fun k hk e=>(h.d3 k hk).1 e),h.d1,fun k hk=>?_,fun k hk=>⟨(h.d3 k hk).1,(h.d3 k hk).2.1,fun e=>?_⟩⟩
 ·injection hk with hk;subst hk;exact hgp.1 e
 ·injection hk with hk;subst hk;exact⟨hgp.1,hgp.2.1⟩
 ·injection e with e;subst e;exact hgp.2.2 hk
theorem ag3{S:Nat→Prop}{w:World}{p c:Nat}{L:List Int}{N:Nat}(h:PmV S w p c L N)(hc:c≤1000000)(hL:L.length≤1000000)(hN:N≤1000000)(x y:Nat)(hx:x<L.length)(hy:y<N)(h1:gL L x<0)(h2:∀r,gL L r≠y):
  Calls Tryz.prog 50 #[.pointer (some ⟨p,0,none⟩), .int .i64 x, .int .i64 y] w fun e w'=>e= .returned (.int .i64 0)∧PmStep S w w' p (c+1) (L.set x (y:Int)) N:=by
 obtain⟨q,SA,lv,ov,m,hP0,hV,hml,hS⟩:=h;have hlt:=hP0.lt;have hpl:p<w.heap.size:=hlt p (Ei rfl);have hR:=hV.eR;have hN':=hV.eN;have d1:decide ((x:Int)<0)=false:=aG9 E;have d2:decide (m.R≤x)=false:=aG9 E;have d3:decide ((y:Int)<0)=false:=aG9 E;have d4:decide (m.N≤y)=false:=aG9 E;obtain⟨_,_,_,c3,c4,_⟩:=hP0.cells;have hat:=tG hP0 hV.ok hV.so E x;have his:m.is x=false:=by rw[←am7,hV.is];omega
 rw[his]at hat;have hhas:m.has y= -1:=by
  rcases hV.has y with ⟨i,k,_,_,_,h4,_⟩ | ⟨h4,_⟩
  ·exact absurd h4 (h2 _)
  ·exact h4
 obtain⟨at0,hat0⟩:∃at0,m.cnt x=at0:=⟨_,rfl⟩;rw[hat0]at hat;have hal:at0≤m.O.length:=by rw[←hat0];exact ap6
 have hol:=hV.ok.olen;have hhas2:∀W,PmIn W p q SA lv ov m→Calls Tryz.prog 97 #[.pointer (some ⟨p,0,none⟩), .int .i64 (y:Int)] W fun e w'=>e= .returned (.int .i64 (-1))∧Below W.heap.size W w':=fun W hW=>by
  have :=qV hW hV.ok E y;rwa[hhas]at this
 have hlen:=hV.ok.len;have hTm:=hP0.ar.ok.le;have hmost:=hV.ok.most;have hlive:m.A.live≠m.A.M:=by unfold Ar.live;omega
 have HV:=θ hV;have HAT:=θ hat;have HHAS:=θ hhas2;have HLT:=θ hlt;have HL:=θ hlive;have HAT0:=θ hat0;have HLEN:=θ hlen;have HMOST:=θ hmost;have HR:=θ hR;have HN:=θ hN';have H2:=θ h2;have HOL:=θ hol;clear hat hhas2 hlive hat0 hV hlt hhas his hlen hmost hR hN' h2 hP0 hol;cases hF:m.A.F.getLast? with
 | some k=>
  have HF:=θ hF;clear hF;go_enter Tryz.func50,Tryz.ntmps50;go_wp2_with fail;refine HAT.o.mono ?_;rintro e w1 ⟨rfl,hP1,hC1⟩;have hh:=HHAS.o w1 hP1;have HH:=θ hh;have HP1:=θ hP1;have HC1:=θ hC1;clear hh hP1 hC1 c3 c4;go_wp2_with fail;refine HH.o.mono ?_;rintro e w2 ⟨rfl,hB2⟩;have hP2:=HP1.o.below hB2;have htk:=xP hP2.ar HL.o HF.o;obtain⟨e0,_,_,_,_,_⟩:=hP2.cells;have HTK:=θ htk;have HP2:=θ hP2;have HB2:=θ hB2;clear htk hP2 hB2;go_wp2_with fail;refine HTK.o.mono ?_;rintro e w3 ⟨rfl,SA3,hA3,hC3,hS3⟩;have hP3:=HP2.o.setA hA3 hC3 hS3;have hkl:k<m.L.length:=by have :=HP2.o.ar.ok.last_lt HF.o;have :=HLEN.o;omega
  have d5:decide (m.L.length≤k)=false:=aG9 E;obtain⟨gl,capl,hlv⟩:∃gl capl,lv= .slice (some ⟨gl,0,none⟩) m.L.length capl:=by
   rcases HP2.o.tab.2 with ⟨_,h0⟩ | ⟨g,cap,cur,hv,_⟩
   ·omega
   ·exact⟨g,cap,hv⟩
  have hok':=HP2.o.ar.ok;have hTf:m.A.T[k]? =some false:=(hok'.iff k).2 (List.mem_of_getLast? HF.o);have hkO:k∉m.O:=fun hm=>by rw[(HV.o.ok.iff k).2 hm]at hTf;cases hTf
  have hAk:∀j,(m.A.pop k).T[j]? =some true↔j∈m.O∨j=k:=fun j=>by
   show (m.A.T.set k true)[j]? =some true↔_;rw[ar8];by_cases e:k=j
   ·subst e;rw[aH9 rfl,aH9 (by have :=HLEN.o;omega)];simp
   ·rw[aH8 e,HV.o.ok.iff j];exact⟨Ei,fun h=>h.elim id (fun h=>absurd h.symm e)⟩
  have hAl:(m.A.pop k).T.length=m.L.length:=by show (m.A.T.set k true).length=_;rw[at4];exact HLEN.o
  have hT1:∀j∈m.O,aD (m.L.set k ((x:Int),(y:Int))) j=aD m.L j∧aH (m.L.set k ((x:Int),(y:Int))) j=aH m.L j:=fun j hj=>by
   have :k≠j:=fun e=>hkO (e▸hj);simp[aD,aH,ar8,this]
  have HFIN:=θ (HV.o.add hx hy h1 H2.o (A':=m.A.pop k) (T':=m.L.set k ((x:Int),(y:Int))) rfl hAk (by rw[at4];exact hAl) hkO hT1 (by simp[aD,hkl]) (by simp[aH,hkl]));have hTl:(m.L.set k ((x:Int),(y:Int))).length≤c+1:=by rw[at4];omega
  have HTl:=θ hTl;clear hAk hAl hT1 hkO hTf hok' hTl;have HLT0:Hid (∀j,pmS p SA3 lv ov j→S j∨w.heap.size≤j):=by
   intro j hj;have s1:=HC1.o.size;have s2:=HB2.o.size;rcases hj with e | e | e
   ·exact Ei (hS j (Ei e))
   ·exact(hS3 j e).imp (fun h=>hS j (Ej (Ei h))) (fun h=>E)
   ·exact Ei (hS j (Ej (Ej e)))
  have HCW:Hid (Chg S w w3):=by
   show Chg S w w3;exact((HC1.o.mono (fun b hb=>hS b (Ej (Ej (Ej hb))))).trans (Chg.of_below (S:=fun _=>False) HB2.o) (fun _ hf=>hf.elim)).trans hC3 (fun b hb=>Ei (hS b (Ej (Ei hb))))
  have hSlv:∀b,lv.ownBlock=some b→S b∨w.heap.size≤b:=fun b hb=>Ei (hS b (Ej (Ej (Ei hb))));have hSov:∀b,ov.ownBlock=some b→S b∨w.heap.size≤b:=fun b hb=>Ei (hS b (Ej (Ej (Ej hb))));have HSlv:=θ hSlv;have HSov:=θ hSov;clear hSlv hSov;clear hA3 hC3 hS3;subst hlv;obtain⟨n1,hn1⟩:∃n1,m.L.length=n1:=⟨_,rfl⟩;have hT3:TabIs w3 gl capl m.L:=hP3.tab;obtain⟨t1,t2,e6⟩:=hT3.cells hkl;obtain⟨e0,e1,e2,_,_,e5⟩:=hP3.cells;rw[hn1]at hP3 e1 hkl d5 HLT0 HSlv;have HN1:=θ hn1;clear hT3 hn1;obtain⟨W,hW⟩:∃W,W=w3:=⟨_,rfl⟩;obtain⟨T1,hT1⟩:∃T1,T1=m.L:=⟨_,rfl⟩;obtain⟨A1,hA1⟩:∃A1,A1=m.A.pop k:=⟨_,rfl⟩;rw[←hT1]at HFIN HTl HN1 t1 t2 hP3;rw[←hA1]at HFIN hP3;rw[←hW]at hP3 t1 t2 e0 e1 e2 e5 e6 HCW⊢;clear hW hT1 hA1;generalize aD T1 k=r0 at t1;generalize aH T1 k=p0 at t2;have j0:(0:Int)≤(k:Int):=E;have j1:(k:Int)<(n1:Int):=E;have n2:gl≠p:=(hP3.d2 gl rfl).1;have n3:p≠gl:=fun e=>n2 e.symm;have HP4:=θ hP3;clear hP3;go_wp2_with fail;refine aJ1 1 ?_;rw[aI6];go_wp2_with fail;have hP5:=HP4.o.setPair HN1.o hkl x y;have hC5:Chg S w ((W.setCell ⟨gl,k*2,none⟩ (.int .i64 (x:Int))).setCell ⟨gl,k*2+1,none⟩ (.int .i64 (y:Int))):=(HCW.o.setCell ⟨gl,k*2,none⟩ (HSlv.o gl rfl) _).setCell ⟨gl,k*2+1,none⟩ (HSlv.o gl rfl) _;have hsz5:((W.setCell ⟨gl,k*2,none⟩ (.int .i64 (x:Int))).setCell ⟨gl,k*2+1,none⟩ (.int .i64 (y:Int))).heap.size=W.heap.size:=by simp[World.setCell]
  rw[←hsz5];generalize (W.setCell ⟨gl,k*2,none⟩ (.int .i64 (x:Int))).setCell ⟨gl,k*2+1,none⟩ (.int .i64 (y:Int))=w5 at *;have hP6:=hP5.below (aC w5 (.cells #[.int .i64 (k:Int)] 3));obtain⟨oa,oc,hov,hoz,hob⟩:=aM hP6.ord;have hov:ov= .slice oa m.O.length oc:=hov;have hord:(w5.alloc (.cells #[.int .i64 (k:Int)] 3)).ownsRow 0 3 1 (.slice oa m.O.length oc) m.O.length ((cC m.O).map (Value.int .i64)):=by
   rw[←eT,←hov];exact hP6.ord
  have hins:=yI (i:=at0) (x:=(k:Int)) (vb:=w5.heap.size) (vc:=1) hord hal (aH5 w5 _) (fun b hb e=>by
   rw[←hov]at hb
   have :=hP5.lt b (Ej (Ej (Ej hb)))
   omega) (by have :=HOL.o;omega) (aC8 _)
  rw[←hov]at hins;have HINS:=θ hins;have HP6:=θ hP6;have HC6:Hid (Chg S w (w5.alloc (.cells #[.int .i64 (k:Int)] 3))):=hC5.alloc _;clear hins hord hov hoz hob hP5 hP6 hC5 hsz5 e0 e1 e2 e5 e6 t1 t2;refine HINS.o.mono ?_;rintro e w6 hpost;obtain⟨g,c',rfl,ho6,hC7,hg6⟩:=hpost;have hp6:=hC7.heap HP6.o.hp (fun e=>(HP6.o.d3 p e).1 rfl);have e2:w6.cell? ⟨p,2,none⟩=some ov:=by rw[aG7 w6 p 2 _ _ _ hp6];rfl
  have e5:=aH3 w6 p 2 _ _ hp6;have hcn:(bY m.O at0 k).map bG=(bY (cC m.O) at0 (k:Int)).map (Value.int .i64):=by
   rw[eT];congr 1;simp[bY,cC,av6,at9]
  rw[←hcn]at ho6;have hP7:=HP6.o.setO (kH hal) ho6 hC7 hg6;have hC8:Chg S w (w6.setCell ⟨p,2,none⟩ (.slice (some ⟨g,0,none⟩) (m.O.length+1) c')):=(HC6.o.trans hC7 (fun b hb=>HSov.o b hb)).setCell ⟨p,2,none⟩ (HLT0.o p (Ei rfl)) _;have HP7:=θ hP7;have HC8:=θ hC8;have HG6:=θ hg6;clear hp6 hcn ho6 hC7 hg6 hP7 hC8;go_wp2_with fail;go_ret;have hv:=HFIN.o;rw[HAT0.o]at hv;refine⟨rfl,PmStep.of HP7.o hv HTl.o (fun j hj=>?_) HC8.o⟩;rcases hj with hj | hj | hj | hj
  ·exact HLT0.o j (Ei hj)
  ·exact HLT0.o j (Ej (Ei hj))
  ·exact HSlv.o j hj
  ·injection hj with hj
   subst hj;rcases HG6.o with h | h
   ·exact HSov.o _ h
   ·exact Ej (by have :=HC6.o.size;show w.heap.size≤g;omega)
 | none=>
  have hF0:m.A.F=[]:=List.getLast?_eq_none_iff.1 hF;have HF:=θ hF0;clear hF hF0;obtain⟨k,hk⟩:∃k,m.L.length=k:=⟨_,rfl⟩;have HK:=θ hk;clear hk;go_enter Tryz.func50,Tryz.ntmps50;go_wp2_with fail;refine HAT.o.mono ?_;rintro e w1 ⟨rfl,hP1,hC1⟩;have hh:=HHAS.o w1 hP1;have HH:=θ hh;have HP1:=θ hP1;have HC1:=θ hC1;clear hh hP1 hC1 c3 c4;go_wp2_with fail;refine HH.o.mono ?_;rintro e w2 ⟨rfl,hB2⟩;have hP2:=HP1.o.below hB2;have htk:=tP hP2.ar HL.o HF.o;rw[HLEN.o,HK.o]at htk;obtain⟨e0,_,_,_,_,_⟩:=hP2.cells;have HTK:=θ htk;have HP2:=θ hP2;have HB2:=θ hB2;clear htk hP2 hB2;go_wp2_with fail;refine HTK.o.mono ?_;rintro e w3 ⟨rfl,SA3,hA3,hC3,hS3⟩;have hP3:=HP2.o.setA hA3 hC3 hS3;have hkO:k∉m.O:=fun hm=>by have :=HV.o.ok.lt hm;have :=HK.o;omega
  have hAk:∀j,(m.A.more).T[j]? =some true↔j∈m.O∨j=k:=fun j=>by
   show (m.A.T++[true])[j]? =some true↔_;have hk:=HK.o;have hl:=HLEN.o;rw[aq8];by_cases e:j<m.A.T.length
   ·rw[aH9 e,HV.o.ok.iff j];exact⟨Ei,fun h=>h.elim id (fun h=>E)⟩
   ·rw[aH8 e];constructor
    ·intro h;have :=(ar5.1 h).1;simp at this;exact Ej E
    ·rintro(h | h)
     ·have :=HV.o.ok.lt h;omega
     ·have :j-m.A.T.length=0:=E;rw[this];rfl
  have hAl:(m.A.more).T.length=k+1:=by show (m.A.T++[true]).length=_;have hk:=HK.o;have hl:=HLEN.o;simp;omega
  have hTl':(m.L++[((0:Int),(0:Int))]).length=k+1:=by simp;exact HK.o
  have hT1:∀j∈m.O,aD ((m.L++[((0:Int),(0:Int))]).set k ((x:Int),(y:Int))) j=aD m.L j∧aH ((m.L++[((0:Int),(0:Int))]).set k ((x:Int),(y:Int))) j=aH m.L j:=fun j hj=>by
   have h3:k≠j:=fun e=>hkO (e▸hj);have h4:=HV.o.ok.lt hj;simp[aD,aH,ar8,h3,aq8,h4]
  have HFIN:=θ (HV.o.add hx hy h1 H2.o (A':=m.A.more) (T':=(m.L++[((0:Int),(0:Int))]).set k ((x:Int),(y:Int))) rfl hAk (by rw[at4,hTl'];exact hAl) hkO hT1 (by simp[aD,HK.o]) (by simp[aH,HK.o]));have hTl:((m.L++[((0:Int),(0:Int))]).set k ((x:Int),(y:Int))).length≤c+1:=by rw[at4,hTl'];have :=HK.o;omega
  have HTl:=θ hTl;clear hAk hAl hT1 hkO hTl;have HCW:Hid (Chg S w w3):=by
   show Chg S w w3;exact((HC1.o.mono (fun b hb=>hS b (Ej (Ej (Ej hb))))).trans (Chg.of_below (S:=fun _=>False) HB2.o) (fun _ hf=>hf.elim)).trans hC3 (fun b hb=>Ei (hS b (Ej (Ei hb))))
  have HSA3:Hid (∀j,SA3 j→S j∨w.heap.size≤j):=by
   intro j e;have s1:=HC1.o.size;have s2:=HB2.o.size;exact(hS3 j e).imp (fun h=>hS j (Ej (Ei h))) (fun h=>E)
  have hSov:∀b,ov.ownBlock=some b→S b∨w.heap.size≤b:=fun b hb=>Ei (hS b (Ej (Ej (Ej hb))));have HSov:=θ hSov;clear hSov;obtain⟨la,lc,hlv,hlz,hlb⟩:=aM HP2.o.tab;rw[HK.o]at hlv;have htab:=hP3.tab;have hk3:m.L.length=k:=HK.o;have htab':w3.ownsRow 0 134 2 lv k (bB m.L):=by rw[←hk3];exact htab
  rw[hlv]at htab';have hkb:k≤1000000:=E;obtain⟨e0,e1,e2,_,_,e5⟩:=hP3.cells;rw[hlv]at e1;have hlo:∀b,lv.ownBlock=some b→S b∨w.heap.size≤b:=fun b hb=>Ei (hS b (Ej (Ej (Ei hb))));have HLO:=θ hlo;have HLV:=θ hlv;have HP3:=θ hP3;have HSP:=θ (hS p (Ei rfl));have npl:∀g,lv.ownBlock=some g∨w3.heap.size≤g→g≠p∧p≠g:=fun g hg=>by
   have :=HP3.o.lt p (Ei rfl);rcases hg with hg | hg
   ·exact⟨(HP3.o.d2 g hg).1,fun e=>(HP3.o.d2 g hg).1 e.symm⟩
   ·exact⟨E,E⟩
  have NPL:=θ npl;clear hA3 hC3 hS3 hlz hlb htab hP3 hk3 hlo hlv hS npl;go_wp2_with fail;refine aJ1 2 ?_;rw[aI6];go_wp2_with (at_builtin;refine sY rfl _ _ 81 rfl 0 134 Tryz.infoPair Tryz.underlying81 rfl _ _ _ rfl htab' rfl rfl rfl ?c1 ?c2 ?c3 ?_);case c1=>unfold maxLen;omega
  case c2=>omega
  case c3=>exact aC8 _
  intro gl capl w4 ho4 hg4 hl4 hb4;have hsz:=hg4.size;have hb4':lv.ownBlock=some gl∨w3.heap.size≤gl:=by rw[HLV.o];exact hl4
  have hc4:Chg (fun b=>lv.ownBlock=some b) w3 w4:=by
   rw[HLV.o];exact Chg.refl.grown hg4 (fun k hk=>Ei hk)
  obtain⟨n2,n3⟩:=NPL.out gl hb4';have hp4:=hc4.heap HP3.o.hp (fun e=>(HP3.o.d2 p e).1 rfl);have e1':w4.cell? ⟨p,1,none⟩=some lv:=by rw[aG7 w4 p 1 _ _ _ hp4];rfl
  have e5':=aH3 w4 p 1 _ _ hp4;have hcl:bB m.L++[Value.int .i64 0,Value.int .i64 0]=bB (m.L++[((0:Int),(0:Int))]):=by
   have :∀(l:List (Int×Int)),bB l++[Value.int .i64 0,Value.int .i64 0]=bB (l++[((0:Int),(0:Int))]):=by
    intro l;induction l with
    | nil=>rfl
    | cons a l ih=>show _::_::(bB l++_)=_::_::bB (l++_);rw[ih]
   exact this _
  rw[hcl]at ho4;have hP5:=HP3.o.setL hTl' ho4 hc4 hb4';have hCW5:Chg S w (w4.setCell ⟨p,1,none⟩ (.slice (some ⟨gl,0,none⟩) (k+1) capl)):=(HCW.o.trans hc4 (fun b hb=>HLO.o b hb)).setCell ⟨p,1,none⟩ (Ei HSP.o) _;have hgS:S gl∨w.heap.size≤gl:=by
   rcases hb4' with h | h
   ·exact HLO.o gl h
   ·exact Ej (by have :=HCW.o.size;omega)
  have HP5:=θ hP5;have HCW5:=θ hCW5;have HGS:=θ hgS;have HTL:=θ hTl';clear hg4 hl4 ho4 hcl hc4 hb4' hp4 e1 htab' hP5 hCW5 hgS hTl' e0 e2 e5;clear HCW;go_wp2_with fail;obtain⟨W,hW⟩:∃W,W=w4.setCell ⟨p,1,none⟩ (.slice (some ⟨gl,0,none⟩) (k+1) capl):=⟨_,rfl⟩;rw[←hW]at HP5 HCW5⊢;clear hW e1' e5' hsz hb4;have HCW:=HCW5;obtain⟨n1,hn1⟩:∃n1,n1=k+1:=⟨_,rfl⟩;obtain⟨T1,hT1⟩:∃T1,T1=m.L++[((0:Int),(0:Int))]:=⟨_,rfl⟩;obtain⟨A1,hA1⟩:∃A1,A1=m.A.more:=⟨_,rfl⟩;have hP3:=HP5.o;have hkl:k<n1:=E;rw[←hT1]at HFIN HTl HTL hP3;rw[←hA1]at HFIN hP3;rw[←hn1]at HTL hP3;have hTe:=HTL.o;have hT3:TabIs W gl capl T1:=by have :=hP3.tab;unfold TabIs;rw[hTe];show World.ownsRow _ _ _ _ _ _ _;rw[←hTe];rw[←hTe]at this;exact this
  have HN1:Hid (T1.length=n1):=hTe;obtain⟨t1,t2,e6⟩:=hT3.cells (k:=k) E;obtain⟨e0,e1,e2,_,_,e5⟩:=hP3.cells;have d5:decide (n1≤k)=false:=aG9 E;have HLT0:Hid (∀j,pmS p SA3 (.slice (some ⟨gl,0,none⟩) n1 capl) ov j→S j∨w.heap.size≤j):=by
   rintro j (rfl | hj | hj | hj)
   ·exact Ei HSP.o
   ·exact HSA3.o j hj
   ·injection hj with hj;subst hj;exact HGS.o
   ·exact HSov.o j hj
  have HSlv:Hid (∀b,(Value.slice (some ⟨gl,0,none⟩) n1 capl).ownBlock=some b→S b∨w.heap.size≤b):=by
   intro b hb;injection hb with hb;subst hb;exact HGS.o
  rw[←hn1]at ⊢;clear hT3 hTe hn1 hT1 hA1 HTL n2 n3;generalize aD T1 k=r0 at t1;generalize aH T1 k=p0 at t2;have j0:(0:Int)≤(k:Int):=E;have j1:(k:Int)<(n1:Int):=E;have n2:gl≠p:=(hP3.d2 gl rfl).1;have n3:p≠gl:=fun e=>n2 e.symm;have HP4:=θ hP3;clear hP3;rw[aI6];go_wp2_with fail;have hP5:=HP4.o.setPair HN1.o hkl x y;have hC5:Chg S w ((W.setCell ⟨gl,k*2,none⟩ (.int .i64 (x:Int))).setCell ⟨gl,k*2+1,none⟩ (.int .i64 (y:Int))):=(HCW.o.setCell ⟨gl,k*2,none⟩ (HSlv.o gl rfl) _).setCell ⟨gl,k*2+1,none⟩ (HSlv.o gl rfl) _;have hsz5:((W.setCell ⟨gl,k*2,none⟩ (.int .i64 (x:Int))).setCell ⟨gl,k*2+1,none⟩ (.int .i64 (y:Int))).heap.size=W.heap.size:=by simp[World.setCell]
  rw[←hsz5];generalize (W.setCell ⟨gl,k*2,none⟩ (.int .i64 (x:Int))).setCell ⟨gl,k*2+1,none⟩ (.int .i64 (y:Int))=w5 at *;have hP6:=hP5.below (aC w5 (.cells #[.int .i64 (k:Int)] 3));obtain⟨oa,oc,hov,hoz,hob⟩:=aM hP6.ord;have hov:ov= .slice oa m.O.length oc:=hov;have hord:(w5.alloc (.cells #[.int .i64 (k:Int)] 3)).ownsRow 0 3 1 (.slice oa m.O.length oc) m.O.length ((cC m.O).map (Value.int .i64)):=by
   rw[←eT,←hov];exact hP6.ord
  have hins:=yI (i:=at0) (x:=(k:Int)) (vb:=w5.heap.size) (vc:=1) hord hal (aH5 w5 _) (fun b hb e=>by
   rw[←hov]at hb
   have :=hP5.lt b (Ej (Ej (Ej hb)))
   omega) (by have :=HOL.o;omega) (aC8 _)
  rw[←hov]at hins;have HINS:=θ hins;have HP6:=θ hP6;have HC6:Hid (Chg S w (w5.alloc (.cells #[.int .i64 (k:Int)] 3))):=hC5.alloc _;clear hins hord hov hoz hob hP5 hP6 hC5 hsz5 e0 e1 e2 e5 e6 t1 t2;refine HINS.o.mono ?_;rintro e w6 hpost;obtain⟨g,c',rfl,ho6,hC7,hg6⟩:=hpost;have hp6:=hC7.heap HP6.o.hp (fun e=>(HP6.o.d3 p e).1 rfl);have e2:w6.cell? ⟨p,2,none⟩=some ov:=by rw[aG7 w6 p 2 _ _ _ hp6];rfl
  have e5:=aH3 w6 p 2 _ _ hp6;have hcn:(bY m.O at0 k).map bG=(bY (cC m.O) at0 (k:Int)).map (Value.int .i64):=by
   rw[eT];congr 1;simp[bY,cC,av6,at9]
  rw[←hcn]at ho6;have hP7:=HP6.o.setO (kH hal) ho6 hC7 hg6;have hC8:Chg S w (w6.setCell ⟨p,2,none⟩ (.slice (some ⟨g,0,none⟩) (m.O.length+1) c')):=(HC6.o.trans hC7 (fun b hb=>HSov.o b hb)).setCell ⟨p,2,none⟩ (HLT0.o p (Ei rfl)) _;have HP7:=θ hP7;have HC8:=θ hC8;have HG6:=θ hg6;clear hp6 hcn ho6 hC7 hg6 hP7 hC8;go_wp2_with fail;go_ret;have hv:=HFIN.o;rw[HAT0.o]at hv;refine⟨rfl,PmStep.of HP7.o hv HTl.o (fun j hj=>?_) HC8.o⟩;rcases hj with hj | hj | hj | hj
  ·exact HLT0.o j (Ei hj)
  ·exact HLT0.o j (Ej (Ei hj))
  ·exact HSlv.o j hj
  ·injection hj with hj
   subst hj;rcases HG6.o with h | h
   ·exact HSov.o _ h
   ·exact Ej (by have :=HC6.o.size;show w.heap.size≤g;omega)
def jL(B:Nat)(w:World)(l:List (Int×Int))(e:Ending)(w':World):Prop:=∃a c,e= .returned (.slice a l.length c)∧w'.ownsRow B 134 2 (.slice a l.length c) l.length (bB l)∧Below B w w'
theorem tX:∀(l:List (Int×Int)) (x:Int×Int),bB l++[.int .i64 x.1, .int .i64 x.2]=bB (l++[x])
 | [],x=>rfl
 | y::l,x=>by show _::_::(bB l++_)=_::_::bB (l++_);rw[tX l x]
def Pm.prs (m:Pm)(O:List Nat):List (Int×Int):=O.map fun k=>(aD m.L k,aH m.L k)
theorem Pm.prs_snoc (m:Pm){O:List Nat}{i k:Nat}(hk:O[i]? =some k):m.prs (O.take (i+1))=m.prs (O.take i)++[(aD m.L k,aH m.L k)]:=by
 unfold Pm.prs;rw[ay9,hk];simp
theorem Yp{w:World}{p q:Nat}{SA:Nat→Prop}{lv ov:Value}{m:Pm}(h:PmIn w p q SA lv ov m)(hok:m.Ok)(hl:m.L.length≤1000000000):
  Calls Tryz.prog 140 #[.pointer (some ⟨p,0,none⟩)] w (jL w.heap.size w (m.prs m.O)):=by
 by_cases h0:m.O.length=0
 ·have e0:m.O=[]:=aq2 h0;obtain⟨_,_,c2,_,_,_⟩:=h.cells;obtain⟨a,c,hov,_,_⟩:=aM h.ord;have HE:Hid (jL w.heap.size w (m.prs m.O) (.returned (.slice none 0 0)) w):=by
   show jL _ _ _ _ _;rw[e0];exact⟨none,0,rfl,aG2 _ _ _ _,am4 _ _⟩
  rw[hov,h0]at c2;clear h hok e0 hov;go_enter Tryz.func140,Tryz.ntmps140;go_wp2_with fail;go_loopw [3,13] (fun o v wr=>o= .slice none 0 0∧v= .int .i64 0∧wr=w) (fun _ _ _=>0);case atStart=>exact⟨rfl,rfl,rfl⟩
  case round=>
   obtain⟨rfl,rfl,rfl⟩:=hrel;go_wp2_with fail;go_ret;exact HE.o
 ·obtain⟨g,cap,gl,capl,_,rfl,rfl,_,_,_,_,_⟩:=h.pair hok (i:=0) E;have HW:Hid (∀W,Below w.heap.size w W→W.cell? ⟨p,1,none⟩=some (.slice (some ⟨gl,0,none⟩) m.L.length capl)∧∀i k:Nat,m.O[i]? =some k→W.cell? ⟨g,i,none⟩=some (.int .i64 (k:Int))∧W.cell? ⟨gl,k*2,none⟩=some (.int .i64 (aD m.L k))∧W.cell? ⟨gl,k*2+1,none⟩=some (.int .i64 (aH m.L k))):=by
   intro W hW;have hP:=h.below hW;refine⟨hP.cells.2.1,fun i k hk=>?_⟩;have hi:i<m.O.length:=(ar5.1 hk).1;obtain⟨g',_,gl',_,k',hv1,hv2,hk',_,q1,q2,q3⟩:=hP.pair hok hi;injection hv1 with e1 _ _
   injection e1 with e1
   injection e1 with e1 _ _
   subst e1;injection hv2 with e1 _ _
   injection e1 with e1
   injection e1 with e1 _ _
   subst e1;rw[hk]at hk';injection hk' with hk'
   subst hk';exact⟨q1,q2,q3⟩
  obtain⟨_,_,c2,_,_,_⟩:=h.cells;have hol:=hok.olen;have HOK:=θ hok;clear h hok;go_enter Tryz.func140,Tryz.ntmps140;go_wp2_with fail;go_loopw [3,13] (fun o v wr=>∃i:Nat,i≤m.O.length∧v= .int .i64 i∧wr.ownsRow w.heap.size 134 2 o i (bB (m.prs (m.O.take i)))∧Below w.heap.size w wr) (fun _ v _=>m.O.length-(intOf v).toNat);case atStart=>exact⟨0,aC8 _,rfl,aG2 _ _ _ _,am4 _ _⟩
  case round=>
   obtain⟨i,hi,rfl,hown,hb⟩:=hrel;have hs:=hb.size;obtain⟨a4,c4,rfl,_,_⟩:=aM hown;by_cases hlt:i<m.O.length
   ·obtain⟨k,hk⟩:∃k,m.O[i]? =some k:=⟨_,ar3 hlt⟩;obtain⟨c1,hcs⟩:=HW.o wr hb;obtain⟨q1,q2,q3⟩:=hcs i k hk;have hkl:=HOK.o.lt (ax2 hk);have hsn:=m.prs_snoc hk;have hsn2:=tX (m.prs (m.O.take i)) (aD m.L k,aH m.L k);rw[←hsn]at hsn2;have HSN:=θ hsn2;have j0:(0:Int)≤(k:Int):=E;have j1:(k:Int)<(m.L.length:Int):=E;clear hcs hk hsn hsn2;generalize aD m.L k=r0 at *;generalize aH m.L k=p0 at *;go_wp2_with (at_builtin;refine sY rfl _ _ 81 rfl w.heap.size 134 Tryz.infoPair Tryz.underlying81 rfl _ _ _ rfl hown rfl rfl rfl ?c1 ?c2 ?c3 ?_);case c1=>unfold maxLen;omega
    case c2=>omega
    intro g5 cap5 w5 hown' hgrow _ _;have hch:Below w.heap.size w w5:=hb.grown hgrow hs (fun j hj=>(hown.lt j hj).1);rw[HSN.o]at hown';have HO:=θ hown';have HCH:=θ hch;clear hown hown' hgrow hch q1 q2 q3 c1;go_wp2_with fail;go_roundw;case rel=>exact⟨i+1,E,by go_num,HO.o,HCH.o⟩
    case measure=>simp[intOf];omega
   ·obtain rfl:i=m.O.length:=E;rw[az2]at hown;have hln:(m.prs m.O).length=m.O.length:=by unfold Pm.prs;rw[at1]
    have HE:Hid (jL w.heap.size w (m.prs m.O) (.returned (.slice a4 m.O.length c4)) wr):=by
     show jL _ _ _ _ _;exact⟨a4,c4,by rw[hln],by rw[hln];exact hown,hb⟩
    clear hown hb hln;go_wp2_with fail;go_ret;exact HE.o
def prL:Nat→List Int→List (Int×Int)
 | _,[]=>[]
 | i,x::l=>if 0≤x then ((i:Int),x)::prL (i+1) l else prL (i+1) l
theorem mM:∀(l:List Int) (i:Nat) (r p:Int),(r,p)∈prL i l↔∃j:Nat,r=((i+j:Nat):Int)∧l[j]? =some p∧0≤p
 | [],i,r,p=>by simp[prL]
 | x::l,i,r,p=>by
  have ih:=mM l (i+1) r p;unfold prL;have key:(r,p)∈prL (i+1) l↔∃j:Nat,r=((i+(j+1):Nat):Int)∧(x::l)[j+1]? =some p∧0≤p:=by
   rw[ih];constructor
   ·rintro⟨j,h1,h2,h3⟩;exact⟨j,E,by simpa using h2,h3⟩
   ·rintro⟨j,h1,h2,h3⟩;exact⟨j,E,by simpa using h2,h3⟩
  by_cases h:0≤x
  ·rw[aH9 h,av9,key];constructor
   ·rintro(e | ⟨j,h1,h2,h3⟩)
    ·injection e with e1 e2;exact⟨0,E,by simp[e2],E⟩
    ·exact⟨j+1,h1,h2,h3⟩
   ·rintro⟨j,h1,h2,h3⟩;cases j with
    | zero=>left;simp at h2;subst h2;congr 1
    | succ j=>exact Ej ⟨j,h1,h2,h3⟩
  ·rw[aH8 h,key];constructor
   ·rintro⟨j,h1,h2,h3⟩;exact⟨j+1,h1,h2,h3⟩
   ·rintro⟨j,h1,h2,h3⟩;cases j with
    | zero=>simp at h2;omega
    | succ j=>exact⟨j,h1,h2,h3⟩
theorem mB:∀(l:List Int) (i:Nat),(prL i l).Pairwise fun a b=>a.1<b.1
 | [],i=>List.Pairwise.nil
 | x::l,i=>by
  unfold prL;split
  ·rw[ay1];refine⟨fun⟨r,p⟩ h=>?_,mB l (i+1)⟩;obtain⟨j,h1,_⟩:=(mM l (i+1) r p).1 h;show (i:Int)<r;omega
  ·exact mB l (i+1)
theorem Sf{l l':List (Int×Int)}(h:l.Pairwise fun a b=>a.1<b.1)(h':l'.Pairwise fun a b=>a.1<b.1)(he:∀x,x∈l↔x∈l'):l=l':=by
 have hn:∀{l:List (Int×Int)},(l.Pairwise fun a b=>a.1<b.1)→l.Nodup:=fun h=>h.imp (fun hab e=>by rw[e]at hab;omega);have hp:l.Perm l':=(List.perm_ext_iff_of_nodup (hn h) (hn h')).2 he;exact hp.eq_of_pairwise (fun a b _ _ h1 h2=>E) h h'
theorem PVw.prs {m:Pm}{L:List Int}{N:Nat}(h:PVw m L N):m.prs m.O=prL 0 L:=by
 refine Sf ?_ (mB _ _) (fun⟨r,p⟩=>?_)
 ·unfold Pm.prs;rw[List.pairwise_map];exact h.so
 ·rw[mM];have hm:=h.mem r p;unfold Pm.prs;rw[ax1];constructor
  ·rintro⟨k,hk,e⟩;injection e with e1 e2
   obtain⟨h1,h2⟩:=hm.1 ⟨k,hk,e1,e2⟩;obtain⟨i,rfl,hi⟩:=yG (L:=L) (r:=r) E;rw[cX,ar3 hi]at h1;exact⟨i,E,by rw[ar3 hi];exact aG8 _ h1,h2⟩
  ·rintro⟨j,h1,h2,h3⟩;obtain⟨k,hk,e1,e2⟩:=hm.2 ⟨by rw[h1,aC7,cX,h2];rfl,h3⟩;exact⟨k,hk,by rw[e1,e2]⟩
theorem Ry{S:Nat→Prop}{w:World}{p c:Nat}{L:List Int}{N:Nat}(h:PmV S w p c L N)(hc:c≤1000000):
  Calls Tryz.prog 140 #[.pointer (some ⟨p,0,none⟩)] w (jL w.heap.size w (prL 0 L)):=by
 obtain⟨q,SA,lv,ov,m,hP,hV,hml,hS⟩:=h;have :=Yp hP hV.ok E;rwa[hV.prs]at this
theorem Yo{S:Nat→Prop}{w:World}{p c:Nat}{L:List Int}{N:Nat}(h:PmV S w p c L N)(x y:Int)(hb:(x<0)∨((L.length:Int)≤x)∨(y<0)∨((N:Int)≤y)):
  Calls Tryz.prog 50 #[.pointer (some ⟨p,0,none⟩), .int .i64 x, .int .i64 y] w fun e w'=>e= .returned (.int .i64 2)∧Below w.heap.size w w':=by
 obtain⟨q,SA,lv,ov,m,hP,hV,_,_⟩:=h;obtain⟨_,_,_,c3,c4,_⟩:=hP.cells;have hpl:=hP.lt p (Ei rfl);rw[hV.eR]at c3;rw[hV.eN]at c4;clear hP hV;by_cases h0:x<0
 ·have d0:decide (x<0)=true:=aH1 h0;clear hb h0;go_enter Tryz.func50,Tryz.ntmps50;go_wp2_with fail;go_ret;exact⟨rfl,am4 _ _⟩
 by_cases h1:(L.length:Int)≤x
 ·have d0:decide (x<0)=false:=aG9 h0;have d1:decide ((L.length:Int)≤x)=true:=aH1 h1;clear hb h0 h1;go_enter Tryz.func50,Tryz.ntmps50;go_wp2_with fail;go_ret;exact⟨rfl,am4 _ _⟩
 by_cases h2:y<0
 ·have d0:decide (x<0)=false:=aG9 h0;have d1:decide ((L.length:Int)≤x)=false:=aG9 h1;have d2:decide (y<0)=true:=aH1 h2;clear hb h0 h1 h2;go_enter Tryz.func50,Tryz.ntmps50;go_wp2_with fail;go_ret;exact⟨rfl,am4 _ _⟩
 have h3:(N:Int)≤y:=E;have d0:decide (x<0)=false:=aG9 h0;have d1:decide ((L.length:Int)≤x)=false:=aG9 h1;have d2:decide (y<0)=false:=aG9 h2;have d3:decide ((N:Int)≤y)=true:=aH1 h3;clear hb h0 h1 h2 h3;go_enter Tryz.func50,Tryz.ntmps50;go_wp2_with fail;go_ret;exact⟨rfl,am4 _ _⟩
theorem Mx{S:Nat→Prop}{w:World}{p c:Nat}{L:List Int}{N:Nat}(h:PmV S w p c L N)(x:Int)(hb:(x<0)∨((L.length:Int)<x)):
  Calls Tryz.prog 116 #[.pointer (some ⟨p,0,none⟩), .int .i64 x] w fun e w'=>e= .returned (.int .i64 2)∧Below w.heap.size w w':=by
 obtain⟨q,SA,lv,ov,m,hP,hV,_,_⟩:=h;obtain⟨_,_,_,c3,c4,_⟩:=hP.cells;have hpl:=hP.lt p (Ei rfl);rw[hV.eR]at c3;rw[hV.eN]at c4;clear hP hV;by_cases h0:x<0
 ·have d0:decide (x<0)=true:=aH1 h0;clear hb h0;go_enter Tryz.func116,Tryz.ntmps116;go_wp2_with fail;go_quiet (fail);go_wp2_with fail;go_ret;exact⟨rfl,aX (aC w _) _⟩
 have h1:(L.length:Int)<x:=E;have d0:decide (x<0)=false:=aG9 h0;have d1:decide ((L.length:Int)<x)=true:=aH1 h1;clear hb h0 h1;go_enter Tryz.func116,Tryz.ntmps116;go_wp2_with fail;go_quiet (fail);go_wp2_with fail;go_ret;exact⟨rfl,aX (aC w _) _⟩
theorem Io{S:Nat→Prop}{w:World}{p c:Nat}{L:List Int}{N:Nat}(h:PmV S w p c L N)(x:Int)(hb:(x<0)∨((L.length:Int)≤x)):
  Calls Tryz.prog 106 #[.pointer (some ⟨p,0,none⟩), .int .i64 x] w fun e w'=>e= .returned (.int .i64 2)∧Below w.heap.size w w':=by
 obtain⟨q,SA,lv,ov,m,hP,hV,_,_⟩:=h;obtain⟨_,_,_,c3,c4,_⟩:=hP.cells;have hpl:=hP.lt p (Ei rfl);rw[hV.eR]at c3;rw[hV.eN]at c4;clear hP hV;by_cases h0:x<0
 ·have d0:decide (x<0)=true:=aH1 h0;clear hb h0;go_enter Tryz.func106,Tryz.ntmps106;go_wp2_with fail;go_quiet (fail);go_wp2_with fail;go_ret;exact⟨rfl,aX (aC w _) _⟩
 have h1:(L.length:Int)≤x:=E;have d0:decide (x<0)=false:=aG9 h0;have d1:decide ((L.length:Int)≤x)=true:=aH1 h1;clear hb h0 h1;go_enter Tryz.func106,Tryz.ntmps106;go_wp2_with fail;go_quiet (fail);go_wp2_with fail;go_ret;exact⟨rfl,aX (aC w _) _⟩
theorem Mt{S:Nat→Prop}{w:World}{p c:Nat}{L:List Int}{N:Nat}(h:PmV S w p c L N)(x:Int)(hb:(x<0)∨((N:Int)<x)):
  Calls Tryz.prog 117 #[.pointer (some ⟨p,0,none⟩), .int .i64 x] w fun e w'=>e= .returned (.int .i64 2)∧Below w.heap.size w w':=by
 obtain⟨q,SA,lv,ov,m,hP,hV,_,_⟩:=h;obtain⟨_,_,_,c3,c4,_⟩:=hP.cells;have hpl:=hP.lt p (Ei rfl);rw[hV.eR]at c3;rw[hV.eN]at c4;clear hP hV;by_cases h0:x<0
 ·have d0:decide (x<0)=true:=aH1 h0;clear hb h0;go_enter Tryz.func117,Tryz.ntmps117;go_wp2_with fail;go_quiet (fail);go_wp2_with fail;go_ret;exact⟨rfl,aX (aC w _) _⟩
 have h1:(N:Int)<x:=E;have d0:decide (x<0)=false:=aG9 h0;have d1:decide ((N:Int)<x)=true:=aH1 h1;clear hb h0 h1;go_enter Tryz.func117,Tryz.ntmps117;go_wp2_with fail;go_quiet (fail);go_wp2_with fail;go_ret;exact⟨rfl,aX (aC w _) _⟩
theorem Il{S:Nat→Prop}{w:World}{p c:Nat}{L:List Int}{N:Nat}(h:PmV S w p c L N)(x:Int)(hb:(x<0)∨((N:Int)≤x)):
  Calls Tryz.prog 107 #[.pointer (some ⟨p,0,none⟩), .int .i64 x] w fun e w'=>e= .returned (.int .i64 2)∧Below w.heap.size w w':=by
 obtain⟨q,SA,lv,ov,m,hP,hV,_,_⟩:=h;obtain⟨_,_,_,c3,c4,_⟩:=hP.cells;have hpl:=hP.lt p (Ei rfl);rw[hV.eR]at c3;rw[hV.eN]at c4;clear hP hV;by_cases h0:x<0
 ·have d0:decide (x<0)=true:=aH1 h0;clear hb h0;go_enter Tryz.func107,Tryz.ntmps107;go_wp2_with fail;go_quiet (fail);go_wp2_with fail;go_ret;exact⟨rfl,aX (aC w _) _⟩
 have h1:(N:Int)≤x:=E;have d0:decide (x<0)=false:=aG9 h0;have d1:decide ((N:Int)≤x)=true:=aH1 h1;clear hb h0 h1;go_enter Tryz.func107,Tryz.ntmps107;go_wp2_with fail;go_quiet (fail);go_wp2_with fail;go_ret;exact⟨rfl,aX (aC w _) _⟩
theorem box3(w:World)(va vb vc:Value)(ta tb tc:TypeId):∃W,W=((w.alloc (.cells #[va] ta)).alloc (.cells #[vb] tb)).alloc (.cells #[vc] tc)∧W.cell? ⟨w.heap.size,0,none⟩=some va∧W.cell? ⟨w.heap.size+1,0,none⟩=some vb∧W.cell? ⟨w.heap.size+2,0,none⟩=some vc∧Below w.heap.size w W:=by
 refine⟨_,rfl,?_,?_,?_,((aC w _).alloc Es _).alloc (by simp;omega) _⟩
 ·refine((aC ((w.alloc (.cells #[va] ta)).alloc (.cells #[vb] tb)) (.cells #[vc] tc)).cell (p:=⟨w.heap.size,0,none⟩) (by simp;omega)).trans ?_;exact((aC (w.alloc (.cells #[va] ta)) (.cells #[vb] tb)).cell (p:=⟨w.heap.size,0,none⟩) Es).trans (aF9 _ _ _ _ rfl)
 ·refine((aC ((w.alloc (.cells #[va] ta)).alloc (.cells #[vb] tb)) (.cells #[vc] tc)).cell (p:=⟨w.heap.size+1,0,none⟩) Es).trans ?_;have :((w.alloc (.cells #[va] ta)).alloc (.cells #[vb] tb)).cell? ⟨(w.alloc (.cells #[va] ta)).heap.size,0,none⟩=some vb:=aF9 _ _ _ _ rfl;rwa[show (w.alloc (.cells #[va] ta)).heap.size=w.heap.size+1 by simp]at this
 ·have :(((w.alloc (.cells #[va] ta)).alloc (.cells #[vb] tb)).alloc (.cells #[vc] tc)).cell? ⟨((w.alloc (.cells #[va] ta)).alloc (.cells #[vb] tb)).heap.size,0,none⟩=some vc:=aF9 _ _ _ _ rfl;rwa[show ((w.alloc (.cells #[va] ta)).alloc (.cells #[vb] tb)).heap.size=w.heap.size+2 by simp]at this
theorem Fc{S:Nat→Prop}{w:World}{p c:Nat}{L:List Int}{N:Nat}(h:PmV S w p c L N)(x y:Int)(hb:(x<0)∨((L.length:Int)≤x)∨(y<0)∨((L.length:Int)≤y)):
  Calls Tryz.prog 114 #[.pointer (some ⟨p,0,none⟩), .int .i64 x, .int .i64 y] w fun e w'=>e= .returned (.int .i64 2)∧Below w.heap.size w w':=by
 obtain⟨q,SA,lv,ov,m,hP,hV,_,_⟩:=h;obtain⟨_,_,_,c3,c4,_⟩:=hP.cells;have hpl:=hP.lt p (Ei rfl);rw[hV.eR]at c3;rw[hV.eN]at c4;clear hP hV;obtain⟨W,hW,b0,b1,b2,hB⟩:=box3 w (.pointer (some ⟨p,0,none⟩)) (.int .i64 x) (.int .i64 y) 92 3 3;have c5:=(hB.cell (p:=⟨p,3,none⟩) hpl).trans c3;have HB:=θ hB;clear c3 c4 hB;by_cases h0:x<0
 ·have d0:decide (x<0)=true:=aH1 h0;clear hb h0;go_enter Tryz.func114,Tryz.ntmps114;go_wp2_with fail;rw[←hW];clear hW;go_quiet (fail);go_wp2_with fail;go_ret;exact⟨rfl,aX (HB.o) _⟩
 by_cases h1:(L.length:Int)≤x
 ·have d0:decide (x<0)=false:=aG9 h0;have d1:decide ((L.length:Int)≤x)=true:=aH1 h1;clear hb h0 h1;go_enter Tryz.func114,Tryz.ntmps114;go_wp2_with fail;rw[←hW];clear hW;go_quiet (fail);go_wp2_with fail;go_ret;exact⟨rfl,aX (HB.o) _⟩
 by_cases h2:y<0
 ·have d0:decide (x<0)=false:=aG9 h0;have d1:decide ((L.length:Int)≤x)=false:=aG9 h1;have d2:decide (y<0)=true:=aH1 h2;clear hb h0 h1 h2;go_enter Tryz.func114,Tryz.ntmps114;go_wp2_with fail;rw[←hW];clear hW;go_quiet (fail);go_wp2_with fail;go_ret;exact⟨rfl,aX (HB.o) _⟩
 have h3:(L.length:Int)≤y:=E;have d0:decide (x<0)=false:=aG9 h0;have d1:decide ((L.length:Int)≤x)=false:=aG9 h1;have d2:decide (y<0)=false:=aG9 h2;have d3:decide ((L.length:Int)≤y)=true:=aH1 h3;clear hb h0 h1 h2 h3;go_enter Tryz.func114,Tryz.ntmps114;go_wp2_with fail;rw[←hW];clear hW;go_quiet (fail);go_wp2_with fail;go_ret;exact⟨rfl,aX (HB.o) _⟩
theorem Ym{S:Nat→Prop}{w:World}{p c:Nat}{L:List Int}{N:Nat}(h:PmV S w p c L N)(hc:c≤1000000)(x y:Nat)(hx:x<L.length)(hy:y<N)(h1:0≤gL L x∨∃r,gL L r=y):
  Calls Tryz.prog 50 #[.pointer (some ⟨p,0,none⟩), .int .i64 x, .int .i64 y] w fun e w'=>e= .returned (.int .i64 1)∧PmStep S w w' p c L N:=by
 obtain⟨q,SA,lv,ov,m,hP0,hV,hml,hS⟩:=h;have hR:=hV.eR;have hN':=hV.eN;have d1:decide ((x:Int)<0)=false:=aG9 E;have d2:decide (m.R≤x)=false:=aG9 E;have d3:decide ((y:Int)<0)=false:=aG9 E;have d4:decide (m.N≤y)=false:=aG9 E;obtain⟨_,_,_,c3,c4,_⟩:=hP0.cells;have hat:=tG hP0 hV.ok hV.so E x;have HV:=θ hV;generalize m.cnt x=at0 at *;by_cases hi:m.is x=true
 ·rw[hi]at hat;have HAT:=θ hat;clear hat hV hR hN' hP0 hi h1;go_enter Tryz.func50,Tryz.ntmps50;go_wp2_with fail;refine HAT.o.mono ?_;rintro e w1 ⟨rfl,hP1,hC1⟩;have HP1:=θ hP1;have HC1:=θ hC1;clear hP1 hC1 c3 c4;go_wp2_with fail;go_ret;exact⟨rfl,PmStep.of HP1.o HV.o hml (fun j hj=>Ei (hS j hj)) (HC1.o.mono (fun b hb=>hS b (Ej (Ej (Ej hb)))))⟩
 ·have hi':m.is x=false:=by rw[←am7];exact hi
  rw[hi']at hat;have hnot:¬0≤gL L x:=fun h=>hi ((hV.is x).2 h);obtain⟨i,hix⟩:∃i:Nat,m.has y=i:=by
   rcases hV.has y with ⟨i,k,h3,_⟩ | ⟨_,h3⟩
   ·exact⟨i,h3⟩
   ·rcases h1 with h1 | ⟨r,h1⟩
    ·exact absurd h1 hnot
    ·exact absurd h1 (h3 E r)
  have hhas2:∀W,PmIn W p q SA lv ov m→Calls Tryz.prog 97 #[.pointer (some ⟨p,0,none⟩), .int .i64 (y:Int)] W fun e w'=>e= .returned (.int .i64 (i:Int))∧Below W.heap.size W w':=fun W hW=>by
   have :=qV hW hV.ok E y;rwa[hix]at this
  have d5:decide (0≤(i:Int))=true:=aH1 E;have HAT:=θ hat;have HHAS:=θ hhas2;clear hat hV hR hN' hP0 hi hi' h1 hnot hix hhas2;go_enter Tryz.func50,Tryz.ntmps50;go_wp2_with fail;refine HAT.o.mono ?_;rintro e w1 ⟨rfl,hP1,hC1⟩;have HH:=θ (HHAS.o w1 hP1);have HP1:=θ hP1;have HC1:=θ hC1;clear hP1 hC1 c3 c4;go_wp2_with fail;refine HH.o.mono ?_;rintro e w2 ⟨rfl,hB2⟩;have HB2:=θ hB2;clear hB2;go_wp2_with fail;go_ret;exact⟨rfl,PmStep.of (HP1.o.below HB2.o) HV.o hml (fun j hj=>Ei (hS j hj)) ((HC1.o.mono (fun b hb=>hS b (Ej (Ej (Ej hb))))).trans (Chg.of_below (S:=fun _=>False) HB2.o) (fun _ hf=>hf.elim))⟩
theorem PmV.stay {S:Nat→Prop}{w w':World}{p c:Nat}{L:List Int}{N:Nat}(h:PmV S w p c L N)(hb:Below w.heap.size w w'):PmStep S w w' p c L N:=
 ⟨(h.below hb).mono (fun k hk=>Ei hk),Chg.of_below hb⟩
theorem PmStep.more {S:Nat→Prop}{w w':World}{p c c':Nat}{L:List Int}{N:Nat}(h:PmStep S w w' p c L N)(hc:c≤c'):PmStep S w w' p c' L N:=⟨h.pv.more hc,h.chg⟩
def fA(L:List Int)(N:Nat)(x y:Int):Int:=if 0≤x∧x<L.length∧0≤y∧y<N then (if 0≤gL L x∨0≤aL L y then 1 else 0)else 2
def fQ(L:List Int)(N:Nat)(x y:Int):List Int:=if fA L N x y=0 then L.set x.toNat y else L
theorem Di(L:List Int)(N:Nat)(x y:Int):(fQ L N x y).length=L.length:=by unfold fQ;split<;>simp
theorem Pl{L:List Int}{y:Int}(hy:0≤y):0≤aL L y↔∃r,gL L r=y:=by
 rcases pK L y with ⟨i,h1,h2,h3,h4⟩ | ⟨h1,h2⟩
 ·exact⟨fun _=>⟨i,h3⟩,fun _=>E⟩
 ·exact⟨fun h=>E,fun⟨r,h⟩=>absurd h (h2 hy r)⟩
theorem Rx{S:Nat→Prop}{w:World}{p c:Nat}{L:List Int}{N:Nat}(h:PmV S w p c L N)(hc:c≤1000000)(hL:L.length≤1000000)(hN:N≤1000000)(x y:Int):
  Calls Tryz.prog 50 #[.pointer (some ⟨p,0,none⟩), .int .i64 x, .int .i64 y] w fun e w'=>e= .returned (.int .i64 (fA L N x y))∧PmStep S w w' p (c+1) (fQ L N x y) N:=by
 by_cases hr:0≤x∧x<L.length∧0≤y∧y<N
 ·obtain⟨i,rfl⟩:=am8 hr.1;obtain⟨j,rfl⟩:=am8 hr.2.2.1;by_cases ha:0≤gL L i∨0≤aL L j
  ·have e:fA L N i j=1:=by unfold fA;rw[aH9 hr,aH9 ha]
   have e2:fQ L N i j=L:=by unfold fQ;rw[e,aH8 E]
   rw[e,e2];refine(Ym h hc i j E E (ha.imp id (fun h=>(Pl E).1 h))).mono ?_;rintro e w' ⟨rfl,hs⟩;exact⟨rfl,hs.more E⟩
  ·have e:fA L N i j=0:=by unfold fA;rw[aH9 hr,aH8 ha]
   have e2:fQ L N i j=L.set i (j:Int):=by unfold fQ;rw[e,aH9 rfl,ao2]
   rw[e,e2];exact ag3 h hc hL hN i j E E E (fun r hr=>ha (Ej ((Pl E).2 ⟨r,hr⟩)))
 ·have e:fA L N x y=2:=by unfold fA;rw[aH8 hr]
  have e2:fQ L N x y=L:=by unfold fQ;rw[e,aH8 E]
  rw[e,e2];refine(Yo h x y E).mono ?_;rintro e w' ⟨rfl,hs⟩;exact⟨rfl,(h.stay hs).more E⟩
def okC(b:Bool):Int:=if b then 0 else 2
def iI(L:List Int)(x:Int):Bool:=decide (0≤x)&&decide (x≤L.length)
def dC(L:List Int)(x:Int):Bool:=decide (0≤x)&&decide (x<L.length)
def gO(N:Nat)(x:Int):Bool:=decide (0≤x)&&decide (x≤N)
def mW(N:Nat)(x:Int):Bool:=decide (0≤x)&&decide (x<N)
def oC(L:List Int)(x:Int):List Int:=if iI L x then bY L x.toNat (-1)else L
def jG(L:List Int)(x:Int):List Int:=if dC L x then dB L x.toNat else L
def oS(L:List Int)(x y:Int):List Int:=if dC L x&&dC L y then mvL L x.toNat y.toNat else L
def mX(L:List Int)(N:Nat)(x:Int):List Int:=if gO N x then L.map (upP x)else L
def mY(N:Nat)(x:Int):Nat:=if gO N x then N+1 else N
def kK(L:List Int)(N:Nat)(x:Int):List Int:=if mW N x then L.map (lQ x)else L
def kL(N:Nat)(x:Int):Nat:=if mW N x then N-1 else N
section
variable {S:Nat→Prop}{w:World}{p c:Nat}{L:List Int}{N:Nat}
theorem Yt(h:PmV S w p c L N)(hc:c≤1000000)(hL:L.length≤1000000)(x:Int):
  Calls Tryz.prog 116 #[.pointer (some ⟨p,0,none⟩), .int .i64 x] w fun e w'=>e= .returned (.int .i64 (okC (iI L x)))∧PmStep S w w' p c (oC L x) N:=by
 unfold oC;cases hb:iI L x with
 | true=>
  unfold iI at hb;simp at hb;obtain⟨i,rfl⟩:=am8 hb.1;rw[aH9 rfl,ao2];exact Yv h hc hL i E
 | false=>
  unfold iI at hb;simp at hb;rw[aH8 Es];refine(Mx h x E).mono ?_;rintro e w' ⟨rfl,hs⟩;exact⟨rfl,h.stay hs⟩
theorem Sd(h:PmV S w p c L N)(hc:c≤1000000)(hL:L.length≤1000000)(x:Int):
  Calls Tryz.prog 106 #[.pointer (some ⟨p,0,none⟩), .int .i64 x] w fun e w'=>e= .returned (.int .i64 (okC (dC L x)))∧PmStep S w w' p c (jG L x) N:=by
 unfold jG;cases hb:dC L x with
 | true=>
  unfold dC at hb;simp at hb;obtain⟨i,rfl⟩:=am8 hb.1;rw[aH9 rfl,ao2];exact Se h hc hL i E
 | false=>
  unfold dC at hb;simp at hb;rw[aH8 Es];refine(Io h x E).mono ?_;rintro e w' ⟨rfl,hs⟩;exact⟨rfl,h.stay hs⟩
theorem Yq(h:PmV S w p c L N)(hc:c≤1000000)(hN:N≤1000000)(x:Int):
  Calls Tryz.prog 117 #[.pointer (some ⟨p,0,none⟩), .int .i64 x] w fun e w'=>e= .returned (.int .i64 (okC (gO N x)))∧PmStep S w w' p c (mX L N x) (mY N x):=by
 unfold mX mY;cases hb:gO N x with
 | true=>
  unfold gO at hb;simp at hb;obtain⟨i,rfl⟩:=am8 hb.1;rw[aH9 rfl,aH9 rfl];exact Yr h hc hN i E
 | false=>
  unfold gO at hb;simp at hb;rw[aH8 Es,aH8 Es];refine(Mt h x E).mono ?_;rintro e w' ⟨rfl,hs⟩;exact⟨rfl,h.stay hs⟩
theorem Rz(h:PmV S w p c L N)(hc:c≤1000000)(hN:N≤1000000)(x:Int):
  Calls Tryz.prog 107 #[.pointer (some ⟨p,0,none⟩), .int .i64 x] w fun e w'=>e= .returned (.int .i64 (okC (mW N x)))∧PmStep S w w' p c (kK L N x) (kL N x):=by
 unfold kK kL;cases hb:mW N x with
 | true=>
  unfold mW at hb;simp at hb;obtain⟨i,rfl⟩:=am8 hb.1;rw[aH9 rfl,aH9 rfl];exact Sc h hc hN i E
 | false=>
  unfold mW at hb;simp at hb;rw[aH8 Es,aH8 Es];refine(Il h x E).mono ?_;rintro e w' ⟨rfl,hs⟩;exact⟨rfl,h.stay hs⟩
theorem My(h:PmV S w p c L N)(hc:c≤1000000)(hL:L.length≤1000000)(x y:Int):
  Calls Tryz.prog 114 #[.pointer (some ⟨p,0,none⟩), .int .i64 x, .int .i64 y] w fun e w'=>e= .returned (.int .i64 (okC (dC L x&&dC L y)))∧PmStep S w w' p c (oS L x y) N:=by
 unfold oS;cases hb:(dC L x&&dC L y)with
 | true=>
  unfold dC at hb;simp at hb;obtain⟨i,rfl⟩:=am8 hb.1.1;obtain⟨j,rfl⟩:=am8 hb.2.1;rw[aH9 rfl,ao2,ao2];exact Mz h hc hL i j E E
 | false=>
  unfold dC at hb;simp at hb;rw[aH8 Es];refine(Fc h x y E).mono ?_;rintro e w' ⟨rfl,hs⟩;exact⟨rfl,h.stay hs⟩
theorem pPos_v(h:PmV S w p c L N)(hc:c≤1000000)(x:Int):
  Calls Tryz.prog 129 #[.pointer (some ⟨p,0,none⟩), .int .i64 x] w fun e w'=>e= .returned (.int .i64 (gL L x))∧PmStep S w w' p c L N:=by
 obtain⟨q,SA,lv,ov,m,hP,hV,hml,hS⟩:=h;have :=Ys hP hV.ok hV.so E x;rw[hV.pos]at this;refine this.mono ?_;rintro e w' ⟨rfl,hP1,hC1⟩;exact⟨rfl,PmStep.of hP1 hV hml (fun j hj=>Ei (hS j hj)) (hC1.mono (fun b hb=>hS b (Ej (Ej (Ej hb)))))⟩
theorem pRow_v(h:PmV S w p c L N)(hc:c≤1000000)(x:Int):
  Calls Tryz.prog 120 #[.pointer (some ⟨p,0,none⟩), .int .i64 x] w fun e w'=>e= .returned (.int .i64 (aL L x))∧Below w.heap.size w w':=by
 obtain⟨q,SA,lv,ov,m,hP,hV,hml,hS⟩:=h;have :=Yx hP hV.ok E x;rwa[hV.rowv]at this
end
def kU(x best y:Int):Int:=if x≤y∧(best<0∨y<best)then y else best
def fE(x:Int)(l:List (Int×Int)):Int:=l.foldl (fun b y=>kU x b y.2) (-1)
theorem Mm(x:Int)(l:List (Int×Int))(y:Int×Int):fE x (l++[y])=kU x (fE x l) y.2:=by unfold fE;rw[List.foldl_append];rfl
theorem vX{w:World}{B g n cap:Nat}{l:List (Int×Int)}(h:w.ownsRow B 134 2 (.slice (some ⟨g,0,none⟩) n cap) n (bB l))(hn:l.length=n){i:Nat}(hi:i<n):
  w.cell? ⟨g,i*2,none⟩=some (.int .i64 (aD l i))∧w.cell? ⟨g,i*2+1,none⟩=some (.int .i64 (aH l i))∧g<w.heap.size:=by
 subst hn;have hT:TabIs w g cap l:=⟨h.1,by
  rcases h.2 with h2 | ⟨g',c,cur,h1,h2,h3⟩
  ·exact Ei h2
  ·exact Ej ⟨g',c,cur,h1,aC8 _,h3⟩⟩
 obtain⟨h1,h2,_⟩:=hT.cells hi;exact⟨h1,h2,aF8 w _ h1⟩
theorem ag5{S:Nat→Prop}{w:World}{p c:Nat}{L:List Int}{N:Nat}(h:PmV S w p c L N)(hc:c≤1000000)(hL:L.length≤1000000)(x:Int):
  Calls Tryz.prog 119 #[.pointer (some ⟨p,0,none⟩), .int .i64 x] w fun e w'=>e= .returned (.int .i64 (fE x (prL 0 L)))∧Below w.heap.size w w':=by
 have hall:=Ry h hc;have hlen:∀(l:List Int) (i:Nat),(prL i l).length≤l.length:=by
  intro l;induction l with
  | nil=>intro i;exact aA5 _
  | cons y l ih=>intro i;unfold prL;split<;>simp<;>have :=ih (i+1)<;>omega
 have hlen:=hlen L 0;generalize prL 0 L=l at *;have HALL:=θ hall;clear hall h;go_enter Tryz.func119,Tryz.ntmps119;go_wp2_with fail;refine HALL.o.mono ?_;rintro e w1 hpost;obtain⟨a,cc,rfl,hown,hb1⟩:=hpost;have hs1:=hb1.size;have HOWN:=θ hown;have HB1:=θ hb1;clear hown hb1;go_wp2_with fail;go_loopw [5,11] (fun b v wr=>∃i:Nat,i≤l.length∧v= .int .i64 i∧b= .int .i64 (fE x (l.take i))∧Below w1.heap.size w1 wr) (fun _ v _=>l.length-(intOf v).toNat);case atStart=>exact⟨0,aC8 _,rfl,rfl,am4 _ _⟩
 case round=>
  obtain⟨i,hi,rfl,rfl,hb⟩:=hrel;have hs:=hb.size;by_cases hlt:i<l.length
  ·obtain⟨g,cap,rfl,hg1,hcells⟩:∃g cap,a=some ⟨g,0,none⟩∧cap=cap∧∀j,j<l.length→w1.cell? ⟨g,j*2,none⟩=some (.int .i64 (aD l j))∧w1.cell? ⟨g,j*2+1,none⟩=some (.int .i64 (aH l j))∧g<w1.heap.size:=by
    obtain⟨_,hz,_,_⟩:True∧True∧True∧True:=⟨trivial,trivial,trivial,trivial⟩;have ho:=HOWN.o;rcases ho.2 with ⟨_,h0⟩ | ⟨g,cap,cur,hv,_⟩
    ·omega
    ·injection hv with e1 _ _
     subst e1;exact⟨g,cap,rfl,rfl,fun j hj=>vX ho rfl hj⟩
   obtain⟨q1,q2,hgl⟩:=hcells i hlt;have q1':=(hb.cell (p:=⟨g,i*2,none⟩) hgl).trans q1;have q2':=(hb.cell (p:=⟨g,i*2+1,none⟩) hgl).trans q2;have hsn:fE x (l.take (i+1))=kU x (fE x (l.take i)) (aH l i):=by
    rw[ay9,ar3 hlt];show fE x (l.take i++[l[i]])=_;rw[Mm];simp[aH,hlt]
   have HSN:=θ hsn;have HB:=θ hb;clear hcells q1 q2 hg1 hsn hb;generalize fE x (l.take i)=best at *;generalize aD l i=r0 at *;generalize aH l i=y at *;unfold kU at HSN;by_cases h1:x≤y
   ·have d1:decide (x≤y)=true:=aH1 h1;by_cases h2:best<0
    ·have d2:decide (best<0)=true:=aH1 h2;have he:=HSN.o;rw[aH9 ⟨h1,Ei h2⟩]at he;have HE:=θ he;clear h1 h2 he HSN;go_wp2_with fail;go_roundw;case rel=>exact⟨i+1,E,by go_num,by rw[HE.o],HB.o.alloc hs _⟩
     case measure=>simp[intOf];omega
    ·have d2:decide (best<0)=false:=aG9 h2;by_cases h3:y<best
     ·have d3:decide (y<best)=true:=aH1 h3;have he:=HSN.o;rw[aH9 ⟨h1,Ej h3⟩]at he;have HE:=θ he;clear h1 h2 h3 he HSN;go_wp2_with fail;go_roundw;case rel=>exact⟨i+1,E,by go_num,by rw[HE.o],HB.o.alloc hs _⟩
      case measure=>simp[intOf];omega
     ·have d3:decide (y<best)=false:=aG9 h3;have he:=HSN.o;rw[aH8 (fun h=>h.2.elim h2 h3)]at he;have HE:=θ he;clear h1 h2 h3 he HSN;go_wp2_with fail;go_roundw;case rel=>exact⟨i+1,E,by go_num,by rw[HE.o],HB.o.alloc hs _⟩
      case measure=>simp[intOf];omega
   ·have d1:decide (x≤y)=false:=aG9 h1;have he:=HSN.o;rw[aH8 (fun h=>h1 h.1)]at he;have HE:=θ he;clear h1 he HSN;go_wp2_with fail;go_roundw;case rel=>exact⟨i+1,E,by go_num,by rw[HE.o],HB.o.alloc hs _⟩
    case measure=>simp[intOf];omega
  ·obtain rfl:i=l.length:=E;rw[az2];go_wp2_with fail;go_ret;exact⟨rfl,HB1.o.trans (hb.mono hs1)⟩
def dK(N:Nat):List Int→List (Int×Int)→Option (List Int)
 | L,[]=>some L
 | L,x::l=>if fA L N x.1 x.2=0 then dK N (fQ L N x.1 x.2) l else none
theorem kT(N:Nat)(L:List Int)(y:Int×Int)(l:List (Int×Int)):dK N L (y::l)=if fA L N y.1 y.2=0 then dK N (fQ L N y.1 y.2) l else none:=rfl
theorem tO(N:Nat):∀(L:List Int) (l:List (Int×Int)) (x:Int×Int),dK N L (l++[x])=(dK N L l).bind fun L'=>if fA L' N x.1 x.2=0 then some (fQ L' N x.1 x.2)else none
 | L,[],x=>by show (if _ then _ else _)=_;rfl
 | L,y::l,x=>by
  rw[ap1,kT,kT];split
  ·exact tO N _ l x
  ·rfl
theorem xM(N:Nat):∀(L:List Int) (l:List (Int×Int)) (L':List Int),dK N L l=some L'→L'.length=L.length
 | L,[],L',h=>by injection h with h;rw[h]
 | L,y::l,L',h=>by
  unfold dK at h;split at h
  ·rw[xM N _ l L' h,Di]
  ·cases h
theorem Ht{N:Nat}{L L':List Int}{l:List (Int×Int)}(h:dK N L l=some L')(k:Nat):∃L'',dK N L (l.take k)=some L'':=by
 have key:∀(a b:List (Int×Int)) (L:List Int),dK N L (a++b)=(dK N L a).bind fun L=>dK N L b:=by
  intro a;induction a with
  | nil=>intro b L;rfl
  | cons y a ih=>intro b L;rw[ap1,kT,kT];split<;>first | exact ih _ _ | rfl
 have :=key (l.take k) (l.drop k) L;rw[az0,h]at this;cases hh:dK N L (l.take k)with
 | none=>rw[hh]at this;cases this
 | some L''=>exact⟨L'',rfl⟩
def kD(w:World)(n:Nat)(l:List (Int×Int))(e:Ending)(w':World):Prop:=match dK n (List.replicate n (-1)) l with
 | some L=>∃p,e= .returned (.tuple #[.pointer (some ⟨p,0,none⟩), .int .i64 0])∧PmV (fun k=>w.heap.size≤k) w' p l.length L n∧Below w.heap.size w w'
 | none=>e= .returned (.tuple #[.pointer none, .int .i64 1])∧Below w.heap.size w w'
theorem Ec(n:Nat)(r:Int):gL (List.replicate n (-1)) r= -1:=by
 unfold gL;split
 ·by_cases h:r.toNat<n
  ·simp[h]
  ·rw[ar4 (by simp;omega)];rfl
 ·rfl
theorem ai2(n:Nat):PVw ⟨Ar.new 268435456,[],[],n,n⟩ (List.replicate n (-1)) n:=by
 refine⟨⟨⟨rfl,ax8,fun k=>by simp[Ar.new],rfl⟩,Es,rfl,fun r p=>?_,fun r=>?_,fun r s h=>?_⟩,List.Pairwise.nil⟩
 ·rw[Ec];constructor
  ·rintro⟨k,hk,_⟩;simp at hk
  ·rintro⟨h1,h2⟩;omega
 ·rw[Ec];omega
 ·rw[Ec]at h;omega
theorem pNew_v(w:World)(n:Nat)(hn:n≤1000)(l:List (Int×Int))(a:Option Addr)(c:Nat)(hr:ReadsV w a (bB l))(hl:l.length≤1000):
  Calls Tryz.prog 48 #[.int .i64 n, .slice a l.length c] w (kD w n l):=by
 have d1:decide ((n:Int)<0)=false:=Es;have d2:decide ((2147483648:Int)<(n:Int))=false:=by simp;omega
 have HNEW:Hid (Calls Tryz.prog 90 #[.int .i64 (268435456:Int)] w fun e w'=>e= .returned (.pointer (some ⟨w.heap.size,0,none⟩))∧IsArena w' w.heap.size (fun k=>k=w.heap.size) (Ar.new 268435456)∧Chg (fun _=>False) w w'):=qK 268435456 w E;have HR:=θ hr;have HLC:Hid (∀i,i<l.length→∃b off,a=some ⟨b,off,none⟩∧b<w.heap.size∧w.cell? ⟨b,off+i*2,none⟩=some (.int .i64 (aD l i))∧w.cell? ⟨b,off+i*2+1,none⟩=some (.int .i64 (aH l i))):=by
  intro i hi;obtain⟨b,off,ha,hb,hc⟩:=hr.some (by rw[qO];omega);obtain⟨e1,e2⟩:=jR l i hi;exact⟨b,off,ha,hb,hc _ _ e1,by rw[az7];exact hc _ _ e2⟩
 clear hr;go_enter Tryz.func48,Tryz.ntmps48;go_wp2_with fail;refine HNEW.o.mono ?_;rintro e w1 ⟨rfl,hA,hC⟩;have HA:=θ hA;have HC:=θ hC;clear hA hC;go_wp2_with fail;have hC:=HC.o.alloc (.cells #[.pointer (some ⟨w.heap.size,0,none⟩), .slice none 0 0, .slice none 0 0, .int .i64 (n:Int), .int .i64 (n:Int)] 145);have hqlt:=HA.o.lt _ HA.o.self;have hP:PmIn (w1.alloc (.cells #[.pointer (some ⟨w.heap.size,0,none⟩), .slice none 0 0, .slice none 0 0, .int .i64 (n:Int), .int .i64 (n:Int)] 145)) w1.heap.size w.heap.size (fun k=>k=w.heap.size) (.slice none 0 0) (.slice none 0 0) ⟨Ar.new 268435456,[],[],n,n⟩:=
  ⟨aH5 w1 _,HA.o.chg (S':=fun _=>False) (Chg.refl.alloc _) (fun _ _ h=>h),aG2 _ _ _ _,aG2 _ _ _ _,fun e=>E,fun g hg=>by simp[Value.ownBlock]at hg,fun g hg=>by simp[Value.ownBlock]at hg⟩
 have hs1:=HC.o.size;have hV:PmV (fun k=>w.heap.size≤k) (w1.alloc (.cells #[.pointer (some ⟨w.heap.size,0,none⟩), .slice none 0 0, .slice none 0 0, .int .i64 (n:Int), .int .i64 (n:Int)] 145)) w1.heap.size 0 (List.replicate n (-1)) n:=
  ⟨_,_,_,_,_,hP,ai2 n,aA5 _,fun k hk=>by
   rcases hk with rfl | hk | hk | hk
   ·exact hs1
   ·have :k=w.heap.size:=hk;omega
   ·simp[Value.ownBlock]at hk
   ·simp[Value.ownBlock]at hk⟩
 have hB:Below w.heap.size w (w1.alloc (.cells #[.pointer (some ⟨w.heap.size,0,none⟩), .slice none 0 0, .slice none 0 0, .int .i64 (n:Int), .int .i64 (n:Int)] 145)):=hC.below (fun b hb=>hb.elim) (aA5 _);generalize w1.alloc (.cells #[.pointer (some ⟨w.heap.size,0,none⟩), .slice none 0 0, .slice none 0 0, .int .i64 (n:Int), .int .i64 (n:Int)] 145)=w2 at *;have HV:=θ hV;have HB:=θ hB;obtain⟨p,hp⟩:∃p,w1.heap.size=p:=⟨_,rfl⟩;rw[hp]at HV⊢;clear hP hV hB hC hp hs1 hqlt HA HC;go_loopw [22] (fun v wr=>∃(i:Nat) (L:List Int),i≤l.length∧v= .int .i64 i∧dK n (List.replicate n (-1)) (l.take i)=some L∧PmV (fun k=>w.heap.size≤k) wr p i L n∧Below w.heap.size w wr) (fun v _=>l.length-(intOf v).toNat);case atStart=>exact⟨0,_,aC8 _,rfl,rfl,HV.o,HB.o⟩
 case round=>
  obtain⟨i,L,hi,rfl,hall,hv,hb⟩:=hrel;have hs:=hb.size;have hLl:=xM _ _ _ _ hall;rw[at3]at hLl;by_cases hlt:i<l.length
  ·obtain⟨b,off,rfl,hbl,q1,q2⟩:=HLC.o i hlt;have q1':=(hb.cell (p:=⟨b,off+i*2,none⟩) hbl).trans q1;have q2':=(hb.cell (p:=⟨b,off+i*2+1,none⟩) hbl).trans q2;have hsn:l.take (i+1)=l.take i++[(aD l i,aH l i)]:=by
    rw[ay9,ar3 hlt];show _++[l[i]]=_;congr 1;simp[aD,aH,hlt]
   have hsn2:=tO n (List.replicate n (-1)) (l.take i) (aD l i,aH l i);rw[←hsn,hall]at hsn2;have hadd:Calls Tryz.prog 50 #[.pointer (some ⟨p,0,none⟩), .int .i64 (aD l i), .int .i64 (aH l i)] (wr.alloc (.cells #[.int .i64 (aD l i), .int .i64 (aH l i)] 134)) fun e w'=>e= .returned (.int .i64 (fA L n (aD l i) (aH l i)))∧PmStep (fun k=>w.heap.size≤k) (wr.alloc (.cells #[.int .i64 (aD l i), .int .i64 (aH l i)] 134)) w' p (i+1) (fQ L n (aD l i) (aH l i)) n:=
    Rx (hv.below (aC wr _)) E E E _ _
   have hlast:∀(h:¬fA L n (aD l i) (aH l i)=0),dK n (List.replicate n (-1)) l=none:=fun h=>by
    cases hx:dK n (List.replicate n (-1)) l with
    | none=>rfl
    | some L'=>
     obtain⟨L'',h2⟩:=Ht hx (i+1);rw[h2]at hsn2;show _=_;have :(some L'':Option (List Int))=if fA L n (aD l i) (aH l i)=0 then some (fQ L n (aD l i) (aH l i))else none:=hsn2
     rw[aH8 h]at this;cases this
   have HSN:Hid (dK n (List.replicate n (-1)) (l.take (i+1))=if fA L n (aD l i) (aH l i)=0 then some (fQ L n (aD l i) (aH l i))else none):=hsn2;have HADD:=θ hadd;have HLAST:=θ hlast;have HB2:=θ hb;clear hsn hsn2 hadd hall hv q1 q2 hlast hb;generalize aD l i=r0 at *;generalize aH l i=p0 at *;obtain⟨code,hcode⟩:∃code,fA L n r0 p0=code:=⟨_,rfl⟩;rw[hcode]at HSN HADD HLAST;clear hcode;go_wp2_with fail;refine HADD.o.mono ?_;rintro e w4 ⟨rfl,hst⟩;obtain⟨hv4,hb4⟩:=hst.own (by simp;omega);have hb5:Below w.heap.size w w4:=(HB2.o.alloc hs _).trans hb4;have HV4:=θ hv4;have HB5:=θ hb5;clear hst hv4 hb4 hb5;by_cases hz:code=0
   ·have he:=HSN.o;rw[aH9 hz]at he;have HE:=θ he;have dz:(code != 0)=false:=by simp[hz]
    have dz2:(code==0)=true:=by simp[hz]
    clear he hz HSN HLAST;go_wp2_with fail;go_roundw;case rel=>exact⟨i+1,_,E,by go_num,HE.o,HV4.o,HB5.o⟩
    case measure=>simp[intOf];omega
   ·have he:=HLAST.o hz;have HE:Hid (kD w n l (.returned (.tuple #[.pointer none, .int .i64 1])) w4):=by
     show kD _ _ _ _ _;unfold kD;rw[he];exact⟨rfl,HB5.o⟩
    have dz:(code != 0)=true:=by simp[hz]
    have dz2:(code==0)=false:=by simp[hz]
    clear he hz HSN HLAST;go_wp2_with fail;go_ret2;exact HE.o
  ·obtain rfl:i=l.length:=E;rw[az2]at hall;have HE:Hid (kD w n l (.returned (.tuple #[.pointer (some ⟨p,0,none⟩), .int .i64 0])) wr):=by
    show kD _ _ _ _ _;unfold kD;rw[hall];exact⟨p,rfl,hv,hb⟩
   clear hall hv hb;go_wp2_with fail;go_ret2;exact HE.o
def PmO(B:Nat)(w:World)(p c:Nat)(L:List Int)(N:Nat):Prop:=PmV (fun k=>B≤k) w p c L N∧c≤1000000∧L.length≤1000000∧N≤1000000∧B≤w.heap.size
section
variable {B:Nat}{w w':World}{p c:Nat}{L:List Int}{N:Nat}
theorem Is(L:List Int)(x:Int):(jG L x).length≤L.length:=by
 unfold jG;split
 ·rename_i h;unfold dC at h;simp at h;rw[iS E];omega
 ·exact aA5 _
theorem Rm(L:List Int)(x y:Int):(oS L x y).length=L.length:=by
 unfold oS;split
 ·rename_i h;unfold dC at h;simp at h;rw[Kt E E]
 ·rfl
theorem new_o{w:World}(n:Nat){N:Int}(hN:N=n)(hn:n≤1000):
  Calls Tryz.prog 48 #[.int .i64 N, .slice none 0 0] w fun e w'=>∃p,e= .returned (.tuple #[.pointer (some ⟨p,0,none⟩), .int .i64 0])∧PmO w.heap.size w' p 0 (List.replicate n (-1)) n∧Below w.heap.size w w':=by
 subst hN;refine(pNew_v w n hn [] none 0 ReadsV.nil Es).mono ?_;intro e w' h;obtain⟨p,rfl,h1,h2⟩:=h;exact⟨p,rfl,⟨h1,Es,by simp;omega,E,h2.size⟩,h2⟩
end
def RdP(w:World)(a:Option Addr)(l:List (Int×Int)):Prop:=∀i,i<l.length→∃b off,a=some ⟨b,off,none⟩∧b<w.heap.size∧∀j,j<l.length→w.cell? ⟨b,off+j*2,none⟩=some (.int .i64 (aD l j))∧w.cell? ⟨b,off+j*2+1,none⟩=some (.int .i64 (aH l j))
theorem RdP.below {w w':World}{a:Option Addr}{l:List (Int×Int)}(h:RdP w a l)(hb:Below w.heap.size w w'):RdP w' a l:=by
 intro i hi;obtain⟨b,off,rfl,hlt,hc⟩:=h i hi;exact⟨b,off,rfl,by have :=hb.size;omega,fun j hj=>⟨(hb.cell (p:=⟨b,off+j*2,none⟩) hlt).trans (hc j hj).1,(hb.cell (p:=⟨b,off+j*2+1,none⟩) hlt).trans (hc j hj).2⟩⟩
theorem ai5{w:World}{B n cap:Nat}{a:Option Addr}{l:List (Int×Int)}(h:w.ownsRow B 134 2 (.slice a n cap) n (bB l))(hn:l.length=n):RdP w a l:=by
 intro i hi;rcases h.2 with ⟨_,h0⟩ | ⟨g,c,cur,hv,_⟩
 ·omega
 ·injection hv with e1 _ _
  subst e1;refine⟨g,0,rfl,(vX h hn (i:=i) E).2.2,fun j hj=>?_⟩;obtain⟨h1,h2,_⟩:=vX h hn (i:=j) E;rw[aC7];exact⟨h1,h2⟩
theorem PmV.lts {S:Nat→Prop}{w:World}{p c:Nat}{L:List Int}{N:Nat}(h:PmV S w p c L N):PmV (fun k=>S k∧k<w.heap.size) w p c L N:=by
 obtain⟨q,SA,lv,ov,m,h1,h2,h3,h4⟩:=h;exact⟨q,SA,lv,ov,m,h1,h2,h3,fun k hk=>⟨h4 k hk,h1.lt k hk⟩⟩
def exS(B:Nat)(X:Nat→Prop)(k:Nat):Prop:=B≤k∧¬X k
structure PmE (B:Nat) (X:Nat→Prop) (w:World) (p c:Nat) (L:List Int) (N:Nat):Prop where
 pv:PmV (exS B X) w p c L N
 c6:c≤1000000
 l6:L.length≤1000000
 n6:N≤1000000
 le:B≤w.heap.size
 x:∀k,X k→k<w.heap.size
section
variable {B:Nat}{X:Nat→Prop}{w w':World}{p c:Nat}{L:List Int}{N:Nat}
theorem PmE.below (h:PmE B X w p c L N)(hb:Below w.heap.size w w'):PmE B X w' p c L N:=⟨h.pv.below hb,h.c6,h.l6,h.n6,aA6 h.le hb.size,fun k hk=>aA9 (h.x k hk) hb.size⟩
theorem PmE.chg {S:Nat→Prop}(h:PmE B X w p c L N)(hc:Chg S w w')(hd:∀k,exS B X k→k<w.heap.size→¬S k):PmE B X w' p c L N:=
 ⟨((h.pv.lts).chg hc (fun k hk=>hd k hk.1 hk.2)).mono (fun k hk=>hk.1),h.c6,h.l6,h.n6,aA6 h.le hc.size,fun k hk=>aA9 (h.x k hk) hc.size⟩
theorem PmE.of {c':Nat}{L':List Int}{N':Nat}(h:PmE B X w p c L N)(hs:PmStep (exS B X) w w' p c' L' N')(hc:c'≤1000000)(hL:L'.length≤1000000)(hN:N'≤1000000):PmE B X w' p c' L' N'∧Chg (exS B X) w w':=
 ⟨⟨hs.pv.mono (fun k hk=>hk.elim id (fun hk=>⟨by have :=h.le;omega,fun hx=>by have :=h.x k hx;omega⟩)),hc,hL,hN,aA6 h.le hs.chg.size,fun k hk=>aA9 (h.x k hk) hs.chg.size⟩,hs.chg⟩
theorem add_e(h:PmE B X w p c L N)(hc:c<1000000){x y code:Int}{L':List Int}(hr:fA L N x y=code)(hl:fQ L N x y=L'):
  Calls Tryz.prog 50 #[.pointer (some ⟨p,0,none⟩), .int .i64 x, .int .i64 y] w fun e w'=>e= .returned (.int .i64 code)∧PmE B X w' p (c+1) L' N∧Chg (exS B X) w w':=by
 subst hr;subst hl;refine(Rx h.pv h.c6 h.l6 h.n6 x y).mono ?_;rintro e w' ⟨rfl,hs⟩;exact⟨rfl,h.of hs E (by rw[Di];exact h.l6) h.n6⟩
theorem pos_e(h:PmE B X w p c L N){x code:Int}(hr:gL L x=code):
  Calls Tryz.prog 129 #[.pointer (some ⟨p,0,none⟩), .int .i64 x] w fun e w'=>e= .returned (.int .i64 code)∧PmE B X w' p c L N∧Chg (exS B X) w w':=by
 subst hr;refine(pPos_v h.pv h.c6 x).mono ?_;rintro e w' ⟨rfl,hs⟩;exact⟨rfl,h.of hs h.c6 h.l6 h.n6⟩
theorem row_e(h:PmE B X w p c L N){x code:Int}(hr:aL L x=code):
  Calls Tryz.prog 120 #[.pointer (some ⟨p,0,none⟩), .int .i64 x] w fun e w'=>e= .returned (.int .i64 code)∧PmE B X w' p c L N∧Chg (exS B X) w w':=by
 subst hr;refine(pRow_v h.pv h.c6 x).mono ?_;rintro e w' ⟨rfl,hs⟩;exact⟨rfl,h.below hs,Chg.of_below hs⟩
theorem next_e(h:PmE B X w p c L N){x code:Int}(hr:fE x (prL 0 L)=code):
  Calls Tryz.prog 119 #[.pointer (some ⟨p,0,none⟩), .int .i64 x] w fun e w'=>e= .returned (.int .i64 code)∧PmE B X w' p c L N∧Chg (exS B X) w w':=by
 subst hr;refine(ag5 h.pv h.c6 h.l6 x).mono ?_;rintro e w' ⟨rfl,hs⟩;exact⟨rfl,h.below hs,Chg.of_below hs⟩
theorem ai7(h:PmE B X w p c L N){x code:Int}{L':List Int}(hr:okC (iI L x)=code)(hl:oC L x=L')(hL:L'.length≤1000000):
  Calls Tryz.prog 116 #[.pointer (some ⟨p,0,none⟩), .int .i64 x] w fun e w'=>e= .returned (.int .i64 code)∧PmE B X w' p c L' N∧Chg (exS B X) w w':=by
 subst hr;subst hl;refine(Yt h.pv h.c6 h.l6 x).mono ?_;rintro e w' ⟨rfl,hs⟩;exact⟨rfl,h.of hs h.c6 hL h.n6⟩
theorem Zj(h:PmE B X w p c L N){x code:Int}{L':List Int}(hr:okC (dC L x)=code)(hl:jG L x=L'):
  Calls Tryz.prog 106 #[.pointer (some ⟨p,0,none⟩), .int .i64 x] w fun e w'=>e= .returned (.int .i64 code)∧PmE B X w' p c L' N∧Chg (exS B X) w w':=by
 subst hr;subst hl;refine(Sd h.pv h.c6 h.l6 x).mono ?_;rintro e w' ⟨rfl,hs⟩;exact⟨rfl,h.of hs h.c6 (aA6 (Is L x) h.l6) h.n6⟩
theorem Tc(h:PmE B X w p c L N){x y code:Int}{L':List Int}(hr:okC (dC L x&&dC L y)=code)(hl:oS L x y=L'):
  Calls Tryz.prog 114 #[.pointer (some ⟨p,0,none⟩), .int .i64 x, .int .i64 y] w fun e w'=>e= .returned (.int .i64 code)∧PmE B X w' p c L' N∧Chg (exS B X) w w':=by
 subst hr;subst hl;refine(My h.pv h.c6 h.l6 x y).mono ?_;rintro e w' ⟨rfl,hs⟩;exact⟨rfl,h.of hs h.c6 (by rw[Rm];exact h.l6) h.n6⟩
theorem ag9(h:PmE B X w p c L N){x code:Int}{L':List Int}{N':Nat}(hr:okC (gO N x)=code)(hl:mX L N x=L')(hn:mY N x=N')(hN:N'≤1000000):
  Calls Tryz.prog 117 #[.pointer (some ⟨p,0,none⟩), .int .i64 x] w fun e w'=>e= .returned (.int .i64 code)∧PmE B X w' p c L' N'∧Chg (exS B X) w w':=by
 subst hr;subst hl;subst hn;refine(Yq h.pv h.c6 h.n6 x).mono ?_;rintro e w' ⟨rfl,hs⟩;exact⟨rfl,h.of hs h.c6 (by unfold mX;split<;>(try rw[at1])<;>exact h.l6) hN⟩
theorem Za(h:PmE B X w p c L N){x code:Int}{L':List Int}{N':Nat}(hr:okC (mW N x)=code)(hl:kK L N x=L')(hn:kL N x=N'):
  Calls Tryz.prog 107 #[.pointer (some ⟨p,0,none⟩), .int .i64 x] w fun e w'=>e= .returned (.int .i64 code)∧PmE B X w' p c L' N'∧Chg (exS B X) w w':=by
 subst hr;subst hl;subst hn;refine(Rz h.pv h.c6 h.n6 x).mono ?_;rintro e w' ⟨rfl,hs⟩;exact⟨rfl,h.of hs h.c6 (by unfold kK;split<;>(try rw[at1])<;>exact h.l6) (by have :=h.n6;unfold kL;split<;>omega)⟩
theorem all_e(h:PmE B X w p c L N){l:List (Int×Int)}(hr:prL 0 L=l):
  Calls Tryz.prog 140 #[.pointer (some ⟨p,0,none⟩)] w (jL w.heap.size w l):=by
 subst hr;exact Ry h.pv h.c6
end
section
variable {B:Nat}{X:Nat→Prop}{w w':World}{p:Nat}{L:List Nat}{T:Tl}
theorem ak0{L:List Nat}(h:Syms L){k s:Nat}(hs:s<257):Syms (inL L k s):=fun x hx=>by
 rcases av9.1 ((eS L k s).mem_iff.1 hx)with rfl | hx
 ·exact hs
 ·exact h x hx
theorem ab0{L:List Nat}(h:Syms L){k:Nat}:Syms (aB L k):=fun x hx=>h x ((eF L k).subset hx)
theorem wkGetQ(h:WkT B X w p L T)(hn:L.length≤1000000){k s:Nat}(hs:L[k]? =some s):∃pw,w.cell? ⟨p,0,none⟩=some (.pointer (some ⟨pw,0,none⟩))∧
  Calls Tryz.prog 102 #[.pointer (some ⟨pw,0,none⟩), .int .i64 k] w fun e w'=>e= .returned (.tuple #[.int .i64 s, .int .i64 0])∧WkT B X w' p L T∧Chg (exT B X) w w':=by
 obtain⟨pw,pt,hp⟩:=h;refine⟨pw,hp.cells.1,(wpGet hp hn hs).mono ?_⟩;rintro e w' ⟨rfl,hk,hc⟩;exact⟨rfl,⟨pw,pt,hk⟩,hc⟩
theorem wkPut(h:WkT B X w p L T)(hn:L.length≤1000000){k s:Nat}(hk:k≤L.length)(hs:s<257):
  Calls Tryz.prog 113 #[.pointer (some ⟨p,0,none⟩), .int .i64 k, .int .i64 s] w fun e w'=>e= .returned (.tuple #[])∧WkT B X w' p (inL L k s) T∧Chg (exT B X) w w':=by
 obtain⟨pw,pt,hp⟩:=h;obtain⟨c0,c1⟩:=hp.cells;have HI:=θ (ac5 hp.v hp.sy E k s hk hs);have HP:=θ hp;clear hp c1;go_enter Tryz.func113,Tryz.ntmps113;go_wp2_with fail;refine HI.o.mono ?_;rintro e w' ⟨rfl,hv,hc⟩;obtain⟨h1,h2⟩:=HP.o.step hv (ak0 HP.o.sy hs) hc;have H1:=θ h1;have H2:=θ h2;clear h1 h2 hv hc;go_wp2_with fail;go_end0;exact⟨rfl,⟨pw,pt,H1.o⟩,H2.o⟩
theorem wkCut(h:WkT B X w p L T)(hn:L.length≤1000000){k s:Nat}(hk:L[k]? =some s):
  Calls Tryz.prog 104 #[.pointer (some ⟨p,0,none⟩), .int .i64 k] w fun e w'=>e= .returned (.int .i64 s)∧WkT B X w' p (aB L k) T∧Chg (exT B X) w w':=by
 obtain⟨pw,pt,hp⟩:=h;obtain⟨c0,c1⟩:=hp.cells;have HI:=θ (ac4 hp.v hp.sy E k s hk);have HP:=θ hp;clear hp c1 hk;go_enter Tryz.func104,Tryz.ntmps104;go_wp2_with fail;refine HI.o.mono ?_;rintro e w' ⟨rfl,hv,hc⟩;obtain⟨h1,h2⟩:=HP.o.step hv (ab0 HP.o.sy) hc;have H1:=θ h1;have H2:=θ h2;clear h1 h2 hv hc;go_wp2_with fail;go_ret;exact⟨rfl,⟨pw,pt,H1.o⟩,H2.o⟩
theorem ac0(h:WkT B X w p L T)(hn:L.length≤1000000){k s:Nat}(hk:k<L.length)(hs:s<257):
  Calls Tryz.prog 103 #[.pointer (some ⟨p,0,none⟩), .int .i64 k, .int .i64 s] w fun e w'=>e= .returned (.tuple #[])∧WkT B X w' p (L.set k s) T∧Chg (exT B X) w w':=by
 have hle:=bL hk;have HC:=θ (wkCut h hn (ar3 hk));have e:inL (aB L k) k s=L.set k s:=pH L hk s;have HE:=θ e;clear h e;go_enter Tryz.func103,Tryz.ntmps103;go_wp2_with fail;refine HC.o.mono ?_;rintro e w1 ⟨rfl,h1,hc1⟩;have HP:=θ (wkPut (k:=k) (s:=s) h1 E E hs);have HC1:=θ hc1;clear h1 hc1;go_wp2_with fail;refine HP.o.mono ?_;rintro e w2 ⟨rfl,h2,hc2⟩;have H2:=θ h2;have HC2:=θ (HC1.o.trans hc2 (fun b hb=>Ei hb));clear h2 hc2;go_wp2_with fail;go_end0;exact⟨rfl,by rw[←HE.o];exact H2.o,HC2.o⟩
theorem al3(h:WkT B X w p L T){s:Nat}{n:Int}(hs:s<257)(h1: -T.N s≤n)(h2:n≤2147483648-T.all):
  Calls Tryz.prog 105 #[.pointer (some ⟨p,0,none⟩), .int .i64 s, .int .i64 n] w fun e w'=>e= .returned (.tuple #[])∧WkT B X w' p L (T.add s n)∧Chg (exT B X) w w':=by
 obtain⟨pw,pt,hp⟩:=h;obtain⟨c0,c1⟩:=hp.cells;have HA:=θ (Cf hp.t (s:=(s:Int)) (n:=n) E E h1 h2);have HP:=θ hp;clear hp c0 h1 h2;go_enter Tryz.func105,Tryz.ntmps105;go_wp2_with fail;refine HA.o.mono ?_;rintro e w' ⟨rfl,ht,hc⟩;rw[ao2]at ht;have H1:Hid (WkP B X w' p pw pt L (T.add s n)):=θ ⟨hc.heap HP.o.hd (fun e=>HP.o.ne e),HP.o.v.chg hc (fun k hk _ e=>hk.2 (Ej (Ej e))),ht,HP.o.ep,HP.o.et,HP.o.ne,HP.o.sy⟩;have H2:Hid (Chg (exT B X) w w'):=θ (hc.mono (fun k hk=>by subst hk;exact HP.o.et));clear ht hc;go_wp2_with fail;go_end0;exact⟨rfl,⟨pw,pt,H1.o⟩,H2.o⟩
end
structure LvP (B:Nat) (X Y Z:Nat→Prop) (w:World) (p pk pp:Nat) (rate mv:Int) (L:List Nat) (T:Tl) (c:Nat) (PL:List Int) (N:Nat):Prop where
 hd:w.heap[p]? =some (.cells #[.pointer (some ⟨pk,0,none⟩), .pointer (some ⟨pp,0,none⟩), .int .i64 rate, .int .i64 mv] 94 (0,0))
 k:WkT B Y w pk L T
 q:PmE B Z w pp c PL N
 ep:exT B X p
 yp:Y p
 zp:Z p
 x:∀j,X j→Y j∧Z j
 cov:∀j,B≤j→j<w.heap.size→Y j∨Z j
def LvE(B:Nat)(X:Nat→Prop)(w:World)(p pk pp:Nat)(rate mv:Int)(L:List Nat)(T:Tl)(c:Nat)(PL:List Int)(N:Nat):Prop:=∃Y Z,LvP B X Y Z w p pk pp rate mv L T c PL N
section
variable {B:Nat}{X Y Z:Nat→Prop}{w w':World}{p pk pp:Nat}{rate mv:Int}{L L':List Nat}{T T':Tl}{c c':Nat}{PL PL':List Int}{N N':Nat}
theorem LvP.lt (h:LvP B X Y Z w p pk pp rate mv L T c PL N):p<w.heap.size:=(am0.1 h.hd).1
theorem LvP.le (h:LvP B X Y Z w p pk pp rate mv L T c PL N):B≤w.heap.size:=h.k.le
theorem LvP.cells (h:LvP B X Y Z w p pk pp rate mv L T c PL N):w.cell? ⟨p,0,none⟩=some (.pointer (some ⟨pk,0,none⟩))∧w.cell? ⟨p,1,none⟩=some (.pointer (some ⟨pp,0,none⟩))∧w.cell? ⟨p,2,none⟩=some (.int .i64 rate)∧w.cell? ⟨p,3,none⟩=some (.int .i64 mv)∧w.frozen? ⟨p,3,none⟩=false:=
 ⟨aG7 w p 0 _ _ _ h.hd,aG7 w p 1 _ _ _ h.hd,aG7 w p 2 _ _ _ h.hd,aG7 w p 3 _ _ _ h.hd,aH3 w p 3 _ _ h.hd⟩
theorem LvP.stepK (h:LvP B X Y Z w p pk pp rate mv L T c PL N)(hk:WkT B Y w' pk L' T')(hc:Chg (exT B Y) w w'):LvE B X w' p pk pp rate mv L' T' c PL N∧Chg (exT B X) w w':=by
 have hs:=hc.size;have hq:=h.q.chg hc (fun j g1 g2 g3=>(h.cov j g1.1 g2).elim g3.2 g1.2);refine⟨⟨Y,fun j=>Z j∨(w.heap.size≤j∧j<w'.heap.size),hc.heap h.hd (fun e=>e.2 h.yp),hk,⟨(((h.q.pv.lts).chg hc (fun j g1 g3=>(h.cov j g1.1.1 g1.2).elim g3.2 g1.1.2))).mono (fun j g=>⟨g.1.1,fun e=>e.elim g.1.2 (fun e=>E)⟩),hq.c6,hq.l6,hq.n6,hq.le,fun j e=>e.elim (fun e=>by have :=h.q.x j e;omega) (fun e=>e.2)⟩,h.ep,h.yp,Ei h.zp,fun j e=>⟨(h.x j e).1,Ei (h.x j e).2⟩,fun j g1 g2=>?_⟩,hc.mono (fun j e=>⟨e.1,fun hx=>e.2 (h.x j hx).1⟩)⟩;by_cases hlt:j<w.heap.size
 ·exact(h.cov j g1 hlt).imp id Ei
 ·exact Ej (Ej ⟨E,g2⟩)
theorem LvP.stepQ (h:LvP B X Y Z w p pk pp rate mv L T c PL N)(hq:PmE B Z w' pp c' PL' N')(hc:Chg (exS B Z) w w'):LvE B X w' p pk pp rate mv L T c' PL' N'∧Chg (exT B X) w w':=by
 have hs:=hc.size;have hk:=h.k.aside hc (fun j g1 g2 g3=>(h.cov j g1.1 g2).elim g1.2 g3.2);refine⟨⟨_,Z,hc.heap h.hd (fun e=>e.2 h.zp),hk,hq,h.ep,Ei h.yp,h.zp,fun j e=>⟨Ei (h.x j e).1,(h.x j e).2⟩,fun j g1 g2=>?_⟩,hc.mono (fun j e=>⟨e.1,fun hx=>e.2 (h.x j hx).2⟩)⟩;by_cases hlt:j<w.heap.size
 ·exact(h.cov j g1 hlt).imp Ei id
 ·exact Ei (Ej ⟨E,g2⟩)
theorem LvP.setM (h:LvP B X Y Z w p pk pp rate mv L T c PL N)(v:Int):LvP B X Y Z (w.setCell ⟨p,3,none⟩ (.int .i64 v)) p pk pp rate v L T c PL N∧Chg (exT B X) w (w.setCell ⟨p,3,none⟩ (.int .i64 v)):=by
 have hc:Chg (fun j=>j=p) w (w.setCell ⟨p,3,none⟩ (.int .i64 v)):=(Chg.refl (S:=fun j=>j=p) (w:=w)).setCell ⟨p,3,none⟩ (Ei rfl) _;have hs:(w.setCell ⟨p,3,none⟩ (.int .i64 v)).heap.size=w.heap.size:=by simp[World.setCell]
 refine⟨⟨bT h.hd 3 _,(h.k.aside hc (fun j g1 _ e=>g1.2 (by rw[e];exact h.yp))).mono (fun j e=>Ei e),h.q.chg hc (fun j g1 _ e=>g1.2 (by rw[e];exact h.zp)),h.ep,h.yp,h.zp,h.x,fun j g1 g2=>h.cov j g1 E⟩,hc.mono (fun j e=>by rw[e];exact h.ep)⟩
theorem LvP.below (h:LvP B X Y Z w p pk pp rate mv L T c PL N)(hb:Below w.heap.size w w'):LvE B X w' p pk pp rate mv L T c PL N:=
 (h.stepK (h.k.below hb) (Chg.of_below hb)).1
theorem LvE.below (h:LvE B X w p pk pp rate mv L T c PL N)(hb:Below w.heap.size w w'):LvE B X w' p pk pp rate mv L T c PL N:=by
 obtain⟨Y,Z,h⟩:=h;exact h.below hb
theorem LvE.le (h:LvE B X w p pk pp rate mv L T c PL N):B≤w.heap.size:=by obtain⟨Y,Z,h⟩:=h;exact h.le
theorem LvE.lt (h:LvE B X w p pk pp rate mv L T c PL N):p<w.heap.size:=by obtain⟨Y,Z,h⟩:=h;exact h.lt
theorem LvE.xlt (h:LvE B X w p pk pp rate mv L T c PL N){j:Nat}(hj:X j):j<w.heap.size:=by obtain⟨Y,Z,h⟩:=h;exact h.k.xlt (h.x j hj).1
theorem LvE.aside {S:Nat→Prop}(h:LvE B X w p pk pp rate mv L T c PL N)(hc:Chg S w w')(hd:∀j,exT B X j→j<w.heap.size→¬S j):LvE B (fun j=>X j∨(w.heap.size≤j∧j<w'.heap.size)) w' p pk pp rate mv L T c PL N:=by
 obtain⟨Y,Z,h⟩:=h;have hs:=hc.size;have hY:=h.k.aside hc (fun j g1 g2 g3=>hd j ⟨g1.1,fun e=>g1.2 (h.x j e).1⟩ g2 g3);have hZ:=(h.q.pv.lts).chg hc (fun j g1 g3=>hd j ⟨g1.1.1,fun e=>g1.1.2 (h.x j e).2⟩ g1.2 g3);refine⟨_,fun j=>Z j∨(w.heap.size≤j∧j<w'.heap.size),hc.heap h.hd (hd p h.ep h.lt),hY,⟨hZ.mono (fun j g=>⟨g.1.1,fun e=>e.elim g.1.2 (fun e=>E)⟩),h.q.c6,h.q.l6,h.q.n6,by have :=h.q.le;omega,fun j e=>e.elim (fun e=>by have :=h.q.x j e;omega) (fun e=>e.2)⟩,⟨h.ep.1,fun e=>e.elim h.ep.2 (fun e=>by have :=h.lt;omega)⟩,Ei h.yp,Ei h.zp,fun j e=>?_,fun j g1 g2=>?_⟩
 ·rcases e with e | e
  ·exact⟨Ei (h.x j e).1,Ei (h.x j e).2⟩
  ·exact⟨Ej e,Ej e⟩
 ·by_cases hlt:j<w.heap.size
  ·exact(h.cov j g1 hlt).imp Ei Ei
  ·exact Ei (Ej ⟨E,g2⟩)
theorem LvE.mono {X':Nat→Prop}(h:LvE B X w p pk pp rate mv L T c PL N)(hy:∀j,X' j→X j):LvE B X' w p pk pp rate mv L T c PL N:=by
 obtain⟨Y,Z,h⟩:=h;exact⟨Y,Z,h.hd,h.k,h.q,⟨h.ep.1,fun e=>h.ep.2 (hy p e)⟩,h.yp,h.zp,fun j e=>h.x j (hy j e),h.cov⟩
theorem LvE.less {X':Nat→Prop}(h:LvE B X w p pk pp rate mv L T c PL N)(hb:Below w.heap.size w w')(hy:∀j,X' j→X j∨(w.heap.size≤j∧j<w'.heap.size)):LvE B X' w' p pk pp rate mv L T c PL N:=
 (h.aside (S:=fun _=>False) (Chg.of_below hb) (fun _ _ _ hf=>hf)).mono hy
end
end
end Go.Proofs.YtchinbgemenenaaGreatDoor
