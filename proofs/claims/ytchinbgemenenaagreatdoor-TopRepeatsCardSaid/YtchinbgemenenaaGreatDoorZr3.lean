/- Lemmas and contracts under the claims of this seat. No condition. -/
import Derived.Laws.MakeOwn
import Derived.LaidEqlPtr
import Derived.Deep.QuietTactic
import Derived.BigQuiet
import Derived.Below
import Derived.Deep.LoopGhost
import Derived.IntWalk
import Derived.Deep.DeepCutAuto
import Derived.Deep.CutBlock
import Derived.Deep.CutRange
import Derived.Test.YtchinbgemenenaaGreatDoorZr1
import Derived.Test.YtchinbgemenenaaGreatDoorZr2
namespace Go.Proofs.YtchinbgemenenaaGreatDoor
set_option linter.unusedVariables false
set_option linter.unusedSimpArgs false
set_option maxRecDepth 100000
set_option maxHeartbeats 12800000
section
open Go.RowKit
theorem Cq(z:Value)(n:Nat):madeCells #[z] n=(aP (fun _=>z) n).toArray:=by
 apply Array.ext
 ·simp[madeCells,aP]
 ·intro i h1 h2;have h0:∀m,m%1=0:=fun m=>E;simp[madeCells,aP,h0]
theorem Tj{P:Program}{t e:TypeId}{z:Value}{bytes:Nat}(hinfo:(P.info? e).map (fun i=>(i.zero,i.size,i.bytes))=some (some z,1,bytes))(ht:P.underlying t=some (.slice e))(hz:z.cells=#[z])(n:Nat)(h:(bytes:Int)*(n:Int)≤281474976710656)(hn:n≤maxLen)(w:World):
  (Instr.makeSlice t (.int .i64 (n:Int)) (.int .i64 (n:Int))).run P w= .ok (.slice (some ⟨w.heap.size,0,none⟩) n n) (w.alloc (.cells (aP (fun _=>z) n).toArray e)):=by
 obtain⟨i,hi,hiz,hsz,hby⟩:=aI1 hinfo;have h2:=run_make (P:=P) w t e i z ht hi hiz .i64 .i64 (n:Int) (n:Int) E E (by rw[hby];exact h) (by unfold maxLen at hn;omega);rw[h2,hz,hsz,ao2,aB6,Cq]
theorem yL(n:Nat)(h:n≤1000000000)(w:World):(Instr.makeSlice 132 (.int .i64 (n:Int)) (.int .i64 (n:Int))).run Tryz.prog w= .ok (.slice (some ⟨w.heap.size,0,none⟩) n n) (w.alloc (.cells (aP (fun _=> .bool false) n).toArray 4)):=
 Tj Tryz.infoBoolR Tryz.underlying132 rfl n E (by unfold maxLen;omega) w
theorem ag2{w:World}{q n base:Nat}{f:Nat→Value}{e:TypeId}(h:w.heap[q]? =some (.cells (aP f n).toArray e (0,0)))(hb:base≤q)(hn:n≤maxLen):w.ownsRow base e 1 (.slice (some ⟨q,0,none⟩) n n) n (aP f n):=
 ⟨by rw[cM];omega, .inr ⟨q,n,(aP f n).toArray,rfl,hb,h,aA5 _,hn,by simp[cM],by rw[aB6];exact az3 (by rw[cM];exact aA5 _)⟩⟩
theorem rR{w:World}{p:Nat}{l:List Bool}(h:IsBlock w p l):Calls Tryz.prog 262 #[.pointer (some ⟨p,0,none⟩)] w (GivesB w.heap.size w l):=by
 obtain⟨c0,_⟩:=h.cells;have hl:=h.1;have hmk:=yL l.length E;have hq0:(w.alloc (.cells (aP (fun _=> .bool false) l.length).toArray 4)).heap[w.heap.size]? =some (.cells (aP (fun i=>if i<0 then .bool (aR l i)else .bool false) l.length).toArray 4 (0,0)):=by
  rw[iF (f:=fun i=>if i<0 then .bool (aR l i)else .bool false) (g:=fun _=> .bool false) (fun i hi=>Es)];exact aH5 w _
 have hb0:=aN w (.cells (aP (fun _=> .bool false) l.length).toArray 4);have HB:=θ h;have HQ0:=θ hq0;obtain⟨q,hq⟩:∃q,w.heap.size=q:=⟨_,rfl⟩;have HQ:=θ hq;have hpq:=h.lt;clear hq0 h hq;go_enter Tryz.func262,Tryz.ntmps262;go_wp2_with fail;rw[HQ.o];go_loopw [14] (fun i wr=>∃k:Nat,k≤l.length∧i= .int .i64 k∧wr.heap[q]? =some (.cells (aP (fun i=>if i<k then .bool (aR l i)else .bool false) l.length).toArray 4 (0,0))∧Below w.heap.size w wr) (fun i _=>l.length-(intOf i).toNat);case atStart=>exact⟨0,aC8 _,rfl,by have :=HQ0.o;rw[HQ.o]at this;exact this,hb0⟩
 case round=>
  clear hb0 hmk;obtain⟨k,hk,rfl,hqk,hb⟩:=hrel;have hs:=hb.size;have hB:=HB.o.below hb hpq;have HBW:=θ hB;have HQK:=θ hqk;by_cases hlt:k<l.length
  ·have hc:=ab7 hqk hlt;simp only[aA7,aH7]at hc;have hfz:wr.frozen? ⟨q,k,none⟩=false:=aH3 wr q k _ _ hqk;clear hB hqk;go_wp2_with (go_at_call 208;refine(Pt HBW.o k hlt).mono ?_;rintro e w' ⟨rfl,rfl⟩);go_roundw;case rel=>
    refine⟨k+1,E,by go_num,?_,lW hb hs (by have :=HQ.o;omega) _⟩;rw[al2 HQK.o];congr 3;refine iF (fun i hi=>?_);by_cases e:i=k
    ·subst e;simp
    ·rw[aH8 e];by_cases e2:i<k
     ·rw[aH9 e2,aH9 E]
     ·rw[aH8 e2,aH8 E]
   case measure=>simp[intOf];omega
  ·obtain rfl:k=l.length:=E;clear hB hqk;go_wp2_with fail;go_ret;refine⟨_,rfl,?_,hb⟩;have :=ag2 HQK.o (base:=w.heap.size) (by have :=HQ.o;omega) (by unfold maxLen;omega);rw[show l.map Value.bool=aP (fun i=>if i<l.length then .bool (aR l i)else .bool false) l.length from ?_]
   ·exact this
   ·apply aq3;intro i;by_cases hi:i<l.length
    ·rw[dN hi,aH9 hi,ar6,ar3 hi];simp[aR,ar3 hi]
    ·rw[ar4 (by simp;omega),ar4 (by rw[cM];omega)]
def Pk(w:World)(p:Nat)(l:List Bool)(e:Ending)(w':World):Prop:=
 ∃q,e= .returned (.pointer (some ⟨q,0,none⟩))∧w.heap.size≤q∧IsBlock w' q (l.drop (l.length/2))∧IsBlock w' p (l.take (l.length/2))∧Chg (fun b=>b=p) w w'
theorem Vx{w:World}{p:Nat}{l:List Bool}(h:IsBlock w p l):Calls Tryz.prog 250 #[.pointer (some ⟨p,0,none⟩)] w (Pk w p l):=by
 have HB:=θ h;have hl:=h.1;clear h;go_enter Tryz.func250,Tryz.ntmps250;go_wp2_with fail;refine(rR HB.o).mono ?_;rintro e w1 ⟨v,rfl,hown,hb1⟩;obtain⟨a,c,rfl,hnil,hab⟩:=aM hown;have hrd:=eB hown;have hcap:l.length≤c:=by
  rcases hown.2 with ⟨hv,h0⟩ | ⟨g,cap,cur,hv,_,_,h1,_⟩
  ·have :=pW hown;rw[h0]at this;simp at this;omega
  ·injection hv with _ _ e3;subst e3;exact h1
 have hB1:=HB.o.below' hb1;obtain⟨c0,_⟩:=hB1.cells;have hs1:=fun(w:World)=>gA (P:=Tryz.prog) (w:=w) (t:=132) (a:=a) (len:=l.length) (cap:=c) (k:=l.length/2) aE7 Ek E;have hs2:=fun(w:World)=>lR (P:=Tryz.prog) (w:=w) (t:=132) (a:=a) (len:=l.length) (cap:=c) (k:=l.length/2) aE7 Ek E;have ed:((l.length/2:Nat):Int)=(l.length:Int)/2:=E;rw[ed]at hs1 hs2;have HD:Hid (ReadsV w1 (fB a (l.length/2) c) ((l.drop (l.length/2)).map Value.bool)):=by
  have :=hrd.drop (k:=l.length/2) (cap:=c) (by simpa using hcap);rw[←at9]at this;exact this
 have HTk:Hid (ReadsV w1 a ((l.take (l.length/2)).map Value.bool)):=by
  have :=hrd.take (l.length/2);rw[←av6]at this;exact this
 have HB1:=θ hB1;have HC:Hid (Chg (fun b=>b=p) w w1):=Chg.of_below hb1;have hpl:=hB1.lt;have hw1:=hb1.size;have hl1:(l.drop (l.length/2)).length=l.length-l.length/2:=Es;have hl2:(l.take (l.length/2)).length=l.length/2:=by rw[at5];omega
 have HL1:=θ hl1;have HL2:=θ hl2;have hap:∀ad,a=some ad→ad.block≠p:=by
  intro ad h e;obtain⟨g,rfl,hg,_⟩:=hab ad h;have hx:g=p:=e;have :=HB.o.lt;omega
 have HAP:=θ hap;clear hnil hab hrd hcap hB1 hb1 hown ed hl1 hl2 hap;have hml:l.length/2≤l.length:=Nat.div_le_self _ _;generalize hm:l.length/2=m at *;have HM:=θ hm;clear hm;go_wp2_with fail;have hnew:=pM w1 (fB a m c) (c-m) (l.drop m) HD.o (by rw[HL1.o];omega);rw[HL1.o]at hnew;refine hnew.mono ?_;rintro e w2 ⟨rfl,hq,hb2⟩;have hB2:=HB1.o.below' hb2;obtain⟨d0,_⟩:=hB2.cells;have hT2:=HTk.o.below' hb2;have HQ:=θ hq;have HB2:=θ hB2;have HT2:=θ hT2;have HC2:Hid (Chg (fun b=>b=p) w w2):=HC.o.trans (Chg.of_below (S:=fun b=>b=p) hb2) (fun b hb=>Ei hb);obtain⟨q,hqe⟩:∃q,w1.heap.size=q:=⟨_,rfl⟩;have HQE:=θ hqe;clear hnew hq hB2 hT2 hb2 hs2 hqe;go_wp2_with fail;have hset:=Dt HB2.o a c (l.take m) HT2.o (by rw[HL2.o];omega);rw[HL2.o]at hset;refine hset.mono ?_;rintro e w3 ⟨rfl,hk3,hc3⟩;have HK3:=θ hk3;have HC3:=θ hc3;clear hset hk3 hc3 hs1;go_wp2_with fail;go_ret;rw[HQE.o];refine⟨q,rfl,by have :=HQE.o;omega,?_,?_,HC2.o.trans HC3.o (fun b hb=>Ei hb)⟩
 ·rw[HM.o];exact(by rw[HQE.o]at HQ;exact HQ.o:IsBlock w2 q (l.drop m)).chg HC3.o (fun e=>by have :=HQE.o;omega)
 ·rw[HM.o];exact HK3.o
theorem Tryz.infoBlk:∃j,Tryz.prog.info? 242=some j∧j.size≠0:=by
 have h:(Tryz.prog.info? 242).map (fun i=>decide (i.size≠0))=some true:=Ek;obtain⟨j,hj,hd⟩:=aD1.1 h;exact⟨j,hj,by simpa using hd⟩
set_option maxRecDepth 10000 in
theorem Ds{w:World}{p q:Nat}{l m:List Bool}(h:IsBlock w p l)(h2:IsBlock w q m)(hpq:p≠q)(hl:128<l.length+m.length):
  Calls Tryz.prog 265 #[.pointer (some ⟨p,0,none⟩), .pointer (some ⟨q,0,none⟩)] w fun e w'=>e= .returned (.int .i64 3)∧∃n,w'=w.drewN n:=by
 obtain⟨c0,_⟩:=h.cells;obtain⟨d0,_⟩:=h2.cells;have k1:=h.1;have k2:=h2.1;have hne:(⟨q,0,none⟩:Addr)≠⟨p,0,none⟩:=fun e=>hpq (aG8 Addr.block e).symm;obtain⟨j,hj,hjs⟩:=Tryz.infoBlk;have he:=run_eql_ptr_other (P:=Tryz.prog) w (tp:=219) (a:=⟨q,0,none⟩) (b:=⟨p,0,none⟩) Tryz.underlying219 hj hjs hne h2.2 h.2;clear h h2 hj hjs hne;go_enter Tryz.func265,Tryz.ntmps265;go_wp2_with fail;go_quiet (fail);go_wp2_with fail;go_ret;exact⟨rfl,_,rfl⟩
def De(w:World)(p q:Nat)(l m:List Bool)(e:Ending)(w':World):Prop:=
 e= .returned (.int .i64 0)∧IsBlock w' p (l++m)∧IsBlock w' q []∧Chg (fun b=>b=p∨b=q) w w'
set_option maxRecDepth 10000 in
theorem ad1{w:World}{p q:Nat}{l m:List Bool}(h:IsBlock w p l)(h2:IsBlock w q m)(hpq:p≠q)(hl:l.length+m.length≤128):
  Calls Tryz.prog 265 #[.pointer (some ⟨p,0,none⟩), .pointer (some ⟨q,0,none⟩)] w (De w p q l m):=by
 obtain⟨c0,_⟩:=h.cells;obtain⟨d0,_⟩:=h2.cells;have k1:=h.1;have k2:=h2.1;have hne:(⟨q,0,none⟩:Addr)≠⟨p,0,none⟩:=fun e=>hpq (aG8 Addr.block e).symm;obtain⟨j,hj,hjs⟩:=Tryz.infoBlk;have he:=run_eql_ptr_other (P:=Tryz.prog) w (tp:=219) (a:=⟨q,0,none⟩) (b:=⟨p,0,none⟩) Tryz.underlying219 hj hjs hne h2.2 h.2;have HP:Hid (∀n,IsBlock (w.drewN n) p l):=fun n=>h;have HQ:Hid (∀n,IsBlock (w.drewN n) q m):=fun n=>h2;have HPQ:=θ hpq;have HPL:=θ h.lt;have HQL:=θ h2.lt;have hd:decide ((128:Int)<(l.length:Int)+(m.length:Int))=false:=by simp;omega
 clear h h2 hj hjs hpq;go_enter Tryz.func265,Tryz.ntmps265;go_wp2_with fail;go_quiet (fail);have HC0:Hid (Chg (fun b=>b=p∨b=q) w (w.drewN nq)):=Chg.refl.drewN nq;have HS0:Hid ((w.drewN nq).heap.size=w.heap.size):=rfl;have HP:=θ (HP.o nq);have HQ:=θ (HQ.o nq);generalize w.drewN nq=w1 at *;clear c0 d0 he hd;go_wp2_with fail;refine(rR HP.o).mono ?_;rintro e w2 ⟨v,rfl,hown,hb1⟩;have HP2:=θ (HP.o.below' hb1);have HQ2:=θ (HQ.o.below' hb1);have hs2:=hb1.size;have HC2:Hid (Chg (fun b=>b=p∨b=q) w w2):=HC0.o.trans (Chg.of_below (S:=fun b=>b=p∨b=q) hb1) (fun b hb=>Ei hb);have HO2:=θ hown;clear hown hb1;go_wp2_with fail;refine(rR HQ2.o).mono ?_;rintro e w3 ⟨v3,rfl,hown3,hb3⟩;have hown:=sB HO2.o hb3 (fun k hk=>(bX HO2.o hk).2);have hown:=mV hown (show w1.heap.size≤w1.heap.size from aA5 _);obtain⟨a3,c3,rfl,hnil3,_⟩:=aM hown3;have hrd3:=eB hown3;have hs3:=hb3.size;have HO3:=θ hown;have HR3:=θ hrd3;have HN3:=θ hnil3;have HP3:=θ (HP2.o.below' hb3);have HQ3:=θ (HQ2.o.below' hb3);have HC3:Hid (Chg (fun b=>b=p∨b=q) w w3):=HC2.o.trans (Chg.of_below (S:=fun b=>b=p∨b=q) hb3) (fun b hb=>Ei hb);have HPL1:Hid (p<w1.heap.size∧q<w1.heap.size):=⟨HP.o.lt,HQ.o.lt⟩;clear hown3 hown hb3 hrd3 hnil3;go_wp2_with (at_builtin;refine fM rfl _ _ 132 rfl w1.heap.size 4 Tryz.infoBoolR Tryz.underlying132 rfl _ l.length _ rfl HO3.o a3 m.length c3 (m.map Value.bool) rfl Es HN3.o HR3.o.hnews (oneB _) (by unfold maxLen;omega) E E ?_);intro a4 c4 w4 hown4 hgrow _;have hb4:Below w1.heap.size w3 w4:=(am4 _ _).grown hgrow E (fun k hk=>(bX HO3.o hk).1);have HP4:=θ (HP3.o.below hb4 HPL1.o.1);have HQ4:=θ (HQ3.o.below hb4 HPL1.o.2);have HC4:Hid (Chg (fun b=>b=p∨b=q) w w4):=by
  have :=Below.trans (B:=w1.heap.size) (hb4) (am4 _ _);refine⟨hb4.os.trans HC3.o.os,hb4.tape.trans HC3.o.tape,hb4.output.trans HC3.o.output,aA6 HC3.o.size hb4.size,fun k hk hn=>?_⟩;rw[hb4.block k (by have :=HS0.o;omega)];exact HC3.o.block k hk hn
 have hrd4:=eB hown4;rw[←at6]at hrd4;have HR4:=θ hrd4;have hset:=Dt HP4.o a4 c4 (l++m) HR4.o (by rw[as6];exact hl);rw[as6]at hset;have HSET:=θ hset;clear hown4 hgrow hb4 hrd4 hset;go_wp2_with fail;refine HSET.o.mono ?_;rintro e w5 ⟨rfl,hk5,hc5⟩;have HK5:=θ hk5;have HQ5:Hid (IsBlock w5 q m):=HQ4.o.chg hc5 (fun e=>HPQ.o e.symm);have HC5:Hid (Chg (fun b=>b=p∨b=q) w w5):=HC4.o.trans hc5 (fun b hb=>Ei (Ei hb));clear hk5 hc5 HSET;have hset2:=Dt HQ5.o none 0 [] ReadsV.nil Es;have HSET2:=θ hset2;clear hset2;go_wp2_with fail;refine HSET2.o.mono ?_;rintro e w6 ⟨rfl,hk6,hc6⟩;have HK6:=θ hk6;have HC6:=θ hc6;clear hk6 hc6;go_wp2_with fail;go_ret;exact⟨rfl,HK5.o.chg HC6.o HPQ.o,HK6.o,HC5.o.trans HC6.o (fun b hb=>Ei (Ej hb))⟩
end
structure Ar where
 T:List Bool
 F:List Nat
 M:Nat
structure Ar.Ok (a:Ar):Prop where
 max:a.M≤268435456
 le:a.T.length≤a.M
 cnt:a.T.count false=a.F.length
 nd:a.F.Nodup
 iff:∀j,a.T[j]? =some false↔j∈a.F
def kE(T:List Bool)(k:Int):Bool:=decide (0≤k)&&(T[k.toNat]?.getD false)
theorem mO{T:List Bool}{k:Int}:kE T k=true↔0≤k∧T[k.toNat]? =some true:=by
 unfold kE;cases h:T[k.toNat]? with
 | none=>simp
 | some b=>cases b<;>simp
def Ar.live (a:Ar):Nat:=a.T.length-a.F.length
theorem Ar.Ok.fle {a:Ar}(h:a.Ok):a.F.length≤a.T.length:=by rw[←h.cnt];exact List.count_le_length
def Ar.new (m:Nat):Ar:=⟨[],[],m⟩
theorem Ar.new_ok {m:Nat}(h:m≤268435456):(Ar.new m).Ok:=⟨h,by simp[Ar.new],by simp[Ar.new],by simp[Ar.new],by simp[Ar.new]⟩
def Ar.pop (a:Ar)(k:Nat):Ar:=⟨a.T.set k true,a.F.dropLast,a.M⟩
def Ar.more (a:Ar):Ar:=⟨a.T++[true],a.F,a.M⟩
theorem Ar.more_ok {a:Ar}(h:a.Ok)(hl:a.T.length<a.M):a.more.Ok:=by
 refine⟨h.max,by simp[Ar.more];omega,by simp[Ar.more,h.cnt],h.nd,fun j=>?_⟩;show (a.T++[true])[j]? =some false↔j∈a.F;rw[←h.iff j,aq8];split
 ·exact Iff.rfl
 ·rename_i hj;rw[ar4 (l:=a.T) E];rcases aB0 (j-a.T.length) 1 with h1 | h1
  ·have :j-a.T.length=0:=E;rw[this];simp
  ·rw[List.getElem?_eq_none (by simpa using h1)]
theorem Ar.pop_ok {a:Ar}(h:a.Ok){k:Nat}(hk:a.F.getLast?=some k):(a.pop k).Ok:=by
 have hne:a.F≠[]:=by intro e;rw[e]at hk;cases hk
 have hF:a.F=a.F.dropLast++[k]:=by
  rw[List.getLast?_eq_some_getLast hne]at hk;injection hk with hk
  rw[←hk,List.dropLast_concat_getLast]
 have hmem:k∈a.F:=by rw[hF];simp
 have hf:=(h.iff k).2 hmem;have hlt:k<a.T.length:=(ar5.1 hf).1;have hfk:a.T[k]=false:=(ar5.1 hf).2;have hnd:=h.nd;rw[hF,ax6]at hnd;refine⟨h.max,by simp[Ar.pop];exact h.le,?_,hnd.1,fun j=>?_⟩
 ·show (a.T.set k true).count false=a.F.dropLast.length;rw[List.count_set hlt,hfk,h.cnt,List.length_dropLast];simp
 ·show (a.T.set k true)[j]? =some false↔j∈a.F.dropLast;rw[ar8];have hj:=h.iff j;rw[hF,av8]at hj;by_cases e:k=j
  ·subst e;rw[aH9 rfl,aH9 hlt];have :k∉a.F.dropLast:=fun hm=>hnd.2.2 k hm k Es rfl;simp[this]
  ·rw[aH8 e,hj];have :j∉[k]:=by simp;exact fun h=>e h.symm
   simp[this]
theorem Ar.Ok.last_lt {a:Ar}(h:a.Ok){k:Nat}(hk:a.F.getLast?=some k):k<a.T.length:=by
 have hm:k∈a.F:=List.mem_of_getLast? hk;exact(ar5.1 ((h.iff k).2 hm)).1
def clr(T:List Bool):List Int→Option (List Bool)
 | []=>some T
 | k::l=>if kE T k=true then clr (T.set k.toNat false) l else none
theorem Wa(T:List Bool)(l:List Int)(k:Int):clr T (l++[k])=(clr T l).bind fun T'=>if kE T' k=true then some (T'.set k.toNat false)else none:=by
 induction l generalizing T with
 | nil=>simp[clr]
 | cons x l ih=>
  simp only[ap1,clr];split
  ·exact ih _
  ·rfl
theorem xY{T T':List Bool}{l:List Int}(h:clr T l=some T'):T'.length=T.length:=by
 induction l generalizing T with
 | nil=>simp[clr]at h;rw[h]
 | cons x l ih=>
  simp only[clr]at h;split at h
  ·rw[ih h];simp
  ·cases h
theorem Vz{T T':List Bool}{l:List Int}(h:clr T l=some T'):l.foldl (fun T k=>T.set k.toNat true) T'=T:=by
 apply aq3;intro j;have key:∀(l:List Int) (T T':List Bool),clr T l=some T'→∀j:Nat,(l.foldl (fun T k=>T.set k.toNat true) T')[j]? =T[j]? :=by
  intro l;induction l with
  | nil=>intro T T' h j;simp[clr]at h;rw[h];rfl
  | cons x l ih=>
   intro T T' h j;simp only[clr]at h;split at h
   ·rename_i hx;obtain⟨hx0,hx1⟩:=mO.1 hx;obtain⟨hlt,hv⟩:=ar5.1 hx1;have comm:∀(l:List Int) (U:List Bool) (n:Nat),l.foldl (fun T k=>T.set k.toNat true) (U.set n true)=(l.foldl (fun T k=>T.set k.toNat true) U).set n true:=by
     intro l;induction l with
     | nil=>intro U n;rfl
     | cons y l ih2=>
      intro U n;simp only[List.foldl_cons];by_cases e:n=y.toNat
      ·subst e;rw[ih2]
      ·rw[List.set_comm _ _ e,ih2]
    simp only[List.foldl_cons];rw[comm,ar8,ih _ _ h j];have hlen:(l.foldl (fun T k=>T.set k.toNat true) T').length=T.length:=by
     have :∀(l:List Int) (U:List Bool),(l.foldl (fun T k=>T.set k.toNat true) U).length=U.length:=by
      intro l;induction l with
      | nil=>intro U;rfl
      | cons y l ih3=>intro U;simp only[List.foldl_cons];rw[ih3];simp
     rw[this,xY h];simp
    split
    ·rename_i e;subst e;rw[aH9 E,hx1]
    ·rename_i e;rw[ar8,aH8 e]
   ·cases h
 exact key l T T' h j
theorem zP{T T':List Bool}{l:List Int}(h:clr T l=some T'):(l.map Int.toNat).Nodup∧(∀k∈l,0≤k∧T[k.toNat]? =some true)∧T'.count false=T.count false+l.length∧
  ∀j,T'[j]? =some false↔(T[j]? =some false∨j∈l.map Int.toNat):=by
 induction l generalizing T with
 | nil=>simp[clr]at h;subst h;simp
 | cons x l ih=>
  simp only[clr]at h;split at h
  ·rename_i hx;obtain⟨hx0,hx1⟩:=mO.1 hx;obtain⟨hlt,hv⟩:=ar5.1 hx1;obtain⟨h1,h2,h3,h4⟩:=ih h;have hnx:x.toNat∉l.map Int.toNat:=by
    intro hm;obtain⟨y,hy,he⟩:=ax1.1 hm;have :=(h2 y hy).2;rw[he,ar8,aH9 rfl,aH9 hlt]at this;cases this
   refine⟨ax7.2 ⟨hnx,h1⟩,fun k hk=>?_,?_,fun j=>?_⟩
   ·rcases av9.1 hk with rfl | hk
    ·exact⟨hx0,hx1⟩
    ·obtain⟨hk0,hk1⟩:=h2 k hk;refine⟨hk0,?_⟩;rw[ar8]at hk1;split at hk1
     ·cases hk1
     ·exact hk1
   ·rw[h3,List.count_set hlt,hv];simp;omega
   ·rw[h4 j,ar8,at8,av9];by_cases e:x.toNat=j
    ·subst e;rw[aH9 rfl,aH9 hlt];simp
    ·rw[aH8 e];have :¬j=x.toNat:=fun h=>e h.symm;simp[this]
  ·cases h
def Ar.push (a:Ar)(T':List Bool)(l:List Int):Ar:=⟨T',a.F++l.map Int.toNat,a.M⟩
theorem Ar.push_ok {a:Ar}(h:a.Ok){T':List Bool}{l:List Int}(hc:clr a.T l=some T'):(a.push T' l).Ok:=by
 obtain⟨h1,h2,h3,h4⟩:=zP hc;refine⟨h.max,by show T'.length≤a.M;rw[xY hc];exact h.le,by show T'.count false=(a.F++l.map Int.toNat).length;rw[h3,h.cnt];simp,?_,fun j=>?_⟩
 ·refine ax6.2 ⟨h.nd,h1,fun x hx y hy e=>?_⟩;subst e;obtain⟨z,hz,rfl⟩:=ax1.1 hy;have :=(h2 z hz).2;rw[(h.iff _).2 hx]at this;cases this
 ·show T'[j]? =some false↔j∈a.F++l.map Int.toNat;rw[h4 j,h.iff j,av8]
def Ar.free (a:Ar)(l:List Int):Int×Ar:=match clr a.T l with
 | some T'=>(0,a.push T' l)
 | none=>(7,a)
theorem Ar.free_ok {a:Ar}(h:a.Ok)(l:List Int):(a.free l).2.Ok:=by
 unfold Ar.free;split
 ·rename_i T' hc;exact Ar.push_ok h hc
 ·exact h
section
open Go.RowKit
def lP(k:Nat):Value:= .int .i64 k
structure IsArena (w:World) (p:Nat) (S:Nat→Prop) (a:Ar):Prop where
 ok:a.Ok
 ex:∃tv fv,w.heap[p]? =some (.cells #[tv,fv, .int .i64 a.M] 186 (0,0))∧w.ownsRow 0 4 1 tv a.T.length (a.T.map Value.bool)∧
  w.ownsRow 0 3 1 fv a.F.length (a.F.map lP)∧tv.ownBlock≠some p∧fv.ownBlock≠some p∧(∀g,tv.ownBlock=some g→fv.ownBlock≠some g)∧
  (∀k,S k↔k=p∨tv.ownBlock=some k∨fv.ownBlock=some k)
theorem IsArena.lt {w:World}{p:Nat}{S:Nat→Prop}{a:Ar}(h:IsArena w p S a):∀k,S k→k<w.heap.size:=by
 obtain⟨tv,fv,hp,ht,hf,_,_,_,hS⟩:=h.ex;intro k hk;rcases(hS k).1 hk with rfl | h | h
 ·exact(am0.1 hp).1
 ·exact(bX ht h).2
 ·exact(bX hf h).2
theorem IsArena.self {w:World}{p:Nat}{S:Nat→Prop}{a:Ar}(h:IsArena w p S a):S p:=by
 obtain⟨tv,fv,hp,ht,hf,_,_,_,hS⟩:=h.ex;exact(hS p).2 (Ei rfl)
theorem IsArena.chg {w w':World}{p:Nat}{S S':Nat→Prop}{a:Ar}(h:IsArena w p S a)(hc:Chg S' w w')(hd:∀k,S k→¬S' k):IsArena w' p S a:=by
 obtain⟨hok,tv,fv,hp,ht,hf,n1,n2,n3,hS⟩:=h;exact⟨hok,tv,fv,hc.heap hp (hd p ((hS p).2 (Ei rfl))),hc.own ht (fun k hk=>hd k ((hS k).2 (Ej (Ei hk)))),hc.own hf (fun k hk=>hd k ((hS k).2 (Ej (Ej hk)))),n1,n2,n3,hS⟩
theorem IsArena.see {w:World}{p:Nat}{S:Nat→Prop}{a:Ar}(h:IsArena w p S a):
  ∃ta tc fa fc,w.cell? ⟨p,0,none⟩=some (.slice ta a.T.length tc)∧w.cell? ⟨p,1,none⟩=some (.slice fa a.F.length fc)∧w.cell? ⟨p,2,none⟩=some (.int .i64 a.M)∧
   (∀j,w.frozen? ⟨p,j,none⟩=false)∧w.heap[p]? =some (.cells #[.slice ta a.T.length tc, .slice fa a.F.length fc, .int .i64 a.M] 186 (0,0))∧
   w.ownsRow 0 4 1 (.slice ta a.T.length tc) a.T.length (a.T.map Value.bool)∧w.ownsRow 0 3 1 (.slice fa a.F.length fc) a.F.length (a.F.map lP)∧
   (∀g,ta=some ⟨g,0,none⟩→g≠p∧g<w.heap.size∧fa≠some ⟨g,0,none⟩)∧(∀g,fa=some ⟨g,0,none⟩→g≠p∧g<w.heap.size)∧
   (∀ad,ta=some ad→∃g,ad=⟨g,0,none⟩)∧(∀ad,fa=some ad→∃g,ad=⟨g,0,none⟩)∧
   (∀k,S k↔k=p∨ta=some ⟨k,0,none⟩∨fa=some ⟨k,0,none⟩)∧p<w.heap.size:=by
 obtain⟨hok,tv,fv,hp,ht,hf,n1,n2,n3,hS⟩:=h;obtain⟨ta,tc,rfl,hta,htb⟩:=aM ht;obtain⟨fa,fc,rfl,hfa,hfb⟩:=aM hf;have ob:∀(x:Option Addr) (n c:Nat) (k:Nat),(∀ad,x=some ad→∃g,ad=⟨g,0,none⟩∧0≤g∧g<w.heap.size∧(Value.slice x n c).ownBlock=some g)→((Value.slice x n c).ownBlock=some k↔x=some ⟨k,0,none⟩):=by
  intro x n c k h;cases x with
  | none=>simp[Value.ownBlock]
  | some ad=>
   obtain⟨g,rfl,_⟩:=h ad rfl;simp[Value.ownBlock]
 refine⟨ta,tc,fa,fc,by rw[aG7 w p 0 _ _ _ hp];rfl,by rw[aG7 w p 1 _ _ _ hp];rfl,by rw[aG7 w p 2 _ _ _ hp];rfl,fun j=>aH3 w p j _ _ hp,hp,ht,hf,?_,?_,?_,?_,?_,(am0.1 hp).1⟩
 ·intro g hg;obtain⟨g',e,_,hlt,ho⟩:=htb _ hg;cases e;exact⟨fun e=>n1 (e▸ho),hlt,fun e=>n3 g ho ((ob fa _ fc g hfb).2 e)⟩
 ·intro g hg;obtain⟨g',e,_,hlt,ho⟩:=hfb _ hg;cases e;exact⟨fun e=>n2 (e▸ho),hlt⟩
 ·intro ad h;obtain⟨g,e,_⟩:=htb ad h;exact⟨g,e⟩
 ·intro ad h;obtain⟨g,e,_⟩:=hfb ad h;exact⟨g,e⟩
 ·intro k;rw[hS k,ob ta _ tc k htb,ob fa _ fc k hfb]
theorem qK(m:Nat)(w:World)(h:m≤268435456):
  Calls Tryz.prog 90 #[.int .i64 m] w fun e w'=>e= .returned (.pointer (some ⟨w.heap.size,0,none⟩))∧IsArena w' w.heap.size (fun k=>k=w.heap.size) (Ar.new m)∧Chg (fun _=>False) w w':=by
 have hd:decide ((m:Int)<0)=false:=Es;have hd2:decide ((268435456:Int)<(m:Int))=false:=by simp;omega
 go_enter Tryz.func90,Tryz.ntmps90;go_wp2;go_ret;refine⟨rfl,⟨Ar.new_ok h, .slice none 0 0, .slice none 0 0,aH5 w _,aG2 _ _ _ _,aG2 _ _ _ _,by simp[Value.ownBlock],by simp[Value.ownBlock],fun g hg=>by simp[Value.ownBlock]at hg,fun k=>by simp[Value.ownBlock]⟩,Chg.refl.alloc _⟩
theorem qJ{w:World}{p:Nat}{S:Nat→Prop}{a:Ar}(h:IsArena w p S a):
  Calls Tryz.prog 153 #[.pointer (some ⟨p,0,none⟩)] w fun e w'=>e= .returned (.int .i64 a.live)∧∃n,w'=w.drewN n:=by
 obtain⟨ta,tc,fa,fc,h0,h1,h2,hfz,hp,ht,hf,n1,n2,n3,n4,hS,hpl⟩:=h.see;have hle:=h.ok.fle;have hl:(a.T.length:Int)-(a.F.length:Int)=(a.live:Int):=by unfold Ar.live;omega
 have hmx:=h.ok.max;have hm2:=h.ok.le;clear hp ht hf n1 n2 n3 n4 hS hfz;have HL:=θ hl;clear hl;go_enter Tryz.func153,Tryz.ntmps153;go_wp2_with fail;go_quiet (fail);go_wp2;go_ret;exact⟨aT HL.o,_,rfl⟩
theorem Tryz.infoBool:(Tryz.prog.info? 4).map (fun i=>(i.zero,i.size,i.bytes))=some (some (.bool false),1,1):=Ek
theorem Tryz.infoInt':(Tryz.prog.info? 3).map (fun i=>(i.zero,i.size,i.bytes))=some (some (.int .i64 0),1,8):=Ek
def ArStep(w w':World)(p:Nat)(S:Nat→Prop)(a':Ar):Prop:=∃S',IsArena w' p S' a'∧Chg S w w'∧∀k,S' k→S k∨w.heap.size≤k
theorem bT{w:World}{p:Nat}{cs:Array Value}{t:TypeId}(h:w.heap[p]? =some (.cells cs t (0,0)))(j:Nat)(v:Value):(w.setCell ⟨p,j,none⟩ v).heap[p]? =some (.cells (cs.setIfInBounds j v) t (0,0)):=
 aH6 w p j cs t v h
theorem fF{w:World}{b p j:Nat}{v:Value}{o:Obj}(h:w.heap[b]? =some o)(hne:b≠p):(w.setCell ⟨p,j,none⟩ v).heap[b]? =some o:=by
 rw[heap_setCell_other w ⟨p,j,none⟩ b v hne];exact h
theorem cU{w:World}{base:Nat}{e:TypeId}{sz n:Nat}{a:Option Addr}{c:Nat}{xs:List Value}(h:w.ownsRow base e sz (.slice a n c) n xs){p j:Nat}(v:Value)(hne:∀g,a=some ⟨g,0,none⟩→g≠p)(ha:∀ad,a=some ad→∃g,ad=⟨g,0,none⟩):
  (w.setCell ⟨p,j,none⟩ v).ownsRow base e sz (.slice a n c) n xs:=ownsRow_setCell_other h (by
 cases a with
 | none=>simp[Value.ownBlock]
 | some ad=>
  obtain⟨g,rfl⟩:=ha ad rfl
  simpa[Value.ownBlock]using hne g rfl) v
theorem IsArena.of {w:World}{p:Nat}{a:Ar}{ta fa:Option Addr}{tc fc:Nat}(ok:a.Ok)(hp:w.heap[p]? =some (.cells #[.slice ta a.T.length tc, .slice fa a.F.length fc, .int .i64 a.M] 186 (0,0)))
  (ht:w.ownsRow 0 4 1 (.slice ta a.T.length tc) a.T.length (a.T.map Value.bool)) (hf:w.ownsRow 0 3 1 (.slice fa a.F.length fc) a.F.length (a.F.map lP))
  (n1:∀g,ta=some ⟨g,0,none⟩→g≠p∧fa≠some ⟨g,0,none⟩) (n2:∀g,fa=some ⟨g,0,none⟩→g≠p):
  IsArena w p (fun k=>k=p∨ta=some ⟨k,0,none⟩∨fa=some ⟨k,0,none⟩) a:=by
 have ob:∀(x:Option Addr) (n c:Nat) (k:Nat),(∀ad,x=some ad→∃g,ad=(⟨g,0,none⟩:Addr))→((Value.slice x n c).ownBlock=some k↔x=some ⟨k,0,none⟩):=by
  intro x n c k h;cases x with
  | none=>simp[Value.ownBlock]
  | some ad=>
   obtain⟨g,rfl⟩:=h ad rfl;simp[Value.ownBlock]
 have ha:∀ad,ta=some ad→∃g,ad=(⟨g,0,none⟩:Addr):=by
  obtain⟨x,c,hv,_,hb⟩:=aM ht;injection hv with e1 e2 e3
  intro ad h;obtain⟨g,e,_⟩:=hb ad (e1▸h);exact⟨g,e⟩
 have hb:∀ad,fa=some ad→∃g,ad=(⟨g,0,none⟩:Addr):=by
  obtain⟨x,c,hv,_,hb⟩:=aM hf;injection hv with e1 e2 e3
  intro ad h;obtain⟨g,e,_⟩:=hb ad (e1▸h);exact⟨g,e⟩
 refine⟨ok,_,_,hp,ht,hf,fun e=>(n1 p ((ob ta _ tc p ha).1 e)).1 rfl,fun e=>(n2 p ((ob fa _ fc p hb).1 e)) rfl,fun g hg e=>(n1 g ((ob ta _ tc g ha).1 hg)).2 ((ob fa _ fc g hb).1 e),fun k=>?_⟩;rw[ob ta _ tc k ha,ob fa _ fc k hb]
theorem xP{w:World}{p:Nat}{S:Nat→Prop}{a:Ar}(h:IsArena w p S a)(hl:a.live≠a.M){k:Nat}(hk:a.F.getLast?=some k):
  Calls Tryz.prog 98 #[.pointer (some ⟨p,0,none⟩)] w fun e w'=>e= .returned (.tuple #[.int .i64 k, .int .i64 0])∧ArStep w w' p S (a.pop k):=by
 obtain⟨ta,tc,fa,fc,h0,h1,h2,hfz,hp,ht,hf,n1,n2,n3,n4,hS,hpl⟩:=h.see;have hkl:=h.ok.last_lt hk;have hmx:=h.ok.max;have hm2:=h.ok.le;have hfl:=h.ok.fle;have hne:a.F≠[]:=by intro e;rw[e]at hk;cases hk
 have hFn:0<a.F.length:=List.length_pos_iff.2 hne;obtain⟨fb,fcap,hv,_,hfb,hfcap,_,hfcell,_⟩:=cL hf hFn;injection hv with e1 _ e3
 subst e1;subst e3;obtain⟨tb,tcap,hv,_,htb,htcap,_,htcell,htfz⟩:=cL ht E;injection hv with e1 _ e3
 subst e1;subst e3;obtain⟨ntp,_,ntf⟩:=n1 tb rfl;obtain⟨nfp,_⟩:=n2 fb rfl;have hcF:=hfcell (a.F.length-1) E;rw[ar6,←List.getLast?_eq_getElem?,hk]at hcF;have hcT:=htcell k hkl;rw[ar6,ar3 hkl]at hcT;simp only[aD3,lP]at hcT hcF;have hz0:=htfz k;have hlb:((a.live:Int)==(a.M:Int))=false:=by simp;omega
 have hq:∀n,IsArena (w.drewN n) p S a:=fun n=>h.chg (Chg.refl.drewN n) (S':=fun _=>False) (fun k hk hf=>hf);have HQ:=θ hq;clear hq;have hpop:=Ar.pop_ok h.ok hk;generalize hb0:a.T[k]=b0 at *;have hd0:decide ((0:Int)<(a.F.length:Int))=true:=by simp;omega
 have hz1:=hfz 1;have HF:=θ hfz;have HP:=θ hp;have HT:=θ ht;have HFr:=θ hf;have HS:=θ hS;clear hfz hp ht hf hS htcell hfcell htfz n1 n2 n3 n4 hl hb0;obtain⟨n,hn⟩:∃n,a.F.length=n+1:=⟨a.F.length-1,E⟩;have HN:=θ hn;rw[hn]at h1 hfcap hd0 hcF hFn hfl;rw[show n+1-1=n from E]at hcF;clear hn;go_enter Tryz.func98,Tryz.ntmps98;go_wp2_with fail;go_quiet ((go_at_call 153;exact Calls.quiet_of (qJ (HQ.o _))));go_wp2;go_ret2;have e1:(a.pop k).T.length=a.T.length:=by simp[Ar.pop]
 have e2:(a.pop k).F.length=n:=by have :=HN.o;simp[Ar.pop];omega
 have hne2:fb≠tb:=fun e=>ntf (by rw[e]);refine⟨rfl,_,IsArena.of (ta:=some ⟨tb,0,none⟩) (tc:=tc) (fa:=some ⟨fb,0,none⟩) (fc:=fc) hpop ?_ ?_ ?_ ?_ ?_,?_,?_⟩
 ·rw[e1,e2];have :=fF (bT (w:=w.drewN nq) HP.o 1 (.slice (some ⟨fb,0,none⟩) n fc)) (p:=tb) (j:=k) (v:= .bool true) (fun e=>ntp e.symm);exact this
 ·rw[e1];have :=tF (cU (w:=w.drewN nq) HT.o (p:=p) (j:=1) (.slice (some ⟨fb,0,none⟩) n fc) (fun g hg=>by cases hg;exact ntp) (fun ad hg=>by cases hg;exact⟨_,rfl⟩)) k (.bool true);rw[←List.map_set]at this;exact this
 ·rw[e2];have h3:=HFr.o;rw[HN.o]at h3;have h4:=Yk h3 (m:=n) E;have e3:(a.F.map lP).take n=(a.pop k).F.map lP:=by
   rw[←av6];congr 1;show _=a.F.dropLast;rw[List.dropLast_eq_take,HN.o];rfl
  rw[e3]at h4;exact cU (cU (w:=w.drewN nq) h4 _ (fun g hg=>by cases hg;exact nfp) (fun ad hg=>by cases hg;exact⟨_,rfl⟩)) _ (fun g hg=>by cases hg;exact hne2) (fun ad hg=>by cases hg;exact⟨_,rfl⟩)
 ·intro g hg;cases hg;exact⟨ntp,ntf⟩
 ·intro g hg;cases hg;exact nfp
 ·exact((Chg.refl.drewN nq).setCell _ (Ei ((HS.o p).2 (Ei rfl))) _).setCell _ (Ei ((HS.o tb).2 (Ej (Ei rfl)))) _
 ·exact fun x hx=>Ei ((HS.o x).2 hx)
theorem tP{w:World}{p:Nat}{S:Nat→Prop}{a:Ar}(h:IsArena w p S a)(hl:a.live≠a.M)(hk:a.F=[]):
  Calls Tryz.prog 98 #[.pointer (some ⟨p,0,none⟩)] w fun e w'=>e= .returned (.tuple #[.int .i64 a.T.length, .int .i64 0])∧ArStep w w' p S a.more:=by
 obtain⟨ta,tc,fa,fc,h0,h1,h2,hfz,hp,ht,hf,n1,n2,n3,n4,hS,hpl⟩:=h.see;have hmx:=h.ok.max;have hm2:=h.ok.le;have hlt:a.T.length<a.M:=by
  simp only[Ar.live,hk,at2]at hl;omega
 have hlb:((a.live:Int)==(a.M:Int))=false:=by simp;omega
 have hq:∀n,IsArena (w.drewN n) p S a:=fun n=>h.chg (Chg.refl.drewN n) (S':=fun _=>False) (fun k hk hf=>hf);have HQ:=θ hq;clear hq;have hmore:=Ar.more_ok h.ok hlt;have hz0:=hfz 0;have hF0:a.F.length=0:=by rw[hk];rfl
 have HP:=θ hp;have HFr:=θ hf;have HS:=θ hS;have HF0:=θ hF0;have HK:=θ hk;have ob:∀x n c,(Value.slice ta n c).ownBlock=some x→ta=some ⟨x,0,none⟩:=by
  intro x n c hx;cases ta with
  | none=>simp[Value.ownBlock]at hx
  | some ad=>obtain⟨g,rfl⟩:=n3 ad rfl;simp[Value.ownBlock]at hx;rw[hx]
 rw[hF0]at h1;have HN1:=θ n1;have HN2:=θ n2;have HN3:=θ n3;have HN4:=θ n4;have HOB:=θ ob;clear hfz hp hf hS n1 n2 n3 n4 hl hF0 hk ob;go_enter Tryz.func98,Tryz.ntmps98;go_wp2_with fail;go_quiet ((go_at_call 153;exact Calls.quiet_of (qJ (HQ.o _))));go_wp2_with (at_builtin;refine oI rfl _ _ 132 rfl 0 4 Tryz.infoBool aE7 rfl _ _ _ rfl ht rfl rfl ?c1 ?c2 ?c3 ?_);case c1=>unfold maxLen;omega
 case c2=>omega
 case c3=>omega
 intro g cap w1 hown hgrow hor hgl;have hpn:some p≠(Value.slice ta a.T.length tc).ownBlock:=fun e=>((HN1.o p (HOB.o p _ _ e.symm)).1 rfl);have hp1:w1.heap[p]? =some (.cells #[.slice ta a.T.length tc, .slice fa a.F.length fc, .int .i64 a.M] 186 (0,0)):=(hgrow.block p hpl hpn).trans HP.o;have hc1:w1.cell? ⟨p,0,none⟩=some (.slice ta a.T.length tc):=by rw[aG7 w1 p 0 _ _ _ hp1];rfl
 have hf1:w1.frozen? ⟨p,0,none⟩=false:=aH3 w1 p 0 _ _ hp1;have HP1:=θ hp1;have HO:=θ hown;have HG:=θ hgrow;have HOR:=θ hor;clear hp1 hown hgrow hor hpn ht h0 h1;go_wp2;go_ret2;have hgp:g≠p:=by
  rcases HOR.o with e | e
  ·exact fun e2=>(HN1.o g (HOB.o g _ _ e)).1 e2
  ·intro e2;subst e2;exact absurd hpl (by have :(w.drewN nq).heap.size=w.heap.size:=rfl;omega)
 have hgf:fa≠some ⟨g,0,none⟩:=by
  rcases HOR.o with e | e
  ·exact(HN1.o g (HOB.o g _ _ e)).2.2
  ·intro e2;have :=(HN2.o g e2).2;have h3:(w.drewN nq).heap.size=w.heap.size:=rfl;omega
 have e1:a.more.T.length=a.T.length+1:=by simp[Ar.more]
 have hfo:w1.ownsRow 0 3 1 (.slice fa a.F.length fc) a.F.length (a.F.map lP):=by
  refine HFr.o.kept (w:=w.drewN nq) HG.o ?_;cases fa with
  | none=>left;rfl
  | some ad=>
   obtain⟨g2,rfl⟩:=HN4.o ad rfl;right;intro e;have e3:ta=some ⟨g2,0,none⟩:=HOB.o g2 _ _ (by rw[←e];rfl);exact(HN1.o g2 e3).2.2 rfl
 refine⟨Es,_,IsArena.of (ta:=some ⟨g,0,none⟩) (tc:=cap) (fa:=fa) (fc:=fc) hmore ?_ ?_ ?_ ?_ ?_,?_,?_⟩
 ·rw[e1];exact bT HP1.o 0 (.slice (some ⟨g,0,none⟩) (a.T.length+1) cap)
 ·rw[e1];have h3:a.more.T.map Value.bool=a.T.map Value.bool++[.bool true]:=by simp[Ar.more]
  rw[h3];exact cU HO.o _ (fun g' hg'=>by cases hg';exact hgp) (fun ad hg'=>by cases hg';exact⟨_,rfl⟩)
 ·exact cU hfo _ (fun g' hg'=>(HN2.o g' hg').1) (fun ad hg'=>HN4.o ad hg')
 ·intro g' hg';cases hg';exact⟨hgp,hgf⟩
 ·intro g' hg';exact(HN2.o g' hg').1
 ·exact((Chg.refl.drewN nq).grown HG.o (fun x hx=>Ei ((HS.o x).2 (Ej (Ei (HOB.o x _ _ hx)))))).setCell _ (Ei ((HS.o p).2 (Ei rfl))) _
 ·intro x hx;rcases hx with rfl | hx | hx
  ·exact Ei ((HS.o _).2 (Ei rfl))
  ·cases hx;rcases HOR.o with e | e
   ·exact Ei ((HS.o _).2 (Ej (Ei (HOB.o _ _ _ e))))
   ·exact Ej e
  ·exact Ei ((HS.o _).2 (Ej (Ej hx)))
theorem Dj{w:World}{p n tc:Nat}{ta:Option Addr}{T:List Bool}(k:Int)(h0:w.cell? ⟨p,0,none⟩=some (.slice ta n tc))(ht:w.ownsRow 0 4 1 (.slice ta n tc) n (T.map Value.bool))(hn:T.length=n)(hmx:n≤268435456):
  Calls Tryz.prog 234 #[.pointer (some ⟨p,0,none⟩), .int .i64 k] w fun e w'=>e= .returned (.bool (kE T k))∧w=w':=by
 by_cases hk0:0≤k
 ·have d0:decide (0≤k)=true:=by simpa using hk0
  by_cases hk1:k<n
  ·have d1:decide (k<(n:Int))=true:=by simpa using hk1
   obtain⟨g,cap,hv,_,_,_,_,hcell,_⟩:=cL ht E;injection hv with e1 e2 e3
   subst e1;subst e3;have hc:=hcell k.toNat E;rw[ar6,ar3 E]at hc;simp only[aD3]at hc;have HR:Hid (T[k.toNat]=kE T k):=by
    show _=(decide (0≤k)&&_);rw[d0,ar3 E];simp
   generalize T[k.toNat]=b at *;have HN:=θ hn;clear hcell ht hn;go_enter Tryz.func234,Tryz.ntmps234;go_wp2;go_ret;exact⟨dV HR.o,rfl⟩
  ·have d1:decide (k<(n:Int))=false:=by simpa using hk1
   have HR:Hid (false=kE T k):=by
    show _=(decide (0≤k)&&_);rw[ar4 E];simp
   clear ht hn;go_enter Tryz.func234,Tryz.ntmps234;go_wp2;go_ret;exact⟨dV HR.o,rfl⟩
 ·have d0:decide (0≤k)=false:=by simpa using hk0
  have HR:Hid (false=kE T k):=by
   show _=(decide (0≤k)&&_);rw[d0];rfl
  clear ht hn;go_enter Tryz.func234,Tryz.ntmps234;go_wp2;go_ret;exact⟨dV HR.o,rfl⟩
theorem Cm{T Ti:List Bool}{l:List Int}{i:Nat}(hi:i<l.length)(h:clr T (l.take i)=some Ti):
  clr T (l.take (i+1))=if kE Ti (l[i]?.getD 0)=true then some (Ti.set (l[i]?.getD 0).toNat false)else none:=by
 rw[ay9,ar3 hi,aD5,Wa,h];rfl
theorem vO{T:List Bool}{l:List Int}{i:Nat}(h:clr T (l.take i)=none):clr T l=none:=by
 have key:∀(a b:List Int) (T:List Bool),clr T a=none→clr T (a++b)=none:=by
  intro a;induction a with
  | nil=>intro b T h;cases h
  | cons x a ih=>
   intro b T h;simp only[clr,ap1]at *;split
   ·rename_i hx;rw[aH9 hx]at h;exact ih b _ h
   ·rfl
 rw[←az0 i l];exact key _ _ _ h
theorem yF(T:List Bool)(l:List Int)(j:Nat)(hj:j<l.length):
  (l.take (j+1)).foldl (fun T k=>T.set k.toNat true) T=((l.take j).foldl (fun T k=>T.set k.toNat true) T).set (l[j]?.getD 0).toNat true:=by
 rw[ay9,ar3 hj,aD5,List.foldl_append];rfl
theorem Ql(l:List Int)(U:List Bool):(l.foldl (fun T k=>T.set k.toNat true) U).length=U.length:=by
 induction l generalizing U with
 | nil=>rfl
 | cons y l ih=>simp only[List.foldl_cons];rw[ih];simp
theorem Ft{S:Nat→Prop}{w w':World}{k:IntKind}{a:Option Addr}{xs:List Int}(h:Chg S w w')(hr:Reads w k a xs)(hn:0<xs.length→∀ad,a=some ad→¬S ad.block):Reads w' k a xs:=by
 rcases aA2 xs.length with h0 | h0
 ·intro i hi;omega
 ·exact h.reads hr (hn h0)
theorem Vm{w:World}{p:Nat}{S:Nat→Prop}{a:Ar}(h:IsArena w p S a)(l:List Int)(la:Option Addr)(lc:Nat)(hl:Reads w .i64 la l)(hnil:la=none→l.length=0∧lc=0)
  (hsep:0<l.length→∀ad,la=some ad→¬S ad.block) (hlen:l.length≤1000000000) (hlc:l.length≤lc):
  Calls Tryz.prog 213 #[.pointer (some ⟨p,0,none⟩), .slice la l.length lc] w fun e w'=>e= .returned (.int .i64 (a.free l).1)∧ArStep w w' p S (a.free l).2:=by
 obtain⟨ta,tc,fa,fc,h0,h1,h2,hfz,hp,ht,hf,n1,n2,n3,n4,hS,hpl⟩:=h.see;have hmx:=h.ok.max;have hm2:=h.ok.le;have hfl:=h.ok.fle;have HOK:=θ h.ok;have HP:=θ hp;have HFr:=θ hf;have HS:=θ hS;have HN1:=θ n1;have HN2:=θ n2;have HN3:=θ n3;have HN4:=θ n4;have HNIL:=θ hnil;have HSEP:=θ hsep;clear hp hf hS n1 n2 n3 n4 h0 h1 h2 hfz hnil hsep;generalize hnT:a.T.length=nT at *;have HNT:=θ hnT;clear hnT;generalize hnF:a.F.length=nF at *;have HNF:=θ hnF;clear hnF;go_enter Tryz.func213,Tryz.ntmps213;go_wp2_with fail;go_loopw [13] (fun i wr=>∃k:Nat,k≤l.length∧i= .int .i64 k∧∃Ti,clr a.T (l.take k)=some Ti∧wr.ownsRow 0 4 1 (.slice ta nT tc) nT (Ti.map Value.bool)∧
   wr.heap[p]? =some (.cells #[.slice ta nT tc, .slice fa nF fc, .int .i64 a.M] 186 (0,0))∧wr.ownsRow 0 3 1 (.slice fa nF fc) nF (a.F.map lP)∧Chg S w wr)
  (fun i _=>l.length-(intOf i).toNat)
 case atStart=>exact⟨0,E,rfl,a.T,rfl,ht,HP.o,HFr.o,Chg.refl⟩
 case round=>
  obtain⟨k,hk,rfl,Ti,hcl,hown,hpr,hfr,hchg⟩:=hrel;obtain⟨wo,rfl⟩:∃wo:World,wo=wr:=⟨_,rfl⟩;have hTl:Ti.length=nT:=by have :=pW hown;simpa using this
  have hc0:wo.cell? ⟨p,0,none⟩=some (.slice ta nT tc):=by rw[aG7 wo p 0 _ _ _ hpr];rfl
  have HCL:=θ hcl;have HPR:=θ hpr;have HFR:=θ hfr;have HCHG:=θ hchg;clear hcl hpr hfr hchg ht;by_cases hlt:k<l.length
  ·have hrd:=Ft HCHG.o hl HSEP.o;obtain⟨b,off,rfl,hbl,hcells⟩:=hrd.some E;have hcx:=hcells k hlt;have hsucc:=Cm hlt HCL.o;have HSU:=θ hsucc;generalize hx:l[k]?.getD 0=x at *;have HX:=θ hx;have HCE:=θ hcells;clear hsucc hx hcells hrd;have hklc:k≤lc:=E;cases hIs:kE Ti x
   ·have HIS:=θ hIs;clear hIs;go_wp2_with (go_at_call 234;refine(Dj _ hc0 hown hTl E).mono ?_;rintro e w' ⟨he,rfl⟩;rw[HIS.o]at he;subst he);have hval:=(zP HCL.o).2.1;have HV:=θ hval;clear hval;go_loopw [26] (fun i wr=>∃j:Nat,j≤k∧i= .int .i64 j∧wr.ownsRow 0 4 1 (.slice ta nT tc) nT (((l.take j).foldl (fun T k=>T.set k.toNat true) Ti).map Value.bool)∧
      wr.heap[p]? =some (.cells #[.slice ta nT tc, .slice fa nF fc, .int .i64 a.M] 186 (0,0))∧wr.ownsRow 0 3 1 (.slice fa nF fc) nF (a.F.map lP)∧Chg S w wr)
     (fun i _=>k-(intOf i).toNat)
    case atStart=>exact⟨0,E,rfl,hown,HPR.o,HFR.o,HCHG.o⟩
    case round=>
     obtain⟨j,hj,rfl,hown,hpr,hfr,hchg⟩:=hrel;have hc0:wr.cell? ⟨p,0,none⟩=some (.slice ta nT tc):=by rw[aG7 wr p 0 _ _ _ hpr];rfl
     have HPR:=θ hpr;have HFR:=θ hfr;have HCHG:=θ hchg;clear hpr hfr hchg;by_cases hjk:j<k
     ·have hrd:=Ft HCHG.o hl HSEP.o;obtain⟨b',off',heq,_,hcells⟩:=hrd.some E;cases heq;have hcy:=hcells j E;have hstep:=yF Ti l j E;have hv:=HV.o (l[j]?.getD 0) (by
       rw[ar3 (show j<l.length by omega)]
       rw[List.mem_take_iff_getElem]
       exact⟨j,E,rfl⟩)
      generalize l[j]?.getD 0=y at *;obtain⟨hy0,hy1⟩:=hv;have hyl:y.toNat<nT:=by have :=(ar5.1 hy1).1;have :=HNT.o;omega
      have hU:((l.take j).foldl (fun T k=>T.set k.toNat true) Ti).length=nT:=by rw[Ql];exact hTl
      generalize (l.take j).foldl (fun T k=>T.set k.toNat true) Ti=U at *;obtain⟨tb,tcap,hv,_,htb,htcap,_,htcell,htfz⟩:=cL hown E;injection hv with e1 _ e3
      subst e1;subst e3;obtain⟨ntp,_,ntf⟩:=HN1.o tb rfl;have hcT:=htcell y.toNat hyl;rw[ar6,ar3 E]at hcT;simp only[aD3]at hcT;have hz0:=htfz y.toNat;generalize U[y.toNat]=bv at *;have HO:=θ hown;have HST:=θ hstep;have hyn:y<(nT:Int):=E;clear hcells hrd htcell htfz hown hstep hy1 hU hTl;go_wp2_with fail;go_roundw;case rel=>
       refine⟨j+1,E,Es,?_,?_,?_,?_⟩
       ·rw[HST.o,List.map_set];exact tF HO.o y.toNat (.bool true)
       ·exact fF HPR.o (fun e=>ntp e.symm)
       ·exact cU HFR.o _ (fun g hg e=>ntf (by rw[hg,e])) (fun ad hg=>HN4.o ad hg)
       ·exact HCHG.o.setCell _ (Ei ((HS.o tb).2 (Ej (Ei rfl)))) _
      case measure=>simp[intOf];omega
     ·obtain rfl:j=k:=E;have hb:=Vz HCL.o;rw[hb]at hown;have HO:=θ hown;have HFREE:Hid (a.free l=(7,a)):=by
       show Ar.free a l=_;unfold Ar.free;rw[vO (l:=l) (i:=j+1) (by rw[HSU.o,HIS.o];rfl)]
      clear hown hb hTl;go_wp2_with fail;go_ret;rw[HFREE.o];refine⟨rfl,_,IsArena.of (ta:=ta) (tc:=tc) (fa:=fa) (fc:=fc) HOK.o ?_ ?_ ?_ ?_ ?_,HCHG.o,fun x hx=>Ei ((HS.o x).2 hx)⟩
      ·rw[HNT.o,HNF.o];exact HPR.o
      ·rw[HNT.o];exact HO.o
      ·rw[HNF.o];exact HFR.o
      ·exact fun g hg=>⟨(HN1.o g hg).1,(HN1.o g hg).2.2⟩
      ·exact fun g hg=>(HN2.o g hg).1
   ·obtain⟨hx0,hx1⟩:=mO.1 hIs;obtain⟨hxl,hxv⟩:=ar5.1 hx1;obtain⟨tb,tcap,hv,_,htb,htcap,_,htcell,htfz⟩:=cL hown E;injection hv with e1 _ e3
    subst e1;subst e3;obtain⟨ntp,_,ntf⟩:=HN1.o tb rfl;have hcT:=htcell x.toNat E;rw[ar6,ar3 hxl]at hcT;simp only[aD3]at hcT;have hz0:=htfz x.toNat;generalize Ti[x.toNat]=bv at *;have HO:=θ hown;have HIS:=θ hIs;have HTL:=θ hTl;have hxn:x<(nT:Int):=E;clear htcell htfz hx1 hxv hown hTl;go_wp2_with (go_at_call 234;refine(Dj _ hc0 HO.o HTL.o E).mono ?_;rintro e w' ⟨rfl,rfl⟩);go_roundw;case rel=>
     refine⟨k+1,E,Es,Ti.set x.toNat false,by rw[HSU.o,HIS.o];rfl,?_,?_,?_,?_⟩
     ·rw[List.map_set];exact tF HO.o x.toNat (.bool false)
     ·exact fF HPR.o (fun e=>ntp e.symm)
     ·exact cU HFR.o _ (fun g hg e=>ntf (by rw[hg,e])) (fun ad hg=>HN4.o ad hg)
     ·exact HCHG.o.setCell _ (Ei ((HS.o tb).2 (Ej (Ei rfl)))) _
    case measure=>simp[intOf];omega
  ·obtain rfl:k=l.length:=E;have hcl:=HCL.o;rw[az2]at hcl;have HFREE:Hid (a.free l=(0,a.push Ti l)):=by
    show Ar.free a l=_;unfold Ar.free;rw[hcl]
   have hpush:=Ar.push_ok HOK.o hcl;have hpos:=(zP hcl).2.1;have HPOS:=θ hpos;have hc1:wo.cell? ⟨p,1,none⟩=some (.slice fa nF fc):=by rw[aG7 wo p 1 _ _ _ HPR.o];rfl
   have hrd:=Ft HCHG.o hl HSEP.o;have hfr:=HFR.o;have HO:=θ hown;have hnews:∀q,la=some q→∀j u,(l.map (Value.int .i64))[j]? =some u→wo.cell? (q.add j)=some u:=by
    intro q hq j u hu;rw[ar6]at hu;by_cases hj:j<l.length
    ·obtain⟨b,off,e,_,hc⟩:=hrd.some E;rw[hq]at e;cases e;rw[al5,hc j hj,ar3 hj];rw[ar3 hj]at hu;simpa using hu
    ·rw[ar4 E]at hu;cases hu
   have HNEWS:=θ hnews;clear hcl hpos hrd hown hnews;go_wp2_with (at_builtin;refine fM rfl _ _ 36 rfl 0 3 Tryz.infoInt' aF0 rfl _ _ _ rfl hfr _ _ _ (l.map (Value.int .i64)) rfl Es ?c0 HNEWS.o ?c1 ?c2 ?c3 ?c4 ?_);case c0=>intro e;exact HNIL.o e
   case c1=>intro u hu;obtain⟨z,_,rfl⟩:=ax1.1 hu;rfl
   case c2=>unfold maxLen;omega
   case c3=>omega
   case c4=>omega
   intro a' c' w1 hown' hgrow hor;have hpn:some p≠(Value.slice fa nF fc).ownBlock:=by
    intro e;cases fa with
    | none=>simp[Value.ownBlock]at e
    | some ad=>
     obtain⟨g,rfl⟩:=HN4.o ad rfl;simp[Value.ownBlock]at e;exact(HN2.o g rfl).1 e.symm
   have hplo:p<wo.heap.size:=(am0.1 HPR.o).1;have hp1:w1.heap[p]? =some (.cells #[.slice ta nT tc, .slice fa nF fc, .int .i64 a.M] 186 (0,0)):=(hgrow.block p hplo hpn).trans HPR.o;have hc1:w1.cell? ⟨p,1,none⟩=some (.slice fa nF fc):=by rw[aG7 w1 p 1 _ _ _ hp1];rfl
   have hf1:w1.frozen? ⟨p,1,none⟩=false:=aH3 w1 p 1 _ _ hp1;have HP1:=θ hp1;have HO1:=θ hown';have HG:=θ hgrow;have HOR:=θ hor;clear hp1 hown' hgrow hor hpn hfr;go_wp2_with fail;go_ret;have obf:∀x n c,(Value.slice fa n c).ownBlock=some x→fa=some ⟨x,0,none⟩:=by
    intro x n c hx;cases fa with
    | none=>simp[Value.ownBlock]at hx
    | some ad=>obtain⟨g,rfl⟩:=HN4.o ad rfl;simp[Value.ownBlock]at hx;rw[hx]
   have hag:∀g,a'=some ⟨g,0,none⟩→g≠p∧ta≠some ⟨g,0,none⟩:=by
    intro g hg;rcases HOR.o g hg with e | e
    ·have :=obf g _ _ e;exact⟨(HN2.o g this).1,fun e2=>(HN1.o g e2).2.2 this⟩
    ·refine⟨fun e2=>E,fun e2=>?_⟩;have :=(HN1.o g e2).2.1;have :=HCHG.o.size;omega
   have ha':∀ad,a'=some ad→∃g,ad=(⟨g,0,none⟩:Addr):=by
    obtain⟨x,c,hv,_,hb⟩:=aM HO1.o;injection hv with e1 e2 e3
    intro ad hh;obtain⟨g,e,_⟩:=hb ad (e1▸hh);exact⟨g,e⟩
   rw[HFREE.o];have e1:(a.push Ti l).T.length=nT:=by have :=pW HO.o;simpa[Ar.push]using this
   have e2:(a.push Ti l).F.length=nF+l.length:=by have :=HNF.o;simp[Ar.push];omega
   have e3:(a.push Ti l).F.map lP=a.F.map lP++l.map (Value.int .i64):=by
    show (a.F++l.map Int.toNat).map lP=_;rw[at6,av0];congr 1;apply at7;intro y hy;have :=(HPOS.o y hy).1;show Value.int .i64 ((y.toNat:Nat):Int)=_;rw[Int.toNat_of_nonneg this]
   refine⟨rfl,_,IsArena.of (ta:=ta) (tc:=tc) (fa:=a') (fc:=c') hpush ?_ ?_ ?_ ?_ ?_,?_,?_⟩
   ·rw[e1,e2];exact bT HP1.o 1 (.slice a' (nF+l.length) c')
   ·rw[e1];refine cU (HO.o.kept HG.o ?_) _ (fun g hg=>(HN1.o g hg).1) (fun ad hg=>HN3.o ad hg);cases ta with
    | none=>left;rfl
    | some ad=>
     obtain⟨g2,rfl⟩:=HN3.o ad rfl;right;intro e;exact(HN1.o g2 rfl).2.2 (obf g2 _ _ (by rw[←e];rfl))
   ·rw[e2,e3];exact cU HO1.o _ (fun g hg=>(hag g hg).1) ha'
   ·intro g hg;exact⟨(HN1.o g hg).1,fun e=>(hag g e).2 hg⟩
   ·intro g hg;exact(hag g hg).1
   ·exact(HCHG.o.grown HG.o (fun x hx=>Ei ((HS.o x).2 (Ej (Ej (obf x _ _ hx)))))).setCell _ (Ei ((HS.o p).2 (Ei rfl))) _
   ·intro x hx;rcases hx with rfl | hx | hx
    ·exact Ei ((HS.o _).2 (Ei rfl))
    ·exact Ei ((HS.o _).2 (Ej (Ei hx)))
    ·rcases HOR.o x hx with e | e
     ·exact Ei ((HS.o _).2 (Ej (Ej (obf x _ _ e))))
     ·have :=HCHG.o.size;exact Ej E
theorem qI{w:World}{p:Nat}{S:Nat→Prop}{a:Ar}(h:IsArena w p S a)(l:List Int)(la:Option Addr)(lc:Nat)(hl:Reads w .i64 la l)(hnil:la=none→l.length=0∧lc=0)
  (hsep:∀ad,la=some ad→¬S ad.block) (hlen:l.length≤1000000000) (hlc:l.length≤lc):
  Calls Tryz.prog 213 #[.pointer (some ⟨p,0,none⟩), .slice la l.length lc] w fun e w'=>e= .returned (.int .i64 (a.free l).1)∧ArStep w w' p S (a.free l).2:=
 Vm h l la lc hl hnil (fun _=>hsep) hlen hlc
structure Nd where
 left:Int
 right:Int
 height:Int
 n:Int
 ones:Int
 ln:Int
 lones:Int
 b:Option Nat
def eL(b:Option Nat):Value:= .pointer (b.map fun q=>⟨q,0,none⟩)
def Nd.cells (x:Nd):List Value:=[.int .i64 x.left, .int .i64 x.right, .int .i64 x.height, .int .i64 x.n, .int .i64 x.ones, .int .i64 x.ln, .int .i64 x.lones,eL x.b]
def cR:List Nd→List Value
 | []=>[]
 | x::xs=>x.cells++cR xs
theorem xW:∀xs:List Nd,(cR xs).length=xs.length*8
 | []=>rfl
 | x::xs=>by simp only[cR,as6,as7,xW xs];simp[Nd.cells];omega
theorem xV:∀(xs:List Nd) (k i:Nat) (x:Nd),xs[k]? =some x→i<8→(cR xs)[k*8+i]? =x.cells[i]?
 | [],k,i,x,h,_=>by simp at h
 | y::xs,0,i,x,h,hi=>by
  simp at h;subst h;simp only[cR,aC9,aC7];rw[List.getElem?_append_left (by simpa[Nd.cells]using hi)]
 | y::xs,k+1,i,x,h,hi=>by
  simp only[cR];rw[ar0 (by simp[Nd.cells];omega),show (k+1)*8+i-y.cells.length=k*8+i by simp[Nd.cells];omega];exact xV xs k i x (by simpa using h) hi
theorem xX:∀(xs:List Nd) (k i:Nat) (x x':Nd) (v:Value),xs[k]? =some x→i<8→x.cells.set i v=x'.cells→(cR xs).set (k*8+i) v=cR (xs.set k x')
 | [],k,i,x,x',v,h,_,_=>by simp at h
 | y::xs,0,i,x,x',v,h,hi,he=>by
  simp at h;subst h;simp only[cR,aC9,aC7,List.set_cons_zero];rw[List.set_append_left _ _ (by simpa[Nd.cells]using hi),he]
 | y::xs,k+1,i,x,x',v,h,hi,he=>by
  simp only[cR,List.set_cons_succ];rw[List.set_append_right _ _ (by simp[Nd.cells];omega),show (k+1)*8+i-y.cells.length=k*8+i by simp[Nd.cells];omega];rw[xX xs k i x x' v (by simpa using h) hi he]
theorem Lx(xs ys:List Nd):cR (xs++ys)=cR xs++cR ys:=by
 induction xs with
 | nil=>rfl
 | cons x xs ih=>simp[cR,ih]
def TypeAt(w:World)(k:Nat)(T:TypeId):Prop:=∃cs,w.heap[k]? =some (.cells cs T (0,0))
theorem TypeAt.ne {w:World}{k j:Nat}{T U:TypeId}(h:TypeAt w k T)(g:TypeAt w j U)(hn:T≠U):k≠j:=by
 rintro rfl;obtain⟨cs,h⟩:=h;obtain⟨ds,g⟩:=g;rw[h]at g;injection g with g
 injection g with _ g
 exact hn g
theorem TypeAt.lt {w:World}{k:Nat}{T:TypeId}(h:TypeAt w k T):k<w.heap.size:=by
 obtain⟨cs,h⟩:=h;exact(am0.1 h).1
theorem fC{w:World}{base:Nat}{e:TypeId}{sz n c g:Nat}{xs:List Value}(h:w.ownsRow base e sz (.slice (some ⟨g,0,none⟩) n c) n xs):TypeAt w g e:=by
 rcases h.2 with ⟨h,_⟩ | ⟨g',cap,cur,hv,_,hg,_⟩
 ·cases h
 ·injection hv with e1 _ e3
  injection e1 with e1
  injection e1 with e1 _ _
  subst e1;exact⟨_,hg⟩
theorem IsArena.types {w:World}{p:Nat}{S:Nat→Prop}{a:Ar}(h:IsArena w p S a){k:Nat}(hk:S k):TypeAt w k 186∨TypeAt w k 4∨TypeAt w k 3:=by
 obtain⟨ta,tc,fa,fc,_,_,_,_,hp,ht,hf,_,_,_,_,hS,_⟩:=h.see;rcases(hS k).1 hk with rfl | rfl | rfl
 ·exact Ei ⟨_,hp⟩
 ·exact Ej (Ei (fC ht))
 ·exact Ej (Ej (fC hf))
theorem IsBlock.type {w:World}{p:Nat}{l:List Bool}(h:IsBlock w p l):TypeAt w p 242:=⟨_,h.2⟩
structure Head (w:World) (p:Nat) (C:Nat→Prop) (A:Ar) (xs:List Nd) (root vis:Int):Prop where
 ex:∃ap SA ra rc,w.heap[p]? =some (.cells #[.pointer (some ⟨ap,0,none⟩), .slice ra xs.length rc, .int .i64 root, .int .i64 vis] 218 (0,0))∧
  IsArena w ap SA A∧w.ownsRow 0 221 8 (.slice ra xs.length rc) xs.length (cR xs)∧(∀k,C k↔k=p∨SA k∨ra=some ⟨k,0,none⟩)
structure HStep (w w':World) (C C':Nat→Prop):Prop where
 chg:Chg C w w'
 new:∀k,C' k→C k∨w.heap.size≤k
section
variable {w w' w1 w2:World}{p:Nat}{C C' C'':Nat→Prop}{A:Ar}{xs:List Nd}{root vis:Int}
theorem HStep.trans (h:HStep w w1 C C')(g:HStep w1 w2 C' C''):HStep w w2 C C'':=
 ⟨h.chg.trans g.chg h.new,fun k hk=>(g.new k hk).elim (h.new k) (fun h'=>Ej (aA6 h.chg.size h'))⟩
theorem gK{base:Nat}{e:TypeId}{sz n c:Nat}{a:Option Addr}{ys:List Value}(h:w.ownsRow base e sz (.slice a n c) n ys):∀ad,a=some ad→∃g,ad=(⟨g,0,none⟩:Addr):=by
 obtain⟨x,c',hv,_,hb⟩:=aM h;injection hv with e1 _ _
 subst e1;intro ad h;obtain⟨g,e,_⟩:=hb ad h;exact⟨g,e⟩
theorem dT{a:Option Addr}{n c k:Nat}(h:∀ad,a=some ad→∃g,ad=(⟨g,0,none⟩:Addr)):(Value.slice a n c).ownBlock=some k↔a=some ⟨k,0,none⟩:=by
 cases a with
 | none=>simp[Value.ownBlock]
 | some ad=>obtain⟨g,rfl⟩:=h ad rfl;simp[Value.ownBlock]
theorem Head.types (h:Head w p C A xs root vis){k:Nat}(hk:C k):TypeAt w k 218∨TypeAt w k 221∨TypeAt w k 186∨TypeAt w k 4∨TypeAt w k 3:=by
 obtain⟨ap,SA,ra,rc,hp,ha,ho,hC⟩:=h.ex;rcases(hC k).1 hk with rfl | hk | rfl
 ·exact Ei ⟨_,hp⟩
 ·exact Ej (Ej (ha.types hk))
 ·exact Ej (Ei (fC ho))
theorem Head.lt (h:Head w p C A xs root vis):∀k,C k→k<w.heap.size:=by
 intro k hk;rcases h.types hk with h | h | h | h | h<;>exact h.lt
theorem Head.self (h:Head w p C A xs root vis):C p:=by
 obtain⟨ap,SA,ra,rc,hp,ha,ho,hC⟩:=h.ex;exact(hC p).2 (Ei rfl)
theorem Head.notBlk (h:Head w p C A xs root vis){q:Nat}(hq:TypeAt w q 242):¬C q:=by
 intro hc;rcases h.types hc with g | g | g | g | g<;>exact g.ne hq Ed rfl
theorem Head.drewN (h:Head w p C A xs root vis)(n:Nat):Head (w.drewN n) p C A xs root vis:=by
 obtain⟨ap,SA,ra,rc,hp,ha,ho,hC⟩:=h.ex;exact⟨ap,SA,ra,rc,hp,ha.chg (Chg.refl.drewN n) (S':=fun _=>False) (fun _ _ h=>h),ho,hC⟩
theorem Head.chg {S:Nat→Prop}(h:Head w p C A xs root vis)(hc:Chg S w w')(hd:∀k,C k→¬S k):Head w' p C A xs root vis:=by
 obtain⟨ap,SA,ra,rc,hp,ha,ho,hC⟩:=h.ex;exact⟨ap,SA,ra,rc,hc.heap hp (hd p ((hC p).2 (Ei rfl))),ha.chg hc (fun k hk=>hd k ((hC k).2 (Ej (Ei hk)))),
  hc.own ho (fun k hk=>hd k ((hC k).2 (Ej (Ej ((dT (gK ho)).1 hk))))),hC⟩
theorem Head.below (h:Head w p C A xs root vis)(hb:Below w.heap.size w w'):Head w' p C A xs root vis:=
 h.chg (S:=fun _=>False) (Chg.of_below hb) (fun _ _ h=>h)
theorem Head.cells (h:Head w p C A xs root vis):(∃ap,w.cell? ⟨p,0,none⟩=some (.pointer (some ⟨ap,0,none⟩)))∧w.cell? ⟨p,2,none⟩=some (.int .i64 root)∧w.cell? ⟨p,3,none⟩=some (.int .i64 vis)∧(∀j,w.frozen? ⟨p,j,none⟩=false):=by
 obtain⟨ap,SA,ra,rc,hp,ha,ho,hC⟩:=h.ex;exact⟨⟨ap,by rw[aG7 w p 0 _ _ _ hp];rfl⟩,by rw[aG7 w p 2 _ _ _ hp];rfl,by rw[aG7 w p 3 _ _ _ hp];rfl,fun j=>aH3 w p j _ _ hp⟩
theorem Head.row (h:Head w p C A xs root vis)(hx:0<xs.length):∃g rc cur,w.cell? ⟨p,1,none⟩=some (.slice (some ⟨g,0,none⟩) xs.length rc)∧g≠p∧C g∧xs.length≤rc∧rc≤maxLen∧
  w.heap[g]? =some (.cells cur 221 (0,0))∧cur.size=rc*8∧cur.toList.take (xs.length*8)=cR xs:=by
 obtain⟨ap,SA,ra,rc,hp,ha,ho,hC⟩:=h.ex;rcases ho.2 with ⟨_,h0⟩ | ⟨g,cap,cur,hv,_,hg,h1,h2,h3,h4⟩
 ·omega
 ·injection hv with e1 _ e3
  subst e1;subst e3;exact⟨g,rc,cur,by rw[aG7 w p 1 _ _ _ hp];rfl,TypeAt.ne ⟨_,hg⟩ ⟨_,hp⟩ Ed,(hC g).2 (Ej (Ej rfl)),h1,h2,hg,h3,h4⟩
theorem Head.node (h:Head w p C A xs root vis){g n rc:Nat}(hg:w.cell? ⟨p,1,none⟩=some (.slice (some ⟨g,0,none⟩) n rc)){k:Nat}{x:Nd}(hx:xs[k]? =some x):
  (∀i v,x.cells[i]? =some v→w.cell? ⟨g,k*8+i,none⟩=some v)∧(∀j,w.frozen? ⟨g,j,none⟩=false)∧k<xs.length∧n=xs.length∧g≠p∧C g:=by
 have hk:k<xs.length:=(ar5.1 hx).1;obtain⟨g',rc',cur,h1,h2,h3,h4,h5,h6,h7,h8⟩:=h.row E;rw[hg]at h1;injection h1 with h1
 injection h1 with e1 e2 e3
 injection e1 with e1
 injection e1 with e1 _ _
 subst e1;subst e2;subst e3;refine⟨fun i v hv=>?_,fun j=>aH3 w g j _ _ h6,hk,rfl,h2,h3⟩;have hi:i<8:=by have :=(ar5.1 hv).1;simpa[Nd.cells]using this
 rw[aG7 w g _ _ _ _ h6,←am1];have :(cur.toList.take (xs.length*8))[k*8+i]? =cur.toList[k*8+i]? :=by rw[ar9,aH9 E]
 rw[←this,h8,xV xs k i x hx hi,hv]
theorem Head.set3 (h:Head w p C A xs root vis)(v:Int):Head (w.setCell ⟨p,3,none⟩ (.int .i64 v)) p C A xs root v:=by
 obtain⟨ap,SA,ra,rc,hp,ha,ho,hC⟩:=h.ex;have hc:Chg (fun k=>k=p) w (w.setCell ⟨p,3,none⟩ (.int .i64 v)):=Chg.refl.setCell (S:=fun k=>k=p) ⟨p,3,none⟩ (Ei rfl) _;have hT:TypeAt w p 218:=⟨_,hp⟩;refine⟨ap,SA,ra,rc,aH6 w p 3 _ _ (.int .i64 v) hp,ha.chg hc (fun k hk e=>?_),hc.own ho (fun k hk e=>?_),hC⟩
 ·subst e;rcases ha.types hk with g | g | g<;>exact g.ne hT Ed rfl
 ·subst e;rw[(dT (gK ho)).1 hk]at ho;exact(fC ho).ne hT Ed rfl
theorem Head.set2 (h:Head w p C A xs root vis)(v:Int):Head (w.setCell ⟨p,2,none⟩ (.int .i64 v)) p C A xs v vis:=by
 obtain⟨ap,SA,ra,rc,hp,ha,ho,hC⟩:=h.ex;have hc:Chg (fun k=>k=p) w (w.setCell ⟨p,2,none⟩ (.int .i64 v)):=Chg.refl.setCell (S:=fun k=>k=p) ⟨p,2,none⟩ (Ei rfl) _;have hT:TypeAt w p 218:=⟨_,hp⟩;refine⟨ap,SA,ra,rc,aH6 w p 2 _ _ (.int .i64 v) hp,ha.chg hc (fun k hk e=>?_),hc.own ho (fun k hk e=>?_),hC⟩
 ·subst e;rcases ha.types hk with g | g | g<;>exact g.ne hT Ed rfl
 ·subst e;rw[(dT (gK ho)).1 hk]at ho;exact(fC ho).ne hT Ed rfl
theorem Head.chg3 (h:Head w p C A xs root vis)(v:Value)(j:Nat):Chg C w (w.setCell ⟨p,j,none⟩ v):=Chg.refl.setCell _ (Ei h.self) _
theorem Head.put (h:Head w p C A xs root vis){g n rc:Nat}(hg:w.cell? ⟨p,1,none⟩=some (.slice (some ⟨g,0,none⟩) n rc)){k i:Nat}{x x':Nd}{v:Value}(hx:xs[k]? =some x)(hi:i<8)(he:x.cells.set i v=x'.cells):
  Head (w.setCell ⟨g,k*8+i,none⟩ v) p C A (xs.set k x') root vis∧Chg (fun b=>b=g) w (w.setCell ⟨g,k*8+i,none⟩ v)∧(w.setCell ⟨g,k*8+i,none⟩ v).cell? ⟨p,1,none⟩=some (.slice (some ⟨g,0,none⟩) n rc):=by
 obtain⟨_,_,hk,rfl,hgp,hCg⟩:=h.node hg hx;obtain⟨ap,SA,ra,rc',hp,ha,ho,hC⟩:=h.ex;have e0:ra=some ⟨g,0,none⟩∧rc'=rc:=by
  rw[aG7 w p 1 _ _ _ hp]at hg;have hg:some (Value.slice ra xs.length rc')=some (.slice (some ⟨g,0,none⟩) xs.length rc):=hg;injection hg with hg
  injection hg with e1 _ e3
  exact⟨e1,e3⟩
 obtain⟨rfl,rfl⟩:=e0;have hc:Chg (fun k=>k=g) w (w.setCell ⟨g,k*8+i,none⟩ v):=Chg.refl.setCell (S:=fun k=>k=g) ⟨g,k*8+i,none⟩ (Ei rfl) _;have hp':=hc.heap hp (fun e=>hgp e.symm);refine⟨⟨ap,SA,some ⟨g,0,none⟩,rc',?_,ha.chg hc (fun j hj e=>?_),?_,hC⟩,hc,?_⟩
 ·rw[at4];exact hp'
 ·subst e;have hT:=fC ho;rcases ha.types hj with g | g | g<;>exact g.ne hT Ed rfl
 ·rcases ho.2 with ⟨h0,_⟩ | ⟨g',cap,cur,hv,h0,hgg,h1,h2,h3,h4⟩
  ·cases h0
  ·injection hv with e1 _ e3
   injection e1 with e1
   injection e1 with e1 _ _
   subst e1;subst e3;refine⟨by rw[xW], .inr ⟨g,rc',_,by rw[at4],aC8 _,aH6 w g (k*8+i) cur _ v hgg,by rw[at4];exact h1,h2,by simpa using h3,?_⟩⟩;rw[at4,am2,List.take_set,h4,xX xs k i x x' v hx hi he]
 ·rw[aG7 _ p 1 _ _ _ hp'];rfl
def RowB(w:World)(p b:Nat):Prop:=∃n c,w.cell? ⟨p,1,none⟩=some (.slice (some ⟨b,0,none⟩) n c)
theorem Head.rowC (h:Head w p C A xs root vis){b:Nat}(hb:RowB w p b):C b:=by
 obtain⟨n,c,hb⟩:=hb;obtain⟨ap,SA,ra,rc,hp,ha,ho,hC⟩:=h.ex;rw[aG7 w p 1 _ _ _ hp]at hb;have hb:some (Value.slice ra xs.length rc)=some (.slice (some ⟨b,0,none⟩) n c):=hb;injection hb with hb
 injection hb with e1 _ _
 exact(hC b).2 (Ej (Ej e1))
theorem Head.rowNe (h:Head w p C A xs root vis):¬RowB w p p:=by
 rintro⟨n,c,hb⟩;obtain⟨ap,SA,ra,rc,hp,ha,ho,hC⟩:=h.ex;rw[aG7 w p 1 _ _ _ hp]at hb;have hb:some (Value.slice ra xs.length rc)=some (.slice (some ⟨p,0,none⟩) n c):=hb;injection hb with hb
 injection hb with e1 _ _
 subst e1;exact(fC ho).ne ⟨_,hp⟩ Ed rfl
theorem Head.rowKeep (h:Head w p C A xs root vis)(hc:Chg (RowB w p) w w')(j:Nat):w'.cell? ⟨p,j,none⟩=w.cell? ⟨p,j,none⟩:=
 World.cell?_of_block (hc.block p (h.lt p h.self) h.rowNe)
theorem Head.chgRow (h:Head w p C A xs root vis)(hc:Chg (RowB w p) w w'):Chg C w w':=hc.mono (fun b hb=>h.rowC hb)
theorem Head.arena (h:Head w p C A xs root vis):∃ap SA,w.cell? ⟨p,0,none⟩=some (.pointer (some ⟨ap,0,none⟩))∧IsArena w ap SA A∧(∀k,SA k→C k)∧
  ∀w' A',ArStep w w' ap SA A'→∃C',Head w' p C' A' xs root vis∧HStep w w' C C':=by
 obtain⟨ap,SA,ra,rc,hp,ha,ho,hC⟩:=h.ex;have hT:TypeAt w p 218:=⟨_,hp⟩;have hsub:∀k,SA k→C k:=fun k hk=>(hC k).2 (Ej (Ei hk));refine⟨ap,SA,by rw[aG7 w p 0 _ _ _ hp];rfl,ha,hsub,?_⟩;rintro w' A' ⟨SA',ha',hc,hn⟩;refine⟨fun k=>k=p∨SA' k∨ra=some ⟨k,0,none⟩,⟨ap,SA',ra,rc,hc.heap hp (fun hk=>?_),ha',hc.own ho (fun k hk hs=>?_),fun k=>Iff.rfl⟩,hc.mono hsub,?_⟩
 ·rcases ha.types hk with g | g | g<;>exact g.ne hT Ed rfl
 ·rw[(dT (gK ho)).1 hk]at ho;have hT:=fC ho;rcases ha.types hs with g | g | g<;>exact g.ne hT Ed rfl
 ·intro k hk;rcases hk with rfl | hk | hk
  ·exact Ei ((hC _).2 (Ei rfl))
  ·exact(hn k hk).imp (hsub k) id
  ·exact Ei ((hC k).2 (Ej (Ej hk)))
end
inductive TT where
 | leaf (k q:Nat) (l:List Bool)
 | pair (k:Nat) (a b:TT)
def TT.num:TT→Nat
 | .leaf k _ _=>k
 | .pair k _ _=>k
def TT.st:TT→ST
 | .leaf _ _ l=> .leaf l
 | .pair _ a b=> .pair a.st b.st
def TT.nums:TT→List Nat
 | .leaf k _ _=>[k]
 | .pair k a b=>k::(a.nums++b.nums)
def TT.bl:TT→List Nat
 | .leaf _ q _=>[q]
 | .pair _ a b=>a.bl++b.bl
def TT.nd:TT→Nd
 | .leaf _ q l=>⟨-1,-1,0,l.length,l.count true,0,0,some q⟩
 | .pair _ a b=>⟨a.num,b.num,(ST.pair a.st b.st).high,a.st.bits.length+b.st.bits.length,a.st.bits.count true+b.st.bits.count true,a.st.bits.length,a.st.bits.count true,none⟩
def Sub(w:World)(xs:List Nd):TT→Prop
 | .leaf k q l=>xs[k]? =some (TT.leaf k q l).nd∧IsBlock w q l
 | .pair k a b=>xs[k]? =some (TT.pair k a b).nd∧Sub w xs a∧Sub w xs b
theorem TT.num_mem (T:TT):T.num∈T.nums:=by cases T<;>simp[TT.num,TT.nums]
theorem TT.nd_n (T:TT):T.nd.n=T.st.bits.length:=by cases T<;>simp[TT.nd,TT.st,ST.bits]
theorem TT.nd_ones (T:TT):T.nd.ones=T.st.bits.count true:=by cases T<;>simp[TT.nd,TT.st,ST.bits]
theorem TT.nd_high (T:TT):T.nd.height=T.st.high:=by cases T<;>simp[TT.nd,TT.st,ST.high]
section
variable {w w':World}{xs xs':List Nd}{T:TT}
theorem Sub.root (h:Sub w xs T):xs[T.num]? =some T.nd:=by
 cases T with
 | leaf k q l=>exact h.1
 | pair k a b=>exact h.1
theorem Sub.keep (h:Sub w xs T)(hx:∀k∈T.nums,xs'[k]? =xs[k]?)(hw:∀q∈T.bl,w'.heap[q]? =w.heap[q]?):Sub w' xs' T:=by
 induction T with
 | leaf k q l=>exact⟨(hx k (by simp[TT.nums])).trans h.1,h.2.1,(hw q (by simp[TT.bl])).trans h.2.2⟩
 | pair k a b iha ihb=>
  refine⟨(hx k (by simp[TT.nums])).trans h.1,iha h.2.1 (fun j hj=>hx j (by simp[TT.nums,hj])) (fun q hq=>hw q (by simp[TT.bl,hq])),ihb h.2.2 (fun j hj=>hx j (by simp[TT.nums,hj])) (fun q hq=>hw q (by simp[TT.bl,hq]))⟩
theorem Sub.type (h:Sub w xs T){q:Nat}(hq:q∈T.bl):TypeAt w q 242:=by
 induction T with
 | leaf k q' l=>simp[TT.bl]at hq;subst hq;exact h.2.type
 | pair k a b iha ihb=>
  simp only[TT.bl,av8]at hq;exact hq.elim (iha h.2.1) (ihb h.2.2)
theorem Sub.chg {S:Nat→Prop}(h:Sub w xs T)(hc:Chg S w w')(hd:∀q∈T.bl,¬S q)(hx:∀k∈T.nums,xs'[k]? =xs[k]?):Sub w' xs' T:=
 h.keep hx (fun q hq=>hc.block q (h.type hq).lt (hd q hq))
theorem Sub.chgC {p:Nat}{C:Nat→Prop}{A:Ar}{root vis:Int}{ys:List Nd}(h:Sub w xs T)(hH:Head w p C A ys root vis)(hc:Chg C w w')(hx:∀k∈T.nums,xs'[k]? =xs[k]?):Sub w' xs' T:=
 h.chg hc (fun q hq=>hH.notBlk (h.type hq)) hx
theorem Sub.same {S:Nat→Prop}(h:Sub w xs T)(hc:Chg S w w')(hd:∀q∈T.bl,¬S q):Sub w' xs T:=h.chg hc hd (fun _ _=>rfl)
end
structure TT.Sm (T:TT):Prop where
 len:T.st.bits.length≤8589934592
 high:T.st.high≤1000000000
theorem Cg{w:World}{p:Nat}{C:Nat→Prop}{A:Ar}{xs:List Nd}{vis:Int}(h:Head w p C A xs (-1) vis):
  Calls Tryz.prog 144 #[.pointer (some ⟨p,0,none⟩)] w fun e w'=>e= .returned (.int .i64 0)∧∃n,w'=w.drewN n:=by
 obtain⟨_,c2,_⟩:=h.cells;clear h;go_enter Tryz.func144,Tryz.ntmps144;go_wp2_with fail;go_ret;exact⟨rfl,0,rfl⟩
theorem lM{w:World}{p:Nat}{C:Nat→Prop}{A:Ar}{xs:List Nd}{vis:Int}{T:TT}(h:Head w p C A xs T.num vis)(hS:Sub w xs T):
  Calls Tryz.prog 144 #[.pointer (some ⟨p,0,none⟩)] w fun e w'=>e= .returned (.int .i64 T.st.bits.length)∧∃n,w'=w.drewN n:=by
 obtain⟨_,c2,_⟩:=h.cells;have hr:=hS.root;obtain⟨g,rc,cur,c1,_⟩:=h.row (by have :=(ar5.1 hr).1;omega);obtain⟨hn,_,hk,_⟩:=h.node c1 hr;have c3:=hn 3 (.int .i64 T.st.bits.length) (by rw[←T.nd_n];rfl);have d1:((T.num:Int)== -1)=false:=by rw[aG5];omega
 generalize T.num=k at *;generalize T.st.bits.length=n at *;clear h hn hr hS;go_enter Tryz.func144,Tryz.ntmps144;go_wp2_with fail;go_quiet (fail);go_wp2_with fail;go_ret;exact⟨rfl,_,rfl⟩
theorem Oz{w:World}{p:Nat}{C:Nat→Prop}{A:Ar}{xs:List Nd}{vis:Int}(h:Head w p C A xs (-1) vis):
  Calls Tryz.prog 218 #[.pointer (some ⟨p,0,none⟩)] w fun e w'=>e= .returned (.int .i64 0)∧∃n,w'=w.drewN n:=by
 obtain⟨_,c2,_⟩:=h.cells;clear h;go_enter Tryz.func218,Tryz.ntmps218;go_wp2_with fail;go_ret;exact⟨rfl,0,rfl⟩
theorem zC{w:World}{p:Nat}{C:Nat→Prop}{A:Ar}{xs:List Nd}{vis:Int}{T:TT}(h:Head w p C A xs T.num vis)(hS:Sub w xs T):
  Calls Tryz.prog 218 #[.pointer (some ⟨p,0,none⟩)] w fun e w'=>e= .returned (.int .i64 (T.st.bits.count true))∧∃n,w'=w.drewN n:=by
 obtain⟨_,c2,_⟩:=h.cells;have hr:=hS.root;obtain⟨g,rc,cur,c1,_⟩:=h.row (by have :=(ar5.1 hr).1;omega);obtain⟨hn,_,hk,_⟩:=h.node c1 hr;have c3:=hn 4 (.int .i64 (T.st.bits.count true)) (by rw[←T.nd_ones];rfl);have d1:((T.num:Int)== -1)=false:=by rw[aG5];omega
 generalize T.num=k at *;generalize T.st.bits.count true=n at *;clear h hn hr hS;go_enter Tryz.func218,Tryz.ntmps218;go_wp2_with fail;go_quiet (fail);go_wp2_with fail;go_ret;exact⟨rfl,_,rfl⟩
theorem gU(n ones:Int)(x:Bool)(w:World)(h:ones≤n)(h0:0≤ones)(h1:n≤1000000000000):
  Calls Tryz.prog 217 #[.int .i64 n, .int .i64 ones, .bool x] w fun e w'=>e= .returned (.int .i64 (mA n ones x))∧w=w':=by
 cases x
 ·go_enter Tryz.func217,Tryz.ntmps217;go_wp2_with fail;go_ret;exact⟨rfl,rfl⟩
 ·go_enter Tryz.func217,Tryz.ntmps217;go_wp2_with fail;go_ret;exact⟨rfl,rfl⟩
def bI:Option TT→List Bool
 | none=>[]
 | some T=>T.st.bits
def iH:Option TT→Int
 | none=> -1
 | some T=>T.num
def OSub(w:World)(xs:List Nd):Option TT→Prop
 | none=>True
 | some T=>Sub w xs T
section
variable {w w':World}{p:Nat}{C:Nat→Prop}{A:Ar}{xs:List Nd}{vis:Int}{o:Option TT}
theorem rH(h:Head w p C A xs (iH o) vis)(hS:OSub w xs o):Calls Tryz.prog 144 #[.pointer (some ⟨p,0,none⟩)] w fun e w'=>e= .returned (.int .i64 (bI o).length)∧∃n,w'=w.drewN n:=by
 cases o with
 | none=>exact Cg h
 | some T=>exact lM h hS
theorem Uy(h:Head w p C A xs (iH o) vis)(hS:OSub w xs o):Calls Tryz.prog 218 #[.pointer (some ⟨p,0,none⟩)] w fun e w'=>e= .returned (.int .i64 ((bI o).count true))∧∃n,w'=w.drewN n:=by
 cases o with
 | none=>exact Oz h
 | some T=>exact zC h hS
theorem OSub.chgC {ys:List Nd}{root:Int}(hS:OSub w xs o)(hH:Head w p C A ys root vis)(hc:Chg C w w'):OSub w' xs o:=by
 cases o with
 | none=>trivial
 | some T=>exact Sub.chgC hS hH hc (fun _ _=>rfl)
end
theorem Gy{w:World}{p:Nat}{C:Nat→Prop}{A:Ar}{xs:List Nd}{vis:Int}{o:Option TT}(h:Head w p C A xs (iH o) vis)(hS:OSub w xs o)(k:Int):
  Calls Tryz.prog 207 #[.pointer (some ⟨p,0,none⟩), .int .i64 k] w fun e w'=>e= .returned (.int .i64 (dZ (bI o) k))∧Head w' p C A xs (iH o) 0∧Chg C w w':=by
 obtain⟨_,_,_,fz⟩:=h.cells;have f3:=fz 3;have c3:=h.cells.2.2.1;have h0:=h.set3 0;have hc0:=h.chg3 (.int .i64 0) 3;have hs0:=hS.chgC h hc0;by_cases h1:k<0
 ·have hR:=θ (show (2:Int)=dZ (bI o) k by unfold dZ;rw[aH8 E]);have H0:=θ h0;have HC:=θ hc0;clear h hS fz h0 hc0 hs0;go_enter Tryz.func207,Tryz.ntmps207;go_wp2_with fail;go_ret;exact⟨aT hR.out,H0.o,HC.o⟩
 ·have hl:=rH h0 hs0;have HL:=θ hl;have H0:=θ h0;have HC:=θ hc0;have d0:decide (k<0)=false:=by simp;omega
  by_cases h2:k<(bI o).length
  ·have hR:=θ (show (0:Int)=dZ (bI o) k by unfold dZ;rw[aH9 E]);have d:decide (((bI o).length:Int)≤k)=false:=by simp;omega
   clear h hS fz h0 hc0 hs0 hl;generalize (bI o).length=n at *;go_enter Tryz.func207,Tryz.ntmps207;go_wp2_with fail;refine HL.o.mono ?_;rintro e w' ⟨rfl,m,rfl⟩;go_wp2_with fail;go_ret;exact⟨aT hR.out,H0.o.drewN _,HC.o.drewN _⟩
  ·have hR:=θ (show (2:Int)=dZ (bI o) k by unfold dZ;rw[aH8 E]);have d:decide (((bI o).length:Int)≤k)=true:=by simp;omega
   clear h hS fz h0 hc0 hs0 hl;generalize (bI o).length=n at *;go_enter Tryz.func207,Tryz.ntmps207;go_wp2_with fail;refine HL.o.mono ?_;rintro e w' ⟨rfl,m,rfl⟩;go_wp2_with fail;go_ret;exact⟨aT hR.out,H0.o.drewN _,HC.o.drewN _⟩
theorem Head.eight {w:World}{p:Nat}{C:Nat→Prop}{A:Ar}{xs:List Nd}{root vis:Int}(h:Head w p C A xs root vis){g n rc:Nat}(hg:w.cell? ⟨p,1,none⟩=some (.slice (some ⟨g,0,none⟩) n rc)){k:Nat}{x:Nd}(hx:xs[k]? =some x):
  w.cell? ⟨g,k*8,none⟩=some (.int .i64 x.left)∧w.cell? ⟨g,k*8+1,none⟩=some (.int .i64 x.right)∧w.cell? ⟨g,k*8+2,none⟩=some (.int .i64 x.height)∧w.cell? ⟨g,k*8+3,none⟩=some (.int .i64 x.n)∧
  w.cell? ⟨g,k*8+4,none⟩=some (.int .i64 x.ones)∧w.cell? ⟨g,k*8+5,none⟩=some (.int .i64 x.ln)∧w.cell? ⟨g,k*8+6,none⟩=some (.int .i64 x.lones)∧w.cell? ⟨g,k*8+7,none⟩=some (eL x.b):=by
 obtain⟨hn,_⟩:=h.node hg hx;exact⟨hn 0 _ rfl,hn 1 _ rfl,hn 2 _ rfl,hn 3 _ rfl,hn 4 _ rfl,hn 5 _ rfl,hn 6 _ rfl,hn 7 _ rfl⟩
theorem Sub.view {w:World}{xs:List Nd}{T:TT}{k:Nat}(h:Sub w xs T)(hk:T.num=k):
  (∃q l,T.st= .leaf l∧IsBlock w q l∧xs[k]? =some ⟨-1,-1,0,l.length,l.count true,0,0,some q⟩)∨
  (∃a b:TT,T.st= .pair a.st b.st∧Sub w xs a∧Sub w xs b∧xs[k]? =some ⟨a.num,b.num,(ST.pair a.st b.st).high,a.st.bits.length+b.st.bits.length,a.st.bits.count true+b.st.bits.count true,a.st.bits.length,a.st.bits.count true,none⟩):=by
 cases T with
 | leaf kn q l=>cases hk;exact Ei ⟨q,l,rfl,h.2,h.1⟩
 | pair kn a b=>cases hk;exact Ej ⟨a,b,rfl,h.2.1,h.2.2,h.1⟩
structure Look (w w':World) (p:Nat) (C:Nat→Prop) (A:Ar) (xs:List Nd) (root:Int) (m:Nat):Prop where
 head:∃v:Nat,v≤m∧Head w' p C A xs root v
 chg:Chg C w w'
theorem Uq{w:World}{p:Nat}{C:Nat→Prop}{A:Ar}{xs:List Nd}{vis:Int}{T0:TT}(h:Head w p C A xs T0.num vis)(hS:Sub w xs T0)(hm:T0.Sm)(k0:Nat)(hk0:k0<T0.st.bits.length):
  Calls Tryz.prog 158 #[.pointer (some ⟨p,0,none⟩), .int .i64 k0] w fun e w'=>e= .returned (.tuple #[.bool (aR T0.st.bits k0), .int .i64 0])∧Look w w' p C A xs T0.num (T0.st.high+1):=by
 have hh:=Gy (o:=some T0) h hS k0;have e0:dZ (bI (some T0)) k0=0:=by
  have :((k0:Int)<((bI (some T0)).length:Int)):=by show (k0:Int)<(T0.st.bits.length:Int);omega
  unfold dZ;rw[aH9 E]
 rw[e0]at hh;have HH:=θ hh;have HS:Hid (∀w',Chg C w w'→Sub w' xs T0):=fun w' hc=>hS.chgC h hc (fun _ _=>rfl);have hhm:=hm.high;clear hh h hS e0;go_enter Tryz.func158,Tryz.ntmps158;go_wp2_with fail;refine HH.o.mono ?_;rintro e w1 ⟨rfl,hH1,hC1⟩;have c2:=hH1.cells.2.1;have hS1:=HS.o w1 hC1;have e1:iH (some T0)=(T0.num:Int):=rfl;rw[e1]at c2 hH1;have HH1:=θ hH1;have HC1:=θ hC1;have HS1:=θ hS1;clear hH1 hC1 hS1 e1;go_wp2_with fail;go_loopg [7,1] (T0.st.high+1) (fun n a b wr=>∃(T:TT) (kn k v:Nat),T.num=kn∧a= .int .i64 kn∧b= .int .i64 k∧k<T.st.bits.length∧Sub wr xs T∧Head wr p C A xs T0.num v∧Chg C w wr∧
  aR T.st.bits k=aR T0.st.bits k0∧v+T.st.high≤T0.st.high∧T.st.high<n∧T.st.bits.length≤8589934592)
 case atStart=>exact⟨T0,_,k0,0,rfl,rfl,rfl,hk0,HS1.o,HH1.o,HC1.o,rfl,E,E,hm.len⟩
 case round=>
  obtain⟨T,kn,k,v,hkn,rfl,rfl,hk,hS,hH,hC,hb,hv,hT,hlen⟩:=hrel;have hvw:=hS.view hkn;have hx:∃x,xs[kn]? =some x:=⟨_,by rw[←hkn];exact hS.root⟩;obtain⟨g,rc,cur,c1,hgp,_⟩:=hH.row (by obtain⟨x,hx⟩:=hx;have :=(ar5.1 hx).1;omega);obtain⟨_,_,cv,fz⟩:=hH.cells;have f3:=fz 3;have hp:=hH.lt p hH.self;have HH3:Hid (∀v:Int,Head (wr.setCell ⟨p,3,none⟩ (.int .i64 v)) p C A xs T0.num v):=fun v=>hH.set3 v;have HCC:=θ hC;have HB:=θ hb;have HCp:=θ hH.self;have HNC:Hid (∀q l,IsBlock wr q l→¬C q):=fun q l h=>hH.notBlk h.type;clear hC hb hx fz HH HS HH1 HC1 HS1 c2 hgp;rcases hvw with ⟨q,l,hst,hblk,hx⟩ | ⟨Ta,Tb,hst,hSa,hSb,hx⟩
  ·obtain⟨_,_,hkx,_⟩:=hH.node c1 hx;obtain⟨a0,a1,a2,a3,a4,a5,a6,a7⟩:=hH.eight c1 hx;have hg:=aF8 wr _ a0;simp only[eL,aD3]at a0 a1 a2 a3 a4 a5 a6 a7;rw[hst]at hk hv hT;have HW:Hid (∀v o,IsBlock ((wr.setCell ⟨p,3,none⟩ v).alloc o) q l):=fun v o=>hblk.chg ((Chg.refl.setCell ⟨p,3,none⟩ (Ei HCp.o) v).alloc o) (HNC.o q l hblk);have HST:=θ hst;simp only[ST.high,ST.bits]at hk hv hT;clear hH hS hkn hx hst hblk;go_wp2_with fail;refine(Pt (HW.o _ _) k hk).mono ?_;rintro e w' ⟨rfl,rfl⟩;go_wp2_with fail;go_ret2;refine⟨Gb ?_ rfl,⟨v+1,E,?_⟩,?_⟩
   ·have :=HB.o;rw[HST.o]at this;exact this
   ·exact_mod_cast (HH3.o (v+1)).below (aN _ _)
   ·exact(HCC.o.setCell _ (Ei HCp.o) _).alloc _
  ·obtain⟨_,_,hkx,_⟩:=hH.node c1 hx;obtain⟨a0,a1,a2,a3,a4,a5,a6,a7⟩:=hH.eight c1 hx;have hg:=aF8 wr _ a0;simp only[eL,aD2]at a0 a1 a2 a3 a4 a5 a6 a7;rw[hst]at hk hv hT;simp only[ST.bits,ST.high,as6]at hk hv hT;have HSa:Hid (∀W,Chg C wr W→Sub W xs Ta):=fun W hc=>hSa.chgC hH hc (fun _ _=>rfl);have HSb:Hid (∀W,Chg C wr W→Sub W xs Tb):=fun W hc=>hSb.chgC hH hc (fun _ _=>rfl);have hb:=HB.o;rw[hst]at hb;simp only[ST.bits]at hb;have HB2:=θ hb;obtain⟨na,hna⟩:∃na,Ta.num=na:=⟨_,rfl⟩;obtain⟨nb,hnb⟩:∃nb,Tb.num=nb:=⟨_,rfl⟩;obtain⟨la,hla⟩:∃la,Ta.st.bits.length=la:=⟨_,rfl⟩;rw[hla]at hk;simp only[hna,hnb,hla]at a0 a1 a2 a3 a4 a5 a6;have HNA:=θ hna;have HNB:=θ hnb;have HLA:=θ hla;have hlm:la+Tb.st.bits.length≤8589934592:=by rw[hst]at hlen;simp only[ST.bits,as6]at hlen;omega
   by_cases hlt:k<la
   ·have d1:decide (k<la)=true:=aH1 hlt;clear hH hS hkn hx hst hSa hSb hb hna hnb hla HB;go_wp2_with fail;go_roundg (max Ta.st.high Tb.st.high+1);case measure=>omega
    case rel=>
     refine⟨Ta,na,k,v+1,HNA.o,rfl,rfl,by rw[HLA.o];exact hlt,HSa.o _ ((Chg.refl.setCell ⟨p,3,none⟩ (Ei HCp.o) _).alloc _),?_,HCC.o.trans ((Chg.refl.setCell ⟨p,3,none⟩ (Ei HCp.o) _).alloc _) (fun _ h=>Ei h),?_,E,E,by have :=HLA.o;omega⟩
     ·exact_mod_cast (HH3.o (v+1)).below (aN _ _)
     ·rw[←HB2.o,tT (by rw[HLA.o];exact hlt)]
   ·have d1:decide (k<la)=false:=aG9 hlt;clear hH hS hkn hx hst hSa hSb hb hna hnb hla HB;go_wp2_with fail;go_quiet (fail);go_wp2_with fail;go_roundg (max Ta.st.high Tb.st.high+1);case measure=>omega
    case rel=>
     refine⟨Tb,nb,k-la,v+1,HNB.o,rfl,?_,E,HSb.o _ (((Chg.refl.setCell ⟨p,3,none⟩ (Ei HCp.o) _).alloc _).drewN _),?_,HCC.o.trans (((Chg.refl.setCell ⟨p,3,none⟩ (Ei HCp.o) _).alloc _).drewN _) (fun _ h=>Ei h),?_,E,E,E⟩
     ·congr 1;omega
     ·exact_mod_cast ((HH3.o (v+1)).below (aN _ _)).drewN _
     ·rw[←HB2.o,tU (by rw[HLA.o];omega),HLA.o]
theorem fP{w:World}{p:Nat}{C:Nat→Prop}{A:Ar}{xs:List Nd}{root vis:Int}(h:Head w p C A xs root vis){k q:Nat}{x:Nd}{l:List Bool}(hx:xs[k]? =some x)(hb:x.b=some q)(hq:IsBlock w q l):
  Calls Tryz.prog 245 #[.pointer (some ⟨p,0,none⟩), .int .i64 k] w fun e w'=>e= .returned (.tuple #[])∧
   Head w' p C A (xs.set k ⟨x.left,x.right,x.height,l.length,l.count true,x.ln,x.lones,some q⟩) root vis∧Chg (RowB w p) w w':=by
 obtain⟨g,rc,cur,c1,hgp,_⟩:=h.row (by have :=(ar5.1 hx).1;omega);obtain⟨_,fz,hkx,_⟩:=h.node c1 hx;obtain⟨a0,a1,a2,a3,a4,a5,a6,a7⟩:=h.eight c1 hx;have f3:=fz (k*8+3);have f4:=fz (k*8+4);rw[hb]at a7;simp only[eL,aD3]at a7;obtain⟨g1,g2,g3⟩:=h.put (x':=⟨x.left,x.right,x.height,l.length,x.ones,x.ln,x.lones,some q⟩) (v:= .int .i64 l.length) c1 hx (show 3<8 by omega) (by cases x;cases hb;rfl);have e1:(xs.set k ⟨x.left,x.right,x.height,l.length,x.ones,x.ln,x.lones,some q⟩)[k]? =some ⟨x.left,x.right,x.height,l.length,x.ones,x.ln,x.lones,some q⟩:=by rw[ar8,aH9 rfl,aH9 hkx]
 have hS1:=(g1.eight g3 e1).2.2.2.2.2.2.2;obtain⟨g4,g5,g6⟩:=g1.put (k:=k) (i:=4) (x:=⟨x.left,x.right,x.height,l.length,x.ones,x.ln,x.lones,some q⟩) (x':=⟨x.left,x.right,x.height,l.length,l.count true,x.ln,x.lones,some q⟩) (v:= .int .i64 (l.count true)) g3 e1 E rfl;have hS2:=(g4.eight g6 (k:=k) (x:=⟨x.left,x.right,x.height,l.length,l.count true,x.ln,x.lones,some q⟩) (by rw[List.getElem?_set,if_pos rfl,if_pos (by simpa using hkx)])).2.2.2.2.2.2.2;have HS1:=θ hS1;have HS2:=θ hS2;rw[ay6]at g4;have G4:=θ g4;have G5:Hid (Chg (RowB w p) w _):=(g2.trans g5 (fun _ h=>Ei h)).mono (fun b e=>by subst e;exact⟨_,_,c1⟩);have HB:Hid (IsBlock w.drew q l):=hq;clear h fz g1 g2 g3 g4 g5 g6 hq hb hx hS1 hS2 e1;go_enter Tryz.func245,Tryz.ntmps245;go_wp2_with fail;refine aE (fun w'=>w'.cell? ⟨g,k*8+7,none⟩=some (.pointer (some ⟨q,0,none⟩))) Ek (a7) (fun hh=>?_);refine rt 0 hh ?_;refine rt 1 hh ?_;refine rt 2 hh ?_;refine rt 3 hh ?_;refine rt 4 hh ?_;refine rt 5 hh ?_;refine rt 7 hh ?_;refine rt 8 hh ?_;refine rt 9 hh ?_;refine rt 10 hh ?_;refine rg 6 fun κ hK=>?_;go_simp
 ((with_reducible refine(xS (w:=w.drew) HB.o).mono ?_))
 rintro e w2 ⟨rfl,rfl⟩;refine hK.out _ _ (a7) ?_;intro hh;try simp only[pt]
 refine rg 11 fun κ hK=>?_;go_simp
 ((with_reducible refine(ad2 (w:=w.drew) HB.o).mono ?_))
 rintro e w2 ⟨rfl,rfl⟩;refine hK.out _ _ (a7) ?_;intro hh;try simp only[pt]
 refine rt 12 hh ?_;refine rt 13 hh ?_;refine rg 14 fun κ hK=>?_;go_simp;refine hK.out _ _ (HS1.o) ?_;intro hh;try simp only[pt]
 refine rt 15 hh ?_;refine rt 16 hh ?_;refine rg 17 fun κ hK=>?_;go_simp;refine hK.out _ _ (HS2.o) ?_;intro hh;try simp only[pt]
 refine rz ?_;go_wp2_with fail;refine bodyPost_ret (results_none rfl _ _ _) rfl ?_;exact⟨rfl,G4.out.drewN 1,G5.out.drew⟩
theorem dH(w:World)(A B:Obj):Below w.heap.size w ((w.alloc A).alloc B).drew:=
 let h:=((am4 w.heap.size w).alloc (aA5 _) A).alloc Es B
 ⟨h.os,h.tape,h.output,h.size,h.block⟩
theorem Head.drew {w:World}{p:Nat}{C:Nat→Prop}{A:Ar}{xs:List Nd}{root vis:Int}(h:Head w p C A xs root vis):Head w.drew p C A xs root vis:=h.drewN 1
theorem lV(w:World)(A:Obj):Below w.heap.size w (w.alloc A).drew:=
 let h:=(am4 w.heap.size w).alloc (aA5 _) A
 ⟨h.os,h.tape,h.output,h.size,h.block⟩
theorem Hx(w:World):Below w.heap.size w w.drew:=⟨rfl,rfl,rfl,aA5 _,fun _ _=>rfl⟩
theorem Head.puts {w:World}{p:Nat}{C:Nat→Prop}{A:Ar}{xs:List Nd}{root vis:Int}(h:Head w p C A xs root vis){g n rc:Nat}(hg:w.cell? ⟨p,1,none⟩=some (.slice (some ⟨g,0,none⟩) n rc)){k:Nat}{x:Nd}{i j:Int}(hx:xs[k]? =some x)(hb:x.b=none∧x.left=i∧x.right=j)(ht m o lm lo:Int):
  Head (((((w.setCell ⟨g,k*8+2,none⟩ (.int .i64 ht)).setCell ⟨g,k*8+3,none⟩ (.int .i64 m)).setCell ⟨g,k*8+4,none⟩ (.int .i64 o)).setCell ⟨g,k*8+5,none⟩ (.int .i64 lm)).setCell ⟨g,k*8+6,none⟩ (.int .i64 lo)) p C A (xs.set k ⟨i,j,ht,m,o,lm,lo,none⟩) root vis∧
  Chg (fun b=>b=g) w (((((w.setCell ⟨g,k*8+2,none⟩ (.int .i64 ht)).setCell ⟨g,k*8+3,none⟩ (.int .i64 m)).setCell ⟨g,k*8+4,none⟩ (.int .i64 o)).setCell ⟨g,k*8+5,none⟩ (.int .i64 lm)).setCell ⟨g,k*8+6,none⟩ (.int .i64 lo)):=by
 obtain⟨_,_,hk,_⟩:=h.node hg hx;have key:∀y:Nd,(xs.set k y)[k]? =some y:=fun y=>by rw[ar8,aH9 rfl,aH9 hk]
 obtain⟨hb,rfl,rfl⟩:=hb;obtain⟨h1,c1,g1⟩:=h.put hg hx (i:=2) (v:= .int .i64 ht) (x':=⟨x.left,x.right,ht,x.n,x.ones,x.ln,x.lones,none⟩) E (by cases x;cases hb;rfl);obtain⟨h2,c2,g2⟩:=h1.put g1 (key _) (i:=3) (v:= .int .i64 m) (x':=⟨x.left,x.right,ht,m,x.ones,x.ln,x.lones,none⟩) E rfl;rw[ay6]at h2;obtain⟨h3,c3,g3⟩:=h2.put g2 (key _) (i:=4) (v:= .int .i64 o) (x':=⟨x.left,x.right,ht,m,o,x.ln,x.lones,none⟩) E rfl;rw[ay6]at h3;obtain⟨h4,c4,g4⟩:=h3.put g3 (key _) (i:=5) (v:= .int .i64 lm) (x':=⟨x.left,x.right,ht,m,o,lm,x.lones,none⟩) E rfl;rw[ay6]at h4;obtain⟨h5,c5,_⟩:=h4.put g4 (key _) (i:=6) (v:= .int .i64 lo) (x':=⟨x.left,x.right,ht,m,o,lm,lo,none⟩) E rfl;rw[ay6]at h5;exact⟨h5,(((c1.trans c2 (fun _ h=>Ei h)).trans c3 (fun _ h=>Ei h)).trans c4 (fun _ h=>Ei h)).trans c5 (fun _ h=>Ei h)⟩
theorem Up{w:World}{p:Nat}{C:Nat→Prop}{A:Ar}{xs:List Nd}{root vis:Int}(h:Head w p C A xs root vis){k i j:Nat}{x a b:Nd}(hx:xs[k]? =some x)(hb:x.b=none)(hl:x.left=i)(hr:x.right=j)
  (ha:xs[i]? =some a) (hbn:xs[j]? =some b) (s1:0≤a.height∧a.height≤1000000000) (s2:0≤b.height∧b.height≤1000000000) (s3:0≤a.n∧a.n≤8589934592) (s4:0≤b.n∧b.n≤8589934592) (s5:0≤a.ones∧a.ones≤8589934592) (s6:0≤b.ones∧b.ones≤8589934592):
  Calls Tryz.prog 245 #[.pointer (some ⟨p,0,none⟩), .int .i64 k] w fun e w'=>e= .returned (.tuple #[])∧
   Head w' p C A (xs.set k ⟨i,j,max a.height b.height+1,a.n+b.n,a.ones+b.ones,a.n,a.ones,none⟩) root vis∧Chg (RowB w p) w w':=by
 obtain⟨g,rc,cur,c1,hgp,_⟩:=h.row (by have :=(ar5.1 hx).1;omega);obtain⟨_,fz,hkx,_⟩:=h.node c1 hx;obtain⟨_,_,hix,_⟩:=h.node c1 ha;obtain⟨_,_,hjx,_⟩:=h.node c1 hbn;obtain⟨a0,a1,a2,a3,a4,a5,a6,a7⟩:=h.eight c1 hx;obtain⟨b0,b1,b2,b3,b4,b5,b6,b7⟩:=h.eight c1 ha;obtain⟨d0,d1,d2,d3,d4,d5,d6,d7⟩:=h.eight c1 hbn;have hg:=aF8 w _ a0;have hp:=h.lt p h.self;rw[hl]at a0;rw[hr]at a1;rw[hb]at a7;simp only[eL,aD2]at a7;have f0:=fz (k*8+0);have f2:=fz (k*8+2);have f3:=fz (k*8+3);have f4:=fz (k*8+4);have f5:=fz (k*8+5);have f6:=fz (k*8+6);have H:=θ h;have HRB:Hid (RowB w p g):=⟨_,_,c1⟩;have HX:=θ hx;have HXB:Hid (x.b=none∧x.left=i∧x.right=j):=⟨hb,hl,hr⟩;obtain⟨pa,hpa⟩:∃pa,eL a.b= .pointer pa:=⟨_,rfl⟩;obtain⟨pb,hpb⟩:∃pb,eL b.b= .pointer pb:=⟨_,rfl⟩;rw[hpa]at b7;rw[hpb]at d7;clear hpa hpb;clear h fz hb hx ha hbn hl hr;go_enter Tryz.func245,Tryz.ntmps245;go_wp2_with fail;go_upto_region 4 with fail
 go_cut [5,6] (fun va vb wx=>∃qa qb:Nat,va= .pointer (some ⟨qa,0,none⟩)∧vb= .pointer (some ⟨qb,0,none⟩)∧w.heap.size≤qa∧w.heap.size≤qb∧Below w.heap.size w wx∧
  wx.heap[qa]? =some (.cells #[.int .i64 a.left, .int .i64 a.right, .int .i64 a.height, .int .i64 a.n, .int .i64 a.ones, .int .i64 a.ln, .int .i64 a.lones, .pointer pa] 221 (0,0))∧
  wx.heap[qb]? =some (.cells #[.int .i64 b.left, .int .i64 b.right, .int .i64 b.height, .int .i64 b.n, .int .i64 b.ones, .int .i64 b.ln, .int .i64 b.lones, .pointer pb] 221 (0,0)))
 case first=>
  refine aE (fun w'=>Below w.heap.size w w') Ek (Hx _) (fun hh=>?_);refine bV (i:=0) (v:=?vt0) rfl Ek rfl hh ?yt0 ?rt0;case yt0=>(intro w' hSw;go_simp;all_goals with_reducible rfl)
  try simp only[pt]
  refine bV (i:=1) (v:=?vt1) rfl Ek rfl hh ?yt1 ?rt1;case yt1=>(intro w' hSw;go_simp;all_goals with_reducible rfl)
  try simp only[pt]
  refine bV (i:=2) (v:=?vt2) rfl Ek rfl hh ?yt2 ?rt2;case yt2=>(intro w' hSw;go_simp;all_goals with_reducible rfl)
  try simp only[pt]
  refine bV (i:=3) (v:=?vt3) rfl Ek rfl hh ?yt3 ?rt3;case yt3=>(intro w' hSw;have q1:=(hSw.cell (p:=⟨p,1,none⟩) hp).trans c1;go_simp;all_goals with_reducible rfl)
  try simp only[pt]
  refine bV (i:=4) (v:=?vt4) rfl Ek rfl hh ?yt4 ?rt4;case yt4=>(intro w' hSw;go_simp;all_goals with_reducible rfl)
  try simp only[pt]
  refine bV (i:=5) (v:=?vt5) rfl Ek rfl hh ?yt5 ?rt5;case yt5=>(intro w' hSw;go_simp;all_goals with_reducible rfl)
  try simp only[pt]
  refine bV (i:=6) (v:=?vt6) rfl Ek rfl hh ?yt6 ?rt6;case yt6=>(intro w' hSw;go_simp;all_goals with_reducible rfl)
  try simp only[pt]
  refine bV (i:=7) (v:=?vt7) rfl Ek rfl hh ?yt7 ?rt7;case yt7=>(intro w' hSw;have q2:=(hSw.cell (p:=⟨g,k*8,none⟩) hg).trans a0;go_simp;all_goals with_reducible rfl)
  try simp only[pt]
  refine bV (i:=8) (v:=?vt8) rfl Ek rfl hh ?yt8 ?rt8;case yt8=>(intro w' hSw;go_simp;all_goals with_reducible rfl)
  try simp only[pt]
  refine bV (i:=9) (v:=?vt9) rfl Ek rfl hh ?yt9 ?rt9;case yt9=>(intro w' hSw;have r0:=(hSw.cell (p:=⟨g,i*8,none⟩) hg).trans b0;have r1:=(hSw.cell (p:=⟨g,i*8+1,none⟩) hg).trans b1;have r2:=(hSw.cell (p:=⟨g,i*8+2,none⟩) hg).trans b2;have r3:=(hSw.cell (p:=⟨g,i*8+3,none⟩) hg).trans b3;have r4:=(hSw.cell (p:=⟨g,i*8+4,none⟩) hg).trans b4;have r5:=(hSw.cell (p:=⟨g,i*8+5,none⟩) hg).trans b5;have r6:=(hSw.cell (p:=⟨g,i*8+6,none⟩) hg).trans b6;have r7:=(hSw.cell (p:=⟨g,i*8+7,none⟩) hg).trans b7;go_simp;all_goals with_reducible rfl)
  try simp only[pt]
  refine bV (i:=10) (v:=?vt10) rfl Ek rfl hh ?yt10 ?rt10;case yt10=>(intro w' hSw;go_simp;all_goals with_reducible rfl)
  try simp only[pt]
  refine bV (i:=11) (v:=?vt11) rfl Ek rfl hh ?yt11 ?rt11;case yt11=>(intro w' hSw;go_simp;all_goals with_reducible rfl)
  try simp only[pt]
  refine bV (i:=12) (v:=?vt12) rfl Ek rfl hh ?yt12 ?rt12;case yt12=>(intro w' hSw;go_simp;all_goals with_reducible rfl)
  try simp only[pt]
  refine bV (i:=13) (v:=?vt13) rfl Ek rfl hh ?yt13 ?rt13;case yt13=>(intro w' hSw;have q1:=(hSw.cell (p:=⟨p,1,none⟩) hp).trans c1;go_simp;all_goals with_reducible rfl)
  try simp only[pt]
  refine bV (i:=14) (v:=?vt14) rfl Ek rfl hh ?yt14 ?rt14;case yt14=>(intro w' hSw;go_simp;all_goals with_reducible rfl)
  try simp only[pt]
  refine bV (i:=15) (v:=?vt15) rfl Ek rfl hh ?yt15 ?rt15;case yt15=>(intro w' hSw;go_simp;all_goals with_reducible rfl)
  try simp only[pt]
  refine bV (i:=16) (v:=?vt16) rfl Ek rfl hh ?yt16 ?rt16;case yt16=>(intro w' hSw;go_simp;all_goals with_reducible rfl)
  try simp only[pt]
  refine bV (i:=17) (v:=?vt17) rfl Ek rfl hh ?yt17 ?rt17;case yt17=>(intro w' hSw;have q3:=(hSw.cell (p:=⟨g,k*8+1,none⟩) hg).trans a1;go_simp;all_goals with_reducible rfl)
  try simp only[pt]
  refine bV (i:=18) (v:=?vt18) rfl Ek rfl hh ?yt18 ?rt18;case yt18=>(intro w' hSw;go_simp;all_goals with_reducible rfl)
  try simp only[pt]
  refine bV (i:=19) (v:=?vt19) rfl Ek rfl hh ?yt19 ?rt19;case yt19=>(intro w' hSw;have r0:=(hSw.cell (p:=⟨g,j*8,none⟩) hg).trans d0;have r1:=(hSw.cell (p:=⟨g,j*8+1,none⟩) hg).trans d1;have r2:=(hSw.cell (p:=⟨g,j*8+2,none⟩) hg).trans d2;have r3:=(hSw.cell (p:=⟨g,j*8+3,none⟩) hg).trans d3;have r4:=(hSw.cell (p:=⟨g,j*8+4,none⟩) hg).trans d4;have r5:=(hSw.cell (p:=⟨g,j*8+5,none⟩) hg).trans d5;have r6:=(hSw.cell (p:=⟨g,j*8+6,none⟩) hg).trans d6;have r7:=(hSw.cell (p:=⟨g,j*8+7,none⟩) hg).trans d7;go_simp;all_goals with_reducible rfl)
  try simp only[pt]
  refine aJ0 (rs:=[20,21]) Ek Es (qH rfl rfl (fun κ hK=>?_) (qH rfl rfl (fun κ hK=>?_) al7))
  ·go_simp;refine hK.out _ _ (lV _ _) ?_;intro hh;try simp only[pt]
   refine rg 21 fun κ hK=>?_;go_simp;refine hK.out _ _ (dH _ _ _) ?_;intro hh;try simp only[pt]
   refine rg 22 fun κ hK=>?_;go_simp;refine hK.out _ _ (dH _ _ _) ?_;intro hh;try simp only[pt]
   refine rg 23 fun κ hK=>?_;go_simp;refine hK.out _ _ (dH _ _ _) ?_;intro hh;try simp only[pt]
   refine rz ?_;go_wp2_with fail;go_meet;case rel=>exact⟨_,_,rfl,rfl,aA5 _,Nat.le_succ _,hh,heap_alloc2_old _ _ _,heap_alloc2_new _ _ _⟩
  ·go_simp;refine hK.out _ _ (lV _ _) ?_;intro hh;try simp only[pt]
   refine rg 20 fun κ hK=>?_;go_simp;refine hK.out _ _ (dH _ _ _) ?_;intro hh;try simp only[pt]
   refine rg 22 fun κ hK=>?_;go_simp;refine hK.out _ _ (dH _ _ _) ?_;intro hh;try simp only[pt]
   refine rg 23 fun κ hK=>?_;go_simp;refine hK.out _ _ (dH _ _ _) ?_;intro hh;try simp only[pt]
   refine rz ?_;go_wp2_with fail;go_meet;case rel=>exact⟨_,_,rfl,rfl,Nat.le_succ _,aA5 _,hh,heap_alloc2_new _ _ _,heap_alloc2_old _ _ _⟩
 case rest=>
  obtain⟨qa,qb,rfl,rfl,l1,l2,hb,hqa,hqb⟩:=hcut;have Hc:=H.o.below hb;obtain⟨P1,P2⟩:=Hc.puts ((hb.cell (p:=⟨p,1,none⟩) hp).trans c1) HX.o HXB.o (max a.height b.height+1) (a.n+b.n) (a.ones+b.ones) a.n a.ones;have HP1:=θ P1;have HP2:Hid (Chg (RowB w p) wc _):=P2.mono (fun b e=>by subst e;exact HRB.o);have HC:=θ hb;have ea2:wc.cell? ⟨qa,2,none⟩=some (.int .i64 a.height):=by rw[aG7 wc qa 2 _ _ _ hqa];rfl
  have ea3:wc.cell? ⟨qa,3,none⟩=some (.int .i64 a.n):=by rw[aG7 wc qa 3 _ _ _ hqa];rfl
  have ea4:wc.cell? ⟨qa,4,none⟩=some (.int .i64 a.ones):=by rw[aG7 wc qa 4 _ _ _ hqa];rfl
  have eb2:wc.cell? ⟨qb,2,none⟩=some (.int .i64 b.height):=by rw[aG7 wc qb 2 _ _ _ hqb];rfl
  have eb3:wc.cell? ⟨qb,3,none⟩=some (.int .i64 b.n):=by rw[aG7 wc qb 3 _ _ _ hqb];rfl
  have eb4:wc.cell? ⟨qb,4,none⟩=some (.int .i64 b.ones):=by rw[aG7 wc qb 4 _ _ _ hqb];rfl
  have e2:=(hb.cell (p:=⟨g,k*8+2,none⟩) hg).trans a2;have e3:=(hb.cell (p:=⟨g,k*8+3,none⟩) hg).trans a3;have e4:=(hb.cell (p:=⟨g,k*8+4,none⟩) hg).trans a4;have e5:=(hb.cell (p:=⟨g,k*8+5,none⟩) hg).trans a5;have e6:=(hb.cell (p:=⟨g,k*8+6,none⟩) hg).trans a6;have k2:=(hb.frozen (p:=⟨g,k*8+2,none⟩) hg).trans f2;have k3:=(hb.frozen (p:=⟨g,k*8+3,none⟩) hg).trans f3;have k4:=(hb.frozen (p:=⟨g,k*8+4,none⟩) hg).trans f4;have k5:=(hb.frozen (p:=⟨g,k*8+5,none⟩) hg).trans f5;have k6:=(hb.frozen (p:=⟨g,k*8+6,none⟩) hg).trans f6;have hg':g<w.heap.size:=hg;have n1:¬qa=g:=E;have n2:¬qb=g:=E;have n3:¬g=qa:=E;have n4:¬g=qb:=E;clear P1 P2 hb hqa hqb Hc a0 a1 a2 a3 a4 a5 a6 a7 b0 b1 b2 b3 b4 b5 b6 b7 d0 d1 d2 d3 d4 d5 d6 d7 f0 f2 f3 f4 f5 f6 c1;have HWN:Hid (IntKind.i64.wrap (a.n+b.n)=a.n+b.n):=ao4 _ E;have HWO:Hid (IntKind.i64.wrap (a.ones+b.ones)=a.ones+b.ones):=ao4 _ E;obtain⟨hm,hhm⟩:∃hm,hm=max a.height b.height:=⟨_,rfl⟩;rw[←hhm]at HP1 HP2;have HHM:=θ hhm;clear hhm;go_upto_region 4 with fail
  go_cut [5] (fun va wx=>va= .pointer (some ⟨qa,0,none⟩)∧wx=wc.setCell ⟨g,k*8+2,none⟩ (.int .i64 (hm+1)));case first=>
   by_cases hlt:a.height<b.height
   ·have e0:=HHM.o;rw[Int.max_eq_right E]at e0;subst e0;go_wp2_with fail;go_meet;case rel=>exact⟨rfl,rfl⟩
   ·have e0:=HHM.o;rw[Int.max_eq_left E]at e0;subst e0;go_wp2_with fail;go_meet;case rel=>exact⟨rfl,rfl⟩
  case rest=>
   obtain⟨rfl,rfl⟩:=hcut;go_wp2_with fail;refine aE (fun w'=>w'.cell? ⟨qa,3,none⟩=some (.int .i64 a.n)∧w'.cell? ⟨qa,4,none⟩=some (.int .i64 a.ones)∧w'.cell? ⟨qb,3,none⟩=some (.int .i64 b.n)∧w'.cell? ⟨qb,4,none⟩=some (.int .i64 b.ones)) Ek ?hif (fun hh=>?_);case hif=>(refine⟨?_,?_,?_,?_⟩<;>go_simp)
   refine rt 0 hh ?_;refine rt 1 hh ?_;refine rt 2 hh ?_;refine rt 3 hh ?_;refine rt 4 hh ?_;refine rt 5 hh ?_;refine rt 6 hh ?_;refine rt 7 hh ?_;refine rt 8 hh ?_;refine rt 9 hh ?_;refine rt 10 hh ?_;refine rt 11 hh ?_;refine rt 12 hh ?_;refine rt 13 hh ?_;refine rg 14 fun κ hK=>?_;go_simp;refine hK.out _ _ ?kpf14 (fun hNew=>?_);case kpf14=>(refine⟨?_,?_,?_,?_⟩<;>go_simp)
   clear hK κ hh;have hh:=hNew;clear hNew;try simp only[pt]
   refine rt 15 hh ?_;refine rt 16 hh ?_;refine rg 17 fun κ hK=>?_;go_simp;refine hK.out _ _ ?kpf17 (fun hNew=>?_);case kpf17=>(refine⟨?_,?_,?_,?_⟩<;>go_simp)
   clear hK κ hh;have hh:=hNew;clear hNew;try simp only[pt]
   refine rz ?_;go_wp2_with fail;refine aE (fun w'=>w'.cell? ⟨qa,3,none⟩=some (.int .i64 a.n)∧w'.cell? ⟨qa,4,none⟩=some (.int .i64 a.ones)∧w'.cell? ⟨qb,3,none⟩=some (.int .i64 b.n)∧w'.cell? ⟨qb,4,none⟩=some (.int .i64 b.ones)) Ek ?his (fun hh=>?_);case his=>(refine⟨?_,?_,?_,?_⟩<;>go_simp)
   refine rt 0 hh ?_;refine rt 1 hh ?_;refine rt 2 hh ?_;refine rt 3 hh ?_;refine rt 4 hh ?_;refine rt 5 hh ?_;refine rt 6 hh ?_;refine rt 7 hh ?_;refine rg 8 fun κ hK=>?_;go_simp;refine hK.out _ _ ?kps8 (fun hNew=>?_);case kps8=>(refine⟨?_,?_,?_,?_⟩<;>go_simp)
   clear hK κ hh;have hh:=hNew;clear hNew;try simp only[pt]
   refine rt 9 hh ?_;refine rt 10 hh ?_;refine rg 11 fun κ hK=>?_;go_simp;refine hK.out _ _ ?kps11 (fun hNew=>?_);case kps11=>(refine⟨?_,?_,?_,?_⟩<;>go_simp)
   clear hK κ hh;have hh:=hNew;clear hNew;try simp only[pt]
   refine rz ?_;go_wp2_with fail;go_end0;rw[←HHM.o];rw[HWN.o,HWO.o];exact⟨rfl,HP1.o.drew.drew,((Chg.of_below HC.o).trans HP2.o (fun _ h=>Ei h)).drew.drew⟩
end
end Go.Proofs.YtchinbgemenenaaGreatDoor
