/- Lemmas and contracts under the claims of this seat. No condition. -/
import Derived.Deep.DeepCutAuto
import Derived.Deep.CutBlock
import Derived.Deep.CutRange
import Derived.Test.YtchinbgemenenaaGreatDoorZr1
import Derived.Test.YtchinbgemenenaaGreatDoorZr11
import Derived.Test.YtchinbgemenenaaGreatDoorZr14
namespace Go.Proofs.YtchinbgemenenaaGreatDoor
set_option linter.unusedVariables false
set_option linter.unusedSimpArgs false
set_option maxRecDepth 100000
set_option maxHeartbeats 12800000
def plS(M:Nat→Bool)(R:List Nat):List Int:=R.map fun q=>if M q=true then (q:Int)else -1
def sM(M:Nat→Bool)(x:Nat):Nat→Bool:=fun q=>decide (q=x)||M q
def upM(M:Nat→Bool)(x:Nat):Nat→Bool:=fun q=>if q<x then M q else if q=x then false else M (q-1)
def dpM(M:Nat→Bool)(x:Nat):Nat→Bool:=fun q=>if q<x then M q else M (q+1)
section
variable {M:Nat→Bool}{R:List Nat}{r q x k:Nat}
theorem jF(M:Nat→Bool)(R:List Nat):(plS M R).length=R.length:=by simp[plS]
theorem kJ(h:R[r]? =some q):gL (plS M R) r=if M q=true then (q:Int)else -1:=by
 rw[cX];unfold plS;rw[ar6,h];rfl
theorem xA{v:Int}{r:Int}(h:gL (plS M R) r=v)(h0:0≤v):∃(a:Nat) (q:Nat),r=a∧v=q∧R[a]? =some q∧M q=true:=by
 obtain⟨a,rfl,ha⟩:=yG (L:=plS M R) (r:=r) E;rw[jF]at ha;have hq:=ar3 ha;rw[kJ hq]at h;by_cases hm:M R[a]=true
 ·rw[aH9 hm]at h;exact⟨a,_,rfl,h.symm,hq,hm⟩
 ·rw[aH8 hm]at h;omega
theorem aL_no9{L:List Int}{x:Int}(h:∀r,gL L r≠x):aL L x= -1:=by
 rcases pK L x with ⟨i,_,_,h3,_⟩ | ⟨h1,_⟩
 ·exact absurd h3 (h _)
 ·exact h1
theorem Bm{R:List Nat}(hn:R.Nodup){a b p:Nat}(ha:R[a]? =some p)(hb:R[b]? =some p):a=b:=by
 obtain⟨h1,e1⟩:=ar5.1 ha;obtain⟨h2,e2⟩:=ar5.1 hb;have hnd:=ay2.1 hn;rcases aB1 a b with hc | hc | hc
 ·exact absurd (e1.trans e2.symm) (hnd a b h1 h2 hc)
 ·exact hc
 ·exact absurd (e2.trans e1.symm) (hnd b a h2 h1 hc)
theorem Dg(hn:R.Nodup)(h:R[r]? =some q):aL (plS M R) q=if M q=true then (r:Int)else -1:=by
 by_cases hm:M q=true
 ·rw[aH9 hm];rcases pK (plS M R) q with ⟨i,h1,_,h3,_⟩ | ⟨_,h2⟩
  ·obtain⟨a,q',e1,e2,h4,_⟩:=xA h3 E;have :q'=q:=E;subst this;have :=Bm hn h4 h;omega
  ·exact absurd (by rw[kJ h,aH9 hm]) (h2 E r)
 ·rw[aH8 hm];refine aL_no9 (fun r' hr=>?_);obtain⟨a,q',e1,e2,h4,h5⟩:=xA hr E;have :q'=q:=E;subst this;exact hm h5
def IsNx(M:Nat→Bool)(n:Nat)(x v:Int):Prop:=
 (v= -1∧∀q:Nat,q<n→x≤q→M q=false)∨∃q:Nat,v=q∧q<n∧x≤q∧M q=true∧∀j:Nat,j<q→x≤j→M j=false
theorem pE(x:Int):∀(l:List (Int×Int)) (b:Int),(∀y∈l,0≤y.2)→
  (l.foldl (fun b y=>kU x b y.2) b=b∧∀z∈l,¬(x≤z.2∧(b<0∨z.2<b)))∨(∃y∈l,l.foldl (fun b y=>kU x b y.2) b=y.2∧x≤y.2∧(b<0∨y.2<b)∧∀z∈l,x≤z.2→y.2≤z.2)
 | [],b,_=>Ei ⟨rfl,fun z hz=>by simp at hz⟩
 | a::l,b,hl0=>by
  have hl:∀y∈l,0≤y.2:=fun y hy=>hl0 y (List.mem_cons_of_mem _ hy);have ha:=hl0 a ax0;show (l.foldl _ (kU x b a.2)=b∧_)∨(∃y∈a::l,l.foldl _ (kU x b a.2)=y.2∧_);by_cases hc:x≤a.2∧(b<0∨a.2<b)
  ·have e:kU x b a.2=a.2:=aH9 hc;rw[e];rcases pE x l a.2 hl with ⟨h1,h2⟩ | ⟨y,hy,h1,h2,h3,h4⟩
   ·refine Ej ⟨a,Es,h1,hc.1,hc.2,fun z hz hxz=>?_⟩;rcases av9.1 hz with rfl | hz
    ·exact Int.le_refl _
    ·by_cases q:a.2≤z.2
     ·exact q
     ·exact absurd ⟨hxz,Ej E⟩ (h2 z hz)
   ·have hlt:y.2<a.2:=E;refine Ej ⟨y,by simp[hy],h1,h2,?_,fun z hz hxz=>?_⟩
    ·rcases hc.2 with q | q
     ·exact Ei q
     ·exact Ej E
    ·rcases av9.1 hz with rfl | hz
     ·omega
     ·exact h4 z hz hxz
  ·have e:kU x b a.2=b:=aH8 hc;rw[e];rcases pE x l b hl with ⟨h1,h2⟩ | ⟨y,hy,h1,h2,h3,h4⟩
   ·refine Ei ⟨h1,fun z hz=>?_⟩;rcases av9.1 hz with rfl | hz
    ·exact hc
    ·exact h2 z hz
   ·refine Ej ⟨y,by simp[hy],h1,h2,h3,fun z hz hxz=>?_⟩;rcases av9.1 hz with rfl | hz
    ·have :=hl y hy;by_cases q:y.2≤z.2
     ·exact q
     ·exact absurd ⟨hxz,E⟩ hc
    ·exact h4 z hz hxz
theorem zY(L:List Int)(y:Int×Int):y∈prL 0 L↔gL L y.1=y.2∧0≤y.2:=by
 obtain⟨r,p⟩:=y;rw[mM];constructor
 ·rintro⟨j,h1,h2,h3⟩;refine⟨?_,h3⟩;show gL L r=p;rw[h1,aC7,cX,h2];rfl
 ·rintro⟨h1,h2⟩;have h1:gL L r=p:=h1;have h2:0≤p:=h2;obtain⟨i,rfl,hi⟩:=yG (L:=L) (r:=r) E;rw[cX,ar3 hi]at h1;exact⟨i,E,by rw[ar3 hi];exact aG8 _ h1,h2⟩
theorem vW{n:Nat}(hp:R.Perm (List.range n))(x:Int):IsNx M n x (fE x (prL 0 (plS M R))):=by
 have hin:∀q:Nat,q<n→M q=true→∃a:Nat,((a:Int),(q:Int))∈prL 0 (plS M R):=by
  intro q hq hm;obtain⟨a,ha,e⟩:=as4 (hp.mem_iff.2 (ax4.2 hq));refine⟨a,(zY _ _).2 ⟨?_,Int.natCast_nonneg q⟩⟩;show gL (plS M R) a=q;rw[kJ (by rw[ar3 ha,e]),aH9 hm]
 have hfr:∀j:Nat,j<n→(∀z∈prL 0 (plS M R),z.2≠(j:Int))→M j=false:=by
  intro j hj hz;cases hm:M j with
  | false=>rfl
  | true=>obtain⟨a,ha⟩:=hin j hj hm;exact absurd rfl (hz _ ha)
 rcases pE x (prL 0 (plS M R)) (-1) (fun y hy=>((zY _ y).1 hy).2)with ⟨h1,h2⟩ | ⟨y,hy,h1,h2,h3,h4⟩
 ·refine Ei ⟨h1,fun q hq hx=>hfr q hq (fun z hz e=>h2 z hz ⟨E,Ei E⟩)⟩
 ·obtain⟨q1,q2⟩:=(zY _ y).1 hy;obtain⟨a,q,e1,e2,h5,h6⟩:=xA q1 q2;have hqn:q<n:=ax4.1 (hp.mem_iff.1 (ax2 h5));refine Ej ⟨q,by show fE x _=_;rw[←e2];exact h1,hqn,E,h6,fun j hj hxj=>hfr j E (fun z hz e=>?_)⟩;have :=h4 z hz E;omega
theorem Lg{α:Type}(l:List α)(k:Nat):dB l k=aB l k:=rfl
theorem Km{α:Type}(l:List α)(k:Nat)(x:α):bY l k x=inL l k x:=rfl
theorem Sk(M:Nat→Bool)(R:List Nat)(k q:Nat):plS M (inL R k q)=inL (plS M R) k (if M q=true then (q:Int)else -1):=pR _ _ _ _
theorem Lj(M:Nat→Bool)(R:List Nat)(k:Nat):plS M (aB R k)=aB (plS M R) k:=qU _ _ _
theorem Fg{a t q:Nat}(ha:R[a]? =some q)(ht:t<R.length):oS (plS M R) a t=plS M (inL (aB R a) t q)∧okC (dC (plS M R) a&&dC (plS M R) t)=0:=by
 have hal:=(ar5.1 ha).1;have hb:(dC (plS M R) (a:Int)&&dC (plS M R) (t:Int))=true:=by
  unfold dC;rw[jF];simp;omega
 constructor
 ·unfold oS mvL;rw[hb,aH9 rfl,ao2,ao2,Lg,Km,Sk,Lj,kJ ha]
 ·rw[hb];rfl
theorem So{row:Nat}(h:row≤R.length):oC (plS M R) row=inL (plS M R) row (-1)∧okC (iI (plS M R) row)=0:=by
 have hb:iI (plS M R) (row:Int)=true:=by unfold iI;rw[jF];simp;omega
 constructor
 ·unfold oC;rw[hb,aH9 rfl,ao2,Km]
 ·rw[hb];rfl
theorem Sl{row at_ n:Nat}(h:at_≤n):mX (inL (plS M R) row (-1)) n at_=plS (upM M at_) (inL (R.map (upN at_)) row at_)∧okC (gO n at_)=0∧mY n at_=n+1:=by
 have hb:gO n (at_:Int)=true:=by unfold gO;simp;omega
 refine⟨?_,by rw[hb];rfl,by unfold mY;rw[hb,aH9 rfl]⟩;unfold mX;rw[hb,aH9 rfl,Sk,pR];have e1:upM M at_ at_=false:=by unfold upM;rw[aH8 E,aH9 rfl]
 rw[e1,aH8 Es];have e2:upP (at_:Int) (-1)= -1:=by unfold upP;rw[aH8 E]
 rw[e2];congr 1;unfold plS;rw[av0,av0];apply at7;intro q _;have e3:upM M at_ (upN at_ q)=M q∧(upN at_ q:Int)=if q<at_ then (q:Int)else q+1:=by
  unfold upM upN;by_cases hq:q<at_
  ·simp only[aH9 hq];exact⟨trivial,trivial⟩
  ·simp only[aH8 hq];rw[aH8 E,aH8 E,az9];exact⟨rfl,E⟩
 show upP (at_:Int) (if M q=true then (q:Int)else -1)=if upM M at_ (upN at_ q)=true then (upN at_ q:Int)else -1
 rw[e3.1,e3.2];cases M q
 ·exact e2
 ·show upP (at_:Int) (q:Int)=if q<at_ then (q:Int)else q+1
  unfold upP;by_cases hq:q<at_
  ·rw[aH9 hq,aH8 E]
  ·rw[aH8 hq,aH9 E]
theorem Nf{k:Nat}(h:k<R.length):jG (plS M R) k=plS M (aB R k)∧okC (dC (plS M R) k)=0:=by
 have hb:dC (plS M R) (k:Int)=true:=by unfold dC;rw[jF];simp;omega
 constructor
 ·unfold jG;rw[hb,aH9 rfl,ao2,Lg,Lj]
 ·rw[hb];rfl
theorem Nc{at_ n:Nat}(h:at_<n)(hno:at_∉R):kK (plS M R) n at_=plS (dpM M at_) (R.map (dpN at_))∧okC (mW n at_)=0∧kL n at_=n-1:=by
 have hb:mW n (at_:Int)=true:=by unfold mW;simp;omega
 refine⟨?_,by rw[hb];rfl,by unfold kL;rw[hb,aH9 rfl]⟩;unfold kK;rw[hb,aH9 rfl];unfold plS;rw[av0,av0];apply at7;intro q hq;have hne:q≠at_:=fun e=>hno (e▸hq);have e3:dpM M at_ (dpN at_ q)=M q∧(dpN at_ q:Int)=if q<at_ then (q:Int)else q-1:=by
  unfold dpM dpN;by_cases hq:q<at_
  ·simp only[aH9 hq];exact⟨trivial,trivial⟩
  ·simp only[aH8 hq];rw[aH8 E,show q-1+1=q by omega];exact⟨rfl,E⟩
 show lQ (at_:Int) (if M q=true then (q:Int)else -1)=if dpM M at_ (dpN at_ q)=true then (dpN at_ q:Int)else -1
 rw[e3.1,e3.2];cases M q
 ·show lQ (at_:Int) (-1)= -1;unfold lQ;rw[aH8 E,aH8 E]
 ·show lQ (at_:Int) (q:Int)=if q<at_ then (q:Int)else q-1
  unfold lQ;by_cases hq:q<at_
  ·rw[aH9 hq,aH8 E,aH8 E]
  ·rw[aH8 hq,aH8 E,aH9 E]
theorem Li{n:Nat}(hp:R.Perm (List.range n))(hr:R[r]? =some q):fQ (plS M R) n r q=plS (sM M q) R∧(∃code,fA (plS M R) n r q=code):=by
 have hn:R.Nodup:=hp.nodup_iff.2 ax9;have hqn:q<n:=ax4.1 (hp.mem_iff.1 (ax2 hr));have hrl:=(ar5.1 hr).1;refine⟨?_,_,rfl⟩;have hc:fA (plS M R) n r q=if M q=true then 1 else 0:=by
  unfold fA;rw[jF,aH9 E,kJ hr,Dg hn hr];by_cases hm:M q=true
  ·simp only[hm,aI0];rw[aH9 E]
  ·simp only[hm,aH7];rw[aH8 Es];rfl
 unfold fQ;rw[hc];by_cases hm:M q=true
 ·simp only[hm,aI0];rw[aH8 E];unfold plS;apply at7;intro x _;unfold sM;by_cases e:x=q
  ·subst e;simp[hm]
  ·simp[e]
 ·rw[aH8 hm,aH9 rfl,ao2];apply aq3;intro j;rw[ar8,jF];unfold plS;rw[ar6,ar6];by_cases e:r=j
  ·subst e;rw[aH9 rfl,aH9 hrl,hr];simp[sM]
  ·rw[aH8 e];rcases hj:R[j]? with _ | y
   ·rfl
   ·have :y≠q:=fun e2=>e (Bm hn hr (e2▸hj));simp[sM,this]
end
def oZ(M:Nat→Bool)(n rate:Nat):Prop:=M 0=true∧∀s,s+rate≤n→∃j,j<rate∧M (s+j)=true
section
variable {M:Nat→Bool}{n rate at_ q x:Nat}
theorem Zm(hr:1≤rate):oZ (fun q=>decide (q%rate=0)) n rate:=by
 refine⟨Es,fun s _=>⟨(rate-s%rate)%rate,aB4 _ E,?_⟩⟩;have h1:=aB4 s (show 0<rate by omega);have h2:=Nat.div_add_mod s rate;simp only[aH2];rcases aA2 (s%rate)with h | h
 ·rw[h,Nat.sub_zero,Nat.mod_self,aA0,h]
 ·rw[aB3 (show rate-s%rate<rate by omega)];have :s+(rate-s%rate)=rate*(s/rate+1):=by rw[Nat.mul_add];omega
  rw[this,Nat.mul_mod_right]
def pC(M:Nat→Bool)(n rate q:Nat):Prop:=(q<n→M q=true)∧∀s,s<q→s+rate≤n→∃j,j<rate∧M (s+j)=true
def qF(M:Nat→Bool)(n rate at_:Nat):Prop:=(∀s,s+rate≤at_→s+rate≤n→∃j,j<rate∧M (s+j)=true)∧∀s,at_<s→s+rate≤n→∃j,j<rate∧M (s+j)=true
theorem ad8(h:oZ M n rate)(hat:at_≤n):qF (upM M at_) (n+1) rate at_:=by
 refine⟨fun s h1 h2=>?_,fun s h1 h2=>?_⟩
 ·obtain⟨j,hj,hm⟩:=h.2 s E;exact⟨j,hj,by unfold upM;rw[aH9 E];exact hm⟩
 ·obtain⟨j,hj,hm⟩:=h.2 (s-1) E;exact⟨j,hj,by unfold upM;rw[aH8 E,aH8 E,show s+j-1=s-1+j by omega];exact hm⟩
theorem Wj(h:oZ M (n+1) rate):qF (dpM M at_) n rate at_:=by
 refine⟨fun s h1 h2=>?_,fun s h1 h2=>?_⟩
 ·obtain⟨j,hj,hm⟩:=h.2 s E;exact⟨j,hj,by unfold dpM;rw[aH9 E];exact hm⟩
 ·obtain⟨j,hj,hm⟩:=h.2 (s+1) E;exact⟨j,hj,by unfold dpM;rw[aH8 E,show s+j+1=s+1+j by omega];exact hm⟩
theorem Ef(h:qF M n rate at_):qF (sM M x) n rate at_:=by
 refine⟨fun s h1 h2=>?_,fun s h1 h2=>?_⟩
 ·obtain⟨j,hj,hm⟩:=h.1 s h1 h2;exact⟨j,hj,by unfold sM;simp[hm]⟩
 ·obtain⟨j,hj,hm⟩:=h.2 s h1 h2;exact⟨j,hj,by unfold sM;simp[hm]⟩
theorem Mf(h:qF M n rate at_)(h0:M 0=true)(hn:at_≤n)(hn0:0<n)(hr:1≤rate){v:Int}(hv:IsNx M n (max ((at_:Int)-2*rate) 0) v):∃q:Nat,v=q∧q<n∧q≤at_∧pC M n rate q:=by
 by_cases hb:at_≤2*rate
 ·have e:max ((at_:Int)-2*rate) 0=0:=E;rw[e]at hv;rcases hv with ⟨_,h2⟩ | ⟨q,rfl,h2,h3,h4,h5⟩
  ·have :=h2 0 hn0 (E);rw[h0]at this;cases this
  ·have hq:q=0:=by
    rcases aA2 q with e | e
    ·exact e
    ·have :=h5 0 e (E);rw[h0]at this;cases this
   subst hq;exact⟨0,rfl,h2,E,fun _=>h0,fun s hs=>E⟩
 ·obtain⟨b,hbe⟩:∃b:Nat,max ((at_:Int)-2*rate) 0=b:=⟨at_-2*rate,E⟩;rw[hbe]at hv;obtain⟨j,hj,hm⟩:=h.1 b E E;rcases hv with ⟨_,h2⟩ | ⟨q,rfl,h2,h3,h4,h5⟩
  ·have :=h2 (b+j) E (E);rw[hm]at this;cases this
  ·have hq:q≤b+j:=by
    rcases aB0 (b+j) q with e | e
    ·have :=h5 (b+j) e (E);rw[hm]at this;cases this
    ·exact e
   exact⟨q,rfl,h2,E,fun _=>h4,fun s hs h6=>h.1 s E h6⟩
theorem Ay(h:pC M n rate q)(hr:1≤rate){v:Nat}(hq:q<v)(hle:v≤q+rate)(hv:v<n→M v=true)(hvn:v≤n):pC M n rate v:=by
 refine⟨hv,fun s hs h6=>?_⟩;rcases aB0 s q with h1 | h1
 ·exact h.2 s h1 h6
 ·rcases aB0 v n with h2 | h2
  ·rcases aB0 q s with h3 | h3
   ·exact⟨v-s,E,by rw[show s+(v-s)=v by omega];exact hv h2⟩
   ·obtain rfl:s=q:=E;exact⟨0,E,by rw[aA0];exact h.1 E⟩
  ·rcases aB0 q s with h3 | h3
   ·omega
   ·obtain rfl:s=q:=E;exact⟨0,E,by rw[aA0];exact h.1 E⟩
theorem Wg(h:pC M n rate q)(x:Nat):pC (sM M x) n rate q:=
 ⟨fun hq=>by unfold sM;simp[h.1 hq],fun s hs h6=>by obtain⟨j,hj,hm⟩:=h.2 s hs h6;exact⟨j,hj,by unfold sM;simp[hm]⟩⟩
theorem Qr(h:pC M n rate q)(hh:qF M n rate at_)(h0:M 0=true)(hq:n≤q∨at_+rate<q)(hr:1≤rate):oZ M n rate:=by
 refine⟨h0,fun s h6=>?_⟩;rcases aB0 s q with h1 | h1
 ·exact h.2 s h1 h6
 ·rcases hq with hq | hq
  ·omega
  ·exact hh.2 s E h6
end
section
open Go.RowKit
theorem lvIn(row came:Nat)(h:row≤1000000)(w:World):Calls Tryz.prog 115 #[.int .i64 row, .int .i64 came] w fun e w'=>e= .returned (.int .i64 (inR row came))∧w=w':=by
 unfold inR;by_cases hc:came≤row
 ·have d:decide ((came:Int)≤(row:Int))=true:=aH1 E;have d2:decide (came≤row)=true:=aH1 hc;rw[aH9 hc];go_enter Tryz.func115,Tryz.ntmps115;go_wp2_with fail;go_ret;exact⟨rfl,rfl⟩
 ·have d:decide ((came:Int)≤(row:Int))=false:=aG9 E;have d2:decide (came≤row)=false:=aG9 hc;rw[aH8 hc];go_enter Tryz.func115,Tryz.ntmps115;go_wp2_with fail;go_ret;exact⟨rfl,rfl⟩
theorem Da(row gone:Nat)(h:row≤1000000)(w:World):Calls Tryz.prog 109 #[.int .i64 row, .int .i64 gone] w fun e w'=>e= .returned (.int .i64 (bH row gone))∧w=w':=by
 unfold bH;by_cases hc:gone<row
 ·have d:decide ((gone:Int)<(row:Int))=true:=aH1 E;have d2:decide (gone<row)=true:=aH1 hc;rw[aH9 hc];have hw:IntKind.i64.wrap ((row:Int)-1)=((row-1:Nat):Int):=by rw[ao4 _ E];omega
  go_enter Tryz.func109,Tryz.ntmps109;go_wp2_with fail;go_ret;first
   | exact⟨rfl,rfl⟩
   | exact⟨aT E,rfl⟩
 ·have d:decide ((gone:Int)<(row:Int))=false:=aG9 E;have d2:decide (gone<row)=false:=aG9 hc;rw[aH8 hc];go_enter Tryz.func109,Tryz.ntmps109;go_wp2_with fail;go_ret;exact⟨rfl,rfl⟩
theorem Wx(next cur a:Nat)(h:next≤4000000)(hp:cur<a→0<next)(w:World):Calls Tryz.prog 168 #[.int .i64 next, .int .i64 cur, .int .i64 a] w fun e w'=>e= .returned (.int .i64 (pL next cur a))∧w=w':=by
 unfold pL;by_cases hc:cur<a
 ·have d:decide ((cur:Int)<(a:Int))=true:=aH1 E;have d2:decide (cur<a)=true:=aH1 hc;simp only[aH9 hc];obtain⟨r,rfl⟩:∃r,next=r+1:=⟨next-1,by have :=hp hc;omega⟩;have hw:IntKind.i64.wrap (((r+1:Nat):Int)-1)=r:=by rw[ao4 _ E];omega
  rw[az9];have hr:r≤4000000:=E;obtain⟨y,hy⟩:∃y,r+1=y:=⟨_,rfl⟩;have hw2:IntKind.i64.wrap ((r:Int)+1)=((r+1:Nat):Int):=by rw[ao4 _ E];omega
  by_cases hd:a≤r
  ·have d3:decide ((a:Int)≤(r:Int))=true:=aH1 E;have d4:decide (a≤r)=true:=aH1 hd;rw[aH9 hd];rw[hy]at hw h⊢;have HW:=θ hw2;clear hw2 hp hc hd;go_enter Tryz.func168,Tryz.ntmps168;go_wp2_with fail;go_ret;exact⟨by first | rfl | (rw[←hy];first | rfl | simp[HW.o]),rfl⟩
  ·have d3:decide ((a:Int)≤(r:Int))=false:=aG9 E;have d4:decide (a≤r)=false:=aG9 hd;rw[aH8 hd];rw[hy]at hw h⊢;clear hw2 hp hc hd;go_enter Tryz.func168,Tryz.ntmps168;go_wp2_with fail;go_ret;exact⟨rfl,rfl⟩
 ·have d:decide ((cur:Int)<(a:Int))=false:=aG9 E;have d2:decide (cur<a)=false:=aG9 hc;simp only[aH8 hc];by_cases hd:a≤next
  ·have d3:decide ((a:Int)≤(next:Int))=true:=aH1 E;have d4:decide (a≤next)=true:=aH1 hd;rw[aH9 hd];clear hp hc hd;go_enter Tryz.func168,Tryz.ntmps168;go_wp2_with fail;go_ret;exact⟨rfl,rfl⟩
  ·have d3:decide ((a:Int)≤(next:Int))=false:=aG9 E;have d4:decide (a≤next)=false:=aG9 hd;rw[aH8 hd];clear hp hc hd;go_enter Tryz.func168,Tryz.ntmps168;go_wp2_with fail;go_ret;exact⟨rfl,rfl⟩
section
variable {B:Nat}{X:Nat→Prop}{w:World}{p pk pp:Nat}{rate mv:Int}{L:List Nat}{T:Tl}{c:Nat}{PL:List Int}{N:Nat}
theorem Cz(h:LvE B X w p pk pp rate mv L T c PL N){n:Nat}(hn:L.length=n+1)(hm:n≤1000000):Calls Tryz.prog 24 #[.pointer (some ⟨p,0,none⟩)] w fun e w'=>e= .returned (.int .i64 n)∧w=w':=by
 obtain⟨Y,Z,h⟩:=h;obtain⟨c0,c1,c2,c3,c4⟩:=h.cells;have hl:=Pf h.k;rw[hn]at hl;have HL:=θ hl;have hw:IntKind.i64.wrap (((n+1:Nat):Int)-1)=n:=by rw[ao4 _ E];omega
 clear h c1 c2 c3 c4 hl hn;obtain⟨y,hy⟩:∃y,n+1=y:=⟨_,rfl⟩;rw[hy]at *;clear hy;go_enter Tryz.func24,Tryz.ntmps24;go_wp2_with fail;refine HL.o.mono ?_;rintro e w' ⟨rfl,rfl⟩;go_wp2_with fail;go_ret;exact⟨rfl,rfl⟩
theorem lvTo(h:LvE B X w p pk pp rate mv L T c PL N){i s:Nat}(hs:L[i]? =some s)(hn:L.length≤1000000):Calls Tryz.prog 112 #[.pointer (some ⟨p,0,none⟩), .int .i64 i] w fun e w'=>e= .returned (.int .i64 (bR T s+aV L i s))∧LvE B X w' p pk pp rate mv L T c PL N∧Chg (exT B X) w w':=by
 obtain⟨Y,Z,h⟩:=h;obtain⟨c0,c1,c2,c3,c4⟩:=h.cells;have HB:=θ (rM h.k hs hn);have H:=θ h;clear h c1 c2 c3 c4 hs;go_enter Tryz.func112,Tryz.ntmps112;go_wp2_with fail;refine HB.o.mono ?_;rintro e w' ⟨rfl,hk,hc⟩;have HS:=θ (H.o.stepK hk hc);clear hk hc;go_wp2_with fail;go_ret;exact⟨rfl,HS.o.1,HS.o.2⟩
theorem Wt(w:World)(i:Int)(p:Nat):Calls Tryz.prog 101 #[.pointer (some ⟨p,0,none⟩), .int .i64 0, .int .i64 i] w fun e w'=>e= .returned (.int .i64 (-1))∧w=w':=by
 go_enter Tryz.func101,Tryz.ntmps101;go_wp2_with fail;go_ret;exact⟨rfl,rfl⟩
theorem af0(h:LvE B X w p pk pp rate mv L T c PL N){i s:Nat}{x:Int}(hx:(x==0)=false)(hs:L[i]? =some s)(hn:L.length≤1000000):Calls Tryz.prog 101 #[.pointer (some ⟨p,0,none⟩), .int .i64 x, .int .i64 i] w fun e w'=>e= .returned (.int .i64 (bR T s+aV L i s))∧LvE B X w' p pk pp rate mv L T c PL N∧Chg (exT B X) w w':=by
 obtain⟨Y,Z,h⟩:=h;obtain⟨c0,c1,c2,c3,c4⟩:=h.cells;have HB:=θ (rM h.k hs hn);have H:=θ h;clear h c1 c2 c3 c4 hs;go_enter Tryz.func101,Tryz.ntmps101;go_wp2_with fail;refine HB.o.mono ?_;rintro e w' ⟨rfl,hk,hc⟩;have HS:=θ (H.o.stepK hk hc);clear hk hc;go_wp2_with fail;go_ret;exact⟨rfl,HS.o.1,HS.o.2⟩
theorem qT(h:LvE B X w p pk pp rate mv L T c PL N)(at_ last:Int)(h0:0≤at_)(h1:at_≤last):Calls Tryz.prog 100 #[.pointer (some ⟨p,0,none⟩), .int .i64 at_, .int .i64 last] w fun e w'=>e= .returned (.int .i64 0)∧LvE B X w' p pk pp rate 0 L T c PL N∧Chg (exT B X) w w':=by
 obtain⟨Y,Z,h⟩:=h;obtain⟨c0,c1,c2,c3,c4⟩:=h.cells;have HS:=θ (h.setM 0);have d:decide (at_<0)=false:=aG9 E;have d2:decide (last<at_)=false:=aG9 E;clear h c0 c1 c2 h0 h1;go_enter Tryz.func100,Tryz.ntmps100;go_wp2_with fail;go_ret;exact⟨rfl,⟨Y,Z,HS.o.1⟩,HS.o.2⟩
end
section
variable {B:Nat}{X:Nat→Prop}{w:World}{p pk pp:Nat}{rate mv:Int}{L:List Nat}{T:Tl}{c:Nat}{PL:List Int}{N:Nat}
theorem qBack(h:LvE B X w p pk pp rate mv L T c PL N){i s:Nat}(hs:L[i]? =some s)(hn:L.length≤1000000):w.cell? ⟨p,0,none⟩=some (.pointer (some ⟨pk,0,none⟩))∧
  Calls Tryz.prog 121 #[.pointer (some ⟨pk,0,none⟩), .int .i64 i] w fun e w'=>e= .returned (.int .i64 (bR T s+aV L i s))∧LvE B X w' p pk pp rate mv L T c PL N∧Chg (exT B X) w w':=by
 obtain⟨Y,Z,h⟩:=h;refine⟨h.cells.1,(rM h.k hs hn).mono ?_⟩;rintro e w' ⟨rfl,hk,hc⟩;exact⟨rfl,h.stepK hk hc⟩
theorem qPut(h:LvE B X w p pk pp rate mv L T c PL N){k s:Nat}(hk:k≤L.length)(hs:s<257)(hn:L.length≤1000000):w.cell? ⟨p,0,none⟩=some (.pointer (some ⟨pk,0,none⟩))∧
  Calls Tryz.prog 113 #[.pointer (some ⟨pk,0,none⟩), .int .i64 k, .int .i64 s] w fun e w'=>e= .returned (.tuple #[])∧LvE B X w' p pk pp rate mv (inL L k s) T c PL N∧Chg (exT B X) w w':=by
 obtain⟨Y,Z,h⟩:=h;refine⟨h.cells.1,(wkPut h.k hn hk hs).mono ?_⟩;rintro e w' ⟨rfl,hk,hc⟩;exact⟨rfl,h.stepK hk hc⟩
theorem qCut(h:LvE B X w p pk pp rate mv L T c PL N){k s:Nat}(hk:L[k]? =some s)(hn:L.length≤1000000):w.cell? ⟨p,0,none⟩=some (.pointer (some ⟨pk,0,none⟩))∧
  Calls Tryz.prog 104 #[.pointer (some ⟨pk,0,none⟩), .int .i64 k] w fun e w'=>e= .returned (.int .i64 s)∧LvE B X w' p pk pp rate mv (aB L k) T c PL N∧Chg (exT B X) w w':=by
 obtain⟨Y,Z,h⟩:=h;refine⟨h.cells.1,(wkCut h.k hn hk).mono ?_⟩;rintro e w' ⟨rfl,hk,hc⟩;exact⟨rfl,h.stepK hk hc⟩
theorem Aa(h:LvE B X w p pk pp rate mv L T c PL N){k s:Nat}(hk:k<L.length)(hs:s<257)(hn:L.length≤1000000):w.cell? ⟨p,0,none⟩=some (.pointer (some ⟨pk,0,none⟩))∧
  Calls Tryz.prog 103 #[.pointer (some ⟨pk,0,none⟩), .int .i64 k, .int .i64 s] w fun e w'=>e= .returned (.tuple #[])∧LvE B X w' p pk pp rate mv (L.set k s) T c PL N∧Chg (exT B X) w w':=by
 obtain⟨Y,Z,h⟩:=h;refine⟨h.cells.1,(ac0 h.k hn hk hs).mono ?_⟩;rintro e w' ⟨rfl,hk,hc⟩;exact⟨rfl,h.stepK hk hc⟩
theorem yT(h:LvE B X w p pk pp rate mv L T c PL N){s:Nat}{n:Int}(hs:s<257)(h1: -T.N s≤n)(h2:n≤2147483648-T.all):w.cell? ⟨p,0,none⟩=some (.pointer (some ⟨pk,0,none⟩))∧
  Calls Tryz.prog 105 #[.pointer (some ⟨pk,0,none⟩), .int .i64 s, .int .i64 n] w fun e w'=>e= .returned (.tuple #[])∧LvE B X w' p pk pp rate mv L (T.add s n) c PL N∧Chg (exT B X) w w':=by
 obtain⟨Y,Z,h⟩:=h;refine⟨h.cells.1,(al3 h.k hs h1 h2).mono ?_⟩;rintro e w' ⟨rfl,hk,hc⟩;exact⟨rfl,h.stepK hk hc⟩
theorem Ab(h:LvE B X w p pk pp rate mv L T c PL N){k s:Nat}(hk:L[k]? =some s)(hn:L.length≤1000000):∃pw,w.cell? ⟨p,0,none⟩=some (.pointer (some ⟨pk,0,none⟩))∧w.cell? ⟨pk,0,none⟩=some (.pointer (some ⟨pw,0,none⟩))∧
  Calls Tryz.prog 102 #[.pointer (some ⟨pw,0,none⟩), .int .i64 k] w fun e w'=>e= .returned (.tuple #[.int .i64 s, .int .i64 0])∧LvE B X w' p pk pp rate mv L T c PL N∧Chg (exT B X) w w':=by
 obtain⟨Y,Z,h⟩:=h;obtain⟨pw,h0,hg⟩:=wkGetQ h.k hn hk;refine⟨pw,h.cells.1,h0,hg.mono ?_⟩;rintro e w' ⟨rfl,hk,hc⟩;exact⟨rfl,h.stepK hk hc⟩
theorem qOn(h:LvE B X w p pk pp rate mv L T c PL N)(hTab:BitTab w)(htl:0<B){i s:Nat}(hi:i<L.length)(hs:s<257)(hwh:IsWhich T i s)(hn:L.length≤1000000):w.cell? ⟨p,0,none⟩=some (.pointer (some ⟨pk,0,none⟩))∧
  Calls Tryz.prog 60 #[.pointer (some ⟨pk,0,none⟩), .int .i64 i] w fun e w'=>e= .returned (.int .i64 (iV L ((i:Int)-bR T s) s))∧LvE B X w' p pk pp rate mv L T c PL N∧Chg (exT B X) w w':=by
 obtain⟨Y,Z,h⟩:=h;refine⟨h.cells.1,(ac2 h.k hTab htl hi hs hwh hn).mono ?_⟩;rintro e w' ⟨rfl,hk,hc⟩;exact⟨rfl,h.stepK hk hc⟩
theorem Ng(h:LvE B X w p pk pp rate mv L T c PL N)(x:Int):w.cell? ⟨p,1,none⟩=some (.pointer (some ⟨pp,0,none⟩))∧
  Calls Tryz.prog 119 #[.pointer (some ⟨pp,0,none⟩), .int .i64 x] w fun e w'=>e= .returned (.int .i64 (fE x (prL 0 PL)))∧LvE B X w' p pk pp rate mv L T c PL N∧Chg (exT B X) w w':=by
 obtain⟨Y,Z,h⟩:=h;refine⟨h.cells.2.1,(next_e h.q rfl).mono ?_⟩;rintro e w' ⟨rfl,hk,hc⟩;exact⟨rfl,h.stepQ hk hc⟩
theorem qRow(h:LvE B X w p pk pp rate mv L T c PL N)(x:Int):w.cell? ⟨p,1,none⟩=some (.pointer (some ⟨pp,0,none⟩))∧
  Calls Tryz.prog 120 #[.pointer (some ⟨pp,0,none⟩), .int .i64 x] w fun e w'=>e= .returned (.int .i64 (aL PL x))∧LvE B X w' p pk pp rate mv L T c PL N∧Chg (exT B X) w w':=by
 obtain⟨Y,Z,h⟩:=h;refine⟨h.cells.2.1,(row_e h.q rfl).mono ?_⟩;rintro e w' ⟨rfl,hk,hc⟩;exact⟨rfl,h.stepQ hk hc⟩
theorem qPos(h:LvE B X w p pk pp rate mv L T c PL N)(x:Int):w.cell? ⟨p,1,none⟩=some (.pointer (some ⟨pp,0,none⟩))∧
  Calls Tryz.prog 129 #[.pointer (some ⟨pp,0,none⟩), .int .i64 x] w fun e w'=>e= .returned (.int .i64 (gL PL x))∧LvE B X w' p pk pp rate mv L T c PL N∧Chg (exT B X) w w':=by
 obtain⟨Y,Z,h⟩:=h;refine⟨h.cells.2.1,(pos_e h.q rfl).mono ?_⟩;rintro e w' ⟨rfl,hk,hc⟩;exact⟨rfl,h.stepQ hk hc⟩
theorem qAdd(h:LvE B X w p pk pp rate mv L T c PL N)(hc:c<1000000)(x y:Int):w.cell? ⟨p,1,none⟩=some (.pointer (some ⟨pp,0,none⟩))∧
  Calls Tryz.prog 50 #[.pointer (some ⟨pp,0,none⟩), .int .i64 x, .int .i64 y] w fun e w'=>e= .returned (.int .i64 (fA PL N x y))∧LvE B X w' p pk pp rate mv L T (c+1) (fQ PL N x y) N∧Chg (exT B X) w w':=by
 obtain⟨Y,Z,h⟩:=h;refine⟨h.cells.2.1,(add_e h.q hc rfl rfl).mono ?_⟩;rintro e w' ⟨rfl,hk,hc⟩;exact⟨rfl,h.stepQ hk hc⟩
theorem qRowIn(h:LvE B X w p pk pp rate mv L T c PL N)(x:Int)(hl:(oC PL x).length≤1000000):w.cell? ⟨p,1,none⟩=some (.pointer (some ⟨pp,0,none⟩))∧
  Calls Tryz.prog 116 #[.pointer (some ⟨pp,0,none⟩), .int .i64 x] w fun e w'=>e= .returned (.int .i64 (okC (iI PL x)))∧LvE B X w' p pk pp rate mv L T c (oC PL x) N∧Chg (exT B X) w w':=by
 obtain⟨Y,Z,h⟩:=h;refine⟨h.cells.2.1,(ai7 h.q rfl rfl hl).mono ?_⟩;rintro e w' ⟨rfl,hk,hc⟩;exact⟨rfl,h.stepQ hk hc⟩
theorem ai4(h:LvE B X w p pk pp rate mv L T c PL N)(x:Int):w.cell? ⟨p,1,none⟩=some (.pointer (some ⟨pp,0,none⟩))∧
  Calls Tryz.prog 106 #[.pointer (some ⟨pp,0,none⟩), .int .i64 x] w fun e w'=>e= .returned (.int .i64 (okC (dC PL x)))∧LvE B X w' p pk pp rate mv L T c (jG PL x) N∧Chg (exT B X) w w':=by
 obtain⟨Y,Z,h⟩:=h;refine⟨h.cells.2.1,(Zj h.q rfl rfl).mono ?_⟩;rintro e w' ⟨rfl,hk,hc⟩;exact⟨rfl,h.stepQ hk hc⟩
theorem Fo(h:LvE B X w p pk pp rate mv L T c PL N)(x y:Int):w.cell? ⟨p,1,none⟩=some (.pointer (some ⟨pp,0,none⟩))∧
  Calls Tryz.prog 114 #[.pointer (some ⟨pp,0,none⟩), .int .i64 x, .int .i64 y] w fun e w'=>e= .returned (.int .i64 (okC (dC PL x&&dC PL y)))∧LvE B X w' p pk pp rate mv L T c (oS PL x y) N∧Chg (exT B X) w w':=by
 obtain⟨Y,Z,h⟩:=h;refine⟨h.cells.2.1,(Tc h.q rfl rfl).mono ?_⟩;rintro e w' ⟨rfl,hk,hc⟩;exact⟨rfl,h.stepQ hk hc⟩
theorem qPosIn(h:LvE B X w p pk pp rate mv L T c PL N)(x:Int)(hN:mY N x≤1000000):w.cell? ⟨p,1,none⟩=some (.pointer (some ⟨pp,0,none⟩))∧
  Calls Tryz.prog 117 #[.pointer (some ⟨pp,0,none⟩), .int .i64 x] w fun e w'=>e= .returned (.int .i64 (okC (gO N x)))∧LvE B X w' p pk pp rate mv L T c (mX PL N x) (mY N x)∧Chg (exT B X) w w':=by
 obtain⟨Y,Z,h⟩:=h;refine⟨h.cells.2.1,(ag9 h.q rfl rfl rfl hN).mono ?_⟩;rintro e w' ⟨rfl,hk,hc⟩;exact⟨rfl,h.stepQ hk hc⟩
theorem ai3(h:LvE B X w p pk pp rate mv L T c PL N)(x:Int):w.cell? ⟨p,1,none⟩=some (.pointer (some ⟨pp,0,none⟩))∧
  Calls Tryz.prog 107 #[.pointer (some ⟨pp,0,none⟩), .int .i64 x] w fun e w'=>e= .returned (.int .i64 (okC (mW N x)))∧LvE B X w' p pk pp rate mv L T c (kK PL N x) (kL N x)∧Chg (exT B X) w w':=by
 obtain⟨Y,Z,h⟩:=h;refine⟨h.cells.2.1,(Za h.q rfl rfl rfl).mono ?_⟩;rintro e w' ⟨rfl,hk,hc⟩;exact⟨rfl,h.stepQ hk hc⟩
theorem LvE.cell2 (h:LvE B X w p pk pp rate mv L T c PL N):w.cell? ⟨p,2,none⟩=some (.int .i64 rate):=by obtain⟨Y,Z,h⟩:=h;exact h.cells.2.2.1
theorem LvE.cell3 (h:LvE B X w p pk pp rate mv L T c PL N):w.cell? ⟨p,3,none⟩=some (.int .i64 mv)∧w.frozen? ⟨p,3,none⟩=false:=by obtain⟨Y,Z,h⟩:=h;exact h.cells.2.2.2
theorem LvE.setM (h:LvE B X w p pk pp rate mv L T c PL N)(v:Int):LvE B X (w.setCell ⟨p,3,none⟩ (.int .i64 v)) p pk pp rate v L T c PL N∧Chg (exT B X) w (w.setCell ⟨p,3,none⟩ (.int .i64 v)):=by
 obtain⟨Y,Z,h⟩:=h;exact⟨⟨Y,Z,(h.setM v).1⟩,(h.setM v).2⟩
end
structure TxS (m:List Int):Prop where
 sy:IsSyms m
 rng:∀x∈m,0≤x∧x<257
 len:m.length≤900000
theorem TxS.pv {m:List Int}(h:TxS m)(q:Nat):((pvS m q).toNat:Int)=pvS m q∧(pvS m q).toNat<257:=by
 have h1:=Fk h.sy q;have hp:=h.sy.pos;have h2:pvS m q∈m:=by
  unfold pvS;have :=aB4 (q+m.length-1) hp;rw[jY this];exact as3 _
 have :=h.rng _ h2;omega
theorem xK{m:List Int}(h:TxS m)(s:Nat)(hs:s<257):bR (Tl.of m) s=(aQ m (s:Int):Int):=by
 unfold bR;rw[show gX (s:Int)=s by unfold gX;omega];exact lD (fun x hx=>(h.rng x hx).1) s
theorem vR{l m:List Int}(h:l.Perm m)(s:Int):cnt l s=cnt m s:=h.countP_eq _
theorem Tl.of_perm {l m:List Int}(h:l.Perm m):Tl.of l=Tl.of m:=by
 unfold Tl.of;rw[h.length_eq];congr 1;funext s;rw[vR h]
structure LvR (B:Nat) (X:Nat→Prop) (w:World) (p pk pp:Nat) (rate mv:Int) (m:List Int) (R:List Nat) (c:Nat) (M:Nat→Bool):Prop where
 e:LvE B X w p pk pp rate mv (lvR m R) (Tl.of m) c (plS M R) m.length
 perm:R.Perm (List.range m.length)
section
variable {B:Nat}{X:Nat→Prop}{w w':World}{p pk pp:Nat}{rate mv:Int}{m:List Int}{R:List Nat}{c:Nat}{M:Nat→Bool}
theorem LvR.rlen (h:LvR B X w p pk pp rate mv m R c M):R.length=m.length:=by have :=h.perm.length_eq;simpa using this
theorem LvR.get (h:LvR B X w p pk pp rate mv m R c M){i q:Nat}(hi:R[i]? =some q):(lvR m R)[i]? =some (pvS m q).toNat:=tE hi
theorem LvR.lf (hm:TxS m)(R:List Nat)(i q:Nat):bR (Tl.of m) (pvS m q).toNat+aV (lvR m R) i (pvS m q).toNat=((lfC m (R.take i) (pvS m q):Nat):Int):=by
 rw[xK hm _ (hm.pv q).2];have :=Et hm.sy R i (pvS m q).toNat;rw[(hm.pv q).1]at this⊢;omega
theorem LvR.step (h:LvR B X w p pk pp rate mv m R c M)(he:LvE B X w' p pk pp rate mv (lvR m R) (Tl.of m) c (plS M R) m.length):LvR B X w' p pk pp rate mv m R c M:=⟨he,h.perm⟩
theorem LvR.below (h:LvR B X w p pk pp rate mv m R c M)(hb:Below w.heap.size w w'):LvR B X w' p pk pp rate mv m R c M:=⟨h.e.below hb,h.perm⟩
theorem Ev(hm:TxS m)(hr:IsRows m R){i q:Nat}(hi:R[i]? =some q):R[lfC m (R.take i) (pvS m q)]? =some ((q+m.length-1)%m.length):=by
 obtain⟨h1,e⟩:=ar5.1 hi;obtain⟨h3,h4⟩:=Kp hm.sy hr h1;have he:lfL (bZ m R) i=lfC m (R.take i) (pvS m q):=by
  unfold lfL lfC;rw[vU h1,e];show aQ (bZ m R) (pvS m q)+cnt ((bZ m R).take i) (pvS m q)=_;congr 1
  ·rw[←pD];unfold aQ;exact(lH hr).countP_eq _
  ·unfold cnt bZ;rw[←av6,ap7];rfl
 rw[he]at h3;rw[ar3 h3];congr 1;rw[e]at h4;simpa only[he]using h4
theorem vK{n q:Nat}(h:q+1<n):(q+1+n-1)%n=q:=by
 rw[show q+1+n-1=q+n by omega,az8,aB3 E]
theorem yJ(h:LvR B X w p pk pp rate mv m R c M)(hm:TxS m)(hr:IsRows m R){pos:Nat}(hp:pos<m.length):
  Calls Tryz.prog 57 #[.pointer (some ⟨p,0,none⟩), .int .i64 pos] w fun e w'=>∃a:Nat,e= .returned (.int .i64 a)∧R[a]? =some pos∧LvR B X w' p pk pp rate mv m R c M∧Chg (exT B X) w w':=by
 obtain⟨n,hn⟩:∃n,m.length=n+1:=⟨m.length-1,E⟩;have hlen:=hm.len;have HM:=θ hm;have HR:=θ hr;have HN:=θ hn;have H:=θ h;have HLEN:=θ (fun(w':World) (h':LvR B X w' p pk pp rate mv m R c M)=>Cz h'.e (n:=n) (by rw[cB,h'.rlen,HN.o]) (by have :=HN.o;omega));have hpn:pos≤n:=E;have hn9:n≤900000:=E;clear hm hr h hn hp hlen;have d1:decide ((n:Int)<(pos:Int))=false:=aG9 E;have d2:decide ((pos:Int)<0)=false:=aG9 E;have d3:decide (n<pos)=false:=aG9 E;go_enter Tryz.func57,Tryz.ntmps57;go_wp2_with fail;refine(HLEN.o _ H.o).mono ?_;rintro e w' ⟨rfl,rfl⟩;go_wp2_with fail;refine(HLEN.o _ H.o).mono ?_;rintro e w' ⟨rfl,rfl⟩;obtain⟨c1,hq⟩:=Ng H.o.e (pos:Int);have HQ:=θ hq;clear hq;go_wp2_with fail;refine HQ.o.mono ?_;rintro e w1 ⟨rfl,he1,hc1⟩;have hnx:=vW (M:=M) H.o.perm (pos:Int);have H1:Hid (LvR B X w1 p pk pp rate mv m R c M):=θ (H.o.step he1);have HC1:=θ hc1;obtain⟨v,hv⟩:∃v,fE (pos:Int) (prL 0 (plS M R))=v:=⟨_,rfl⟩;rw[hv]at hnx⊢;have HNX:=θ hnx;clear hnx hv he1 hc1 c1 HQ;go_upto_if 29 with fail
 go_cut [5,6] (fun u v wx=>∃x r:Nat,u= .int .i64 x∧v= .int .i64 r∧R[r]? =some x∧pos≤x∧x≤n∧LvR B X wx p pk pp rate mv m R c M∧Chg (exT B X) w wx);case first=>as_aux_lemma=>
  rcases HNX.o with ⟨rfl,_⟩ | ⟨q,rfl,hq1,hq2,hq3,hq4⟩
  ·have hrf:=Td HM.o.sy HR.o;have HRF:Hid (R[0]? =some n):=θ (by
    obtain⟨h0,e⟩:=hrf
    rw[ar3 h0,e,HN.o];rfl)
   clear hrf;go_wp2_with fail;go_meet;case rel=>exact⟨n,0,rfl,rfl,HRF.o,hpn,aA5 _,H1.o,HC1.o⟩
  ·obtain⟨a,ha⟩:=ar7 (H.o.perm.mem_iff.2 (ax4.2 hq1));have hnd:=H.o.perm.nodup_iff.2 ax9;have hal:=Dg (M:=M) hnd ha;rw[hq3,aH9 rfl]at hal;have hqn:q≤n:=by have :=HN.o;omega
   obtain⟨c1,hq⟩:=qRow H1.o.e (q:Int);rw[hal]at hq;have HQ:=θ hq;have HA:=θ ha;have d4:decide ((0:Int)≤(q:Int))=true:=aH1 E;clear hal hq ha hnd hq3 hq4;go_wp2_with fail;refine HQ.o.mono ?_;rintro e w2 ⟨rfl,he2,hc2⟩;have H2:Hid (LvR B X w2 p pk pp rate mv m R c M):=θ (H1.o.step he2);have HC2:Hid (Chg (exT B X) w w2):=θ (HC1.o.trans hc2 (fun b hb=>Ei hb));clear he2 hc2 c1 HQ;go_wp2_with fail;go_meet;case rel=>exact⟨q,a,rfl,rfl,HA.o,E,hqn,H2.o,HC2.o⟩
 case rest=>as_aux_lemma=>
  obtain⟨x,r,rfl,rfl,h1,h2,h3,h4,h5⟩:=hcut;have HX:=θ h1;have H4:=θ h4;have H5:=θ h5;clear h1 h4 h5 H1 HC1 HNX;go_wp2_with fail;go_loopw [5,6] (fun u v wx=>∃x r:Nat,u= .int .i64 x∧v= .int .i64 r∧R[r]? =some x∧pos≤x∧x≤n∧LvR B X wx p pk pp rate mv m R c M∧Chg (exT B X) w wx) (fun u _ _=>(intOf u).toNat);case atStart=>exact⟨x,r,rfl,rfl,HX.o,h2,h3,H4.o,H5.o⟩
  case round=>as_aux_lemma=>
   clear HX H4 H5 h2 h3;obtain⟨x,r,rfl,rfl,h1,h2,h3,h4,h5⟩:=hrel;have HX:=θ h1;have H4:=θ h4;have H5:=θ h5;have hnn:=HN.o;by_cases hlt:pos<x
   ·obtain⟨y,rfl⟩:∃y,x=y+1:=⟨x-1,E⟩;have hlf:=Ev HM.o HR.o h1;rw[vK E]at hlf;obtain⟨c0,hb⟩:=qBack h4.e (h4.get h1) (by rw[cB,h4.rlen,HN.o];omega);rw[LvR.lf HM.o]at hb;generalize lfC m (R.take r) (pvS m (y+1))=z at *;have HL:=θ hlf;have HB:=θ hb;have hw:IntKind.i64.wrap (((y+1:Nat):Int)-1)=y:=by rw[ao4 _ E];omega
    have d4:decide ((pos:Int)<((y+1:Nat):Int))=true:=aH1 E;have d5:decide (pos<y+1)=true:=aH1 E;have hyn:y≤n:=E;have hpy:pos≤y:=E;obtain⟨x',hx'⟩:∃x',y+1=x':=⟨_,rfl⟩;rw[hx']at hw d4 d5⊢;clear hlf hb h1 h4 h5 hnn;go_wp2_with fail;refine HB.o.mono ?_;rintro e w2 ⟨rfl,he2,hc2⟩;have H2:Hid (LvR B X w2 p pk pp rate mv m R c M):=θ (H4.o.step he2);have HC2:Hid (Chg (exT B X) w w2):=θ (H5.o.trans hc2 (fun b hb=>Ei hb));clear he2 hc2 c0 HB;go_wp2_with fail;go_roundw;case rel=>exact⟨y,z,by first | rfl | (congr 1),rfl,HL.o,hpy,hyn,H2.o,HC2.o⟩
    case measure=>simp[intOf];omega
   ·obtain rfl:x=pos:=E;have d4:decide ((x:Int)<(x:Int))=false:=aG9 E;clear h1 h4 h5;go_wp2_with fail;go_ret;exact⟨r,rfl,HX.o,H4.o,H5.o⟩
end
section
variable {B:Nat}{X:Nat→Prop}{w w':World}{p pk pp:Nat}{rate mv:Int}{m:List Int}{R:List Nat}{c:Nat}{M:Nat→Bool}
theorem lvPos(h:LvR B X w p pk pp rate mv m R c M)(hm:TxS m)(hr:IsRows m R)(h0:M 0=true){a q:Nat}(ha:R[a]? =some q):
  Calls Tryz.prog 62 #[.pointer (some ⟨p,0,none⟩), .int .i64 a] w fun e w'=>e= .returned (.int .i64 q)∧LvR B X w' p pk pp rate mv m R c M∧Chg (exT B X) w w':=by
 have hq:q<m.length:=ax4.1 (h.perm.mem_iff.1 (ax2 ha));obtain⟨n,hn⟩:∃n,m.length=n+1:=⟨m.length-1,E⟩;have hal:a≤n:=by have :=(ar5.1 ha).1;have :=h.rlen;omega
 have hlen:=hm.len;have HM:=θ hm;have HR:=θ hr;have HN:=θ hn;have H:=θ h;have HA:=θ ha;have H0:=θ h0;have HLEN:=θ (fun(w':World) (h':LvR B X w' p pk pp rate mv m R c M)=>Cz h'.e (n:=n) (by rw[cB,h'.rlen,HN.o]) (by have :=HN.o;omega));have hqn:q≤n:=E;have hn9:n≤900000:=E;clear hm hr h hn hq hlen ha h0;have d1:decide ((n:Int)<(a:Int))=false:=aG9 E;have d2:decide ((a:Int)<0)=false:=aG9 E;have d3:decide (n<a)=false:=aG9 E;go_enter Tryz.func62,Tryz.ntmps62;go_wp2_with fail;refine(HLEN.o _ H.o).mono ?_;rintro e w' ⟨rfl,rfl⟩;go_wp2_with fail;go_loopw [1,5] (fun u v wx=>∃x y k:Nat,u= .int .i64 x∧v= .int .i64 k∧R[x]? =some y∧y+k=q∧LvR B X wx p pk pp rate mv m R c M∧Chg (exT B X) w wx) (fun _ v _=>q-(intOf v).toNat);case atStart=>exact⟨a,q,0,rfl,rfl,HA.o,E,H.o,Chg.refl⟩
 case round=>as_aux_lemma=>
  clear HA d1 d2 d3 hal;obtain⟨x,y,k,rfl,rfl,h1,h2,h4,h5⟩:=hrel;have HX:=θ h1;have H4:=θ h4;have H5:=θ h5;have hnn:=HN.o;obtain⟨c1,hg⟩:=qPos h4.e (x:Int);rw[kJ h1]at hg;have hkq:k≤q:=E;by_cases hM:M y=true
  ·rw[aH9 hM]at hg;have HG:=θ hg;have d4:decide ((y:Int)<0)=false:=aG9 E;have HMY:=θ hM;clear hg h1 h4 h5 hnn hM;go_wp2_with fail;refine HG.o.mono ?_;rintro e w2 ⟨rfl,he2,hc2⟩;have H2:Hid (LvR B X w2 p pk pp rate mv m R c M):=θ (H4.o.step he2);have HC2:Hid (Chg (exT B X) w w2):=θ (H5.o.trans hc2 (fun b hb=>Ei hb));obtain⟨c2,hg2⟩:=qPos H2.o.e (x:Int);rw[kJ HX.o,aH9 HMY.o]at hg2;have HG2:=θ hg2;clear he2 hc2 c1 HG hg2;have hy9:y≤900000:=E;have hk9:k≤900000:=E;have HE:=θ h2;clear h2;go_wp2_with fail;refine HG2.o.mono ?_;rintro e w3 ⟨rfl,he3,hc3⟩;have H3:Hid (LvR B X w3 p pk pp rate mv m R c M):=θ (H2.o.step he3);have HC3:Hid (Chg (exT B X) w w3):=θ (HC2.o.trans hc3 (fun b hb=>Ei hb));clear he3 hc3 c2 HG2;go_wp2_with fail;go_ret;exact⟨aT (by have :=HE.o;omega),H3.o,HC3.o⟩
  ·rw[aH8 hM]at hg;have HG:=θ hg;have hy0:y≠0:=fun e=>hM (by rw[e];exact H0.o);obtain⟨z,rfl⟩:∃z,y=z+1:=⟨y-1,E⟩;have hlf:=Ev HM.o HR.o h1;rw[vK E]at hlf;have HLF:=θ hlf;have HE:=θ h2;have hk9:k≤900000:=E;have hkk:k+1≤q:=E;clear hg h1 h4 h5 hnn hM hlf h2;go_wp2_with fail;refine HG.o.mono ?_;rintro e w2 ⟨rfl,he2,hc2⟩;have H2:Hid (LvR B X w2 p pk pp rate mv m R c M):=θ (H4.o.step he2);have HC2:Hid (Chg (exT B X) w w2):=θ (H5.o.trans hc2 (fun b hb=>Ei hb));obtain⟨c0,hb⟩:=qBack H2.o.e (H2.o.get HX.o) (by rw[cB,H2.o.rlen,HN.o];omega);rw[LvR.lf HM.o]at hb;generalize lfC m (R.take x) (pvS m (z+1))=zz at *;have HB:=θ hb;clear he2 hc2 c1 HG hb;go_wp2_with fail;refine HB.o.mono ?_;rintro e w3 ⟨rfl,he3,hc3⟩;have H3:Hid (LvR B X w3 p pk pp rate mv m R c M):=θ (H2.o.step he3);have HC3:Hid (Chg (exT B X) w w3):=θ (HC2.o.trans hc3 (fun b hb=>Ei hb));clear he3 hc3 c0 HB;go_wp2_with fail;go_roundw;case rel=>exact⟨zz,z,k+1,rfl,by first | rfl | go_num,HLF.o,by have :=HE.o;omega,H3.o,HC3.o⟩
   case measure=>simp[intOf];omega
theorem eP(h:LvR B X w p pk pp rate mv m R c M):w.cell? ⟨p,0,none⟩=some (.pointer (some ⟨pk,0,none⟩))∧w.cell? ⟨p,1,none⟩=some (.pointer (some ⟨pp,0,none⟩))∧w.cell? ⟨p,2,none⟩=some (.int .i64 rate):=by
 obtain⟨⟨Y,Z,h⟩,_⟩:=h;exact⟨h.cells.1,h.cells.2.1,h.cells.2.2.1⟩
theorem Bi{L:List Nat}{T:Tl}{PL:List Int}{N:Nat}(h:LvE B X w p pk pp rate mv L T c PL N):w.cell? ⟨p,0,none⟩=some (.pointer (some ⟨pk,0,none⟩))∧w.cell? ⟨p,1,none⟩=some (.pointer (some ⟨pp,0,none⟩))∧w.cell? ⟨p,2,none⟩=some (.int .i64 rate):=by
 obtain⟨Y,Z,h⟩:=h;exact⟨h.cells.1,h.cells.2.1,h.cells.2.2.1⟩
theorem lvAdd(h:LvR B X w p pk pp rate mv m R c M)(hm:TxS m)(hr:IsRows m R)(hc:c<1000000){pos:Nat}(hp:pos<m.length):
  Calls Tryz.prog 169 #[.pointer (some ⟨p,0,none⟩), .int .i64 pos] w fun e w'=>e= .returned (.tuple #[])∧LvR B X w' p pk pp rate mv m R (c+1) (sM M pos)∧Chg (exT B X) w w':=by
 have HM:=θ hm;have HR:=θ hr;have H:=θ h;have HP:=θ hp;have HD:Hid (LvR B X w.drew p pk pp rate mv m R c M):=θ (h.below ⟨rfl,rfl,rfl,aA5 _,fun _ _=>rfl⟩);clear hm hr h hp;go_enter Tryz.func169,Tryz.ntmps169;go_upto_region 0 with fail
 refine aE (fun w'=>w'.cell? ⟨p,1,none⟩=some (.pointer (some ⟨pp,0,none⟩))) Ek ((eP HD.o).2.1) (fun hh=>?_);refine rt 0 hh ?_;refine rt 1 hh ?_;refine rt 2 hh ?_;refine rt 3 hh ?_;refine rt 4 hh ?_;refine rt 5 hh ?_;refine rt 7 hh ?_;refine rg 6 fun κ hK=>?_;go_simp;refine(yJ HD.o HM.o HR.o HP.o).mono ?_;rintro e w1 ⟨a,rfl,ha,h1,hc1⟩;have HA:=θ ha;have H1:=θ h1;have HC1:Hid (Chg (exT B X) w w1):=θ ((Chg.refl.drew).trans hc1 (fun b hb=>Ei hb));have hk1:=(eP h1).2.1;clear ha h1 hc1;refine hK.out _ _ (hk1) ?_;intro hh;try simp only[pt]
 refine rg 8 fun κ hK=>?_;go_simp;refine(qAdd H1.o.e hc (a:Int) (pos:Int)).2.mono ?_;rintro e w2 ⟨rfl,he2,hc2⟩;rw[(Li H1.o.perm HA.o).1]at he2;have H2:Hid (LvR B X w2 p pk pp rate mv m R (c+1) (sM M pos)):=θ ⟨he2,H1.o.perm⟩;have HC2:Hid (Chg (exT B X) w w2):=θ (HC1.o.trans hc2 (fun b hb=>Ei hb));have hk2:=(eP H2.o).2.1;clear he2 hc2;refine hK.out _ _ (hk2) ?_;intro hh;try simp only[pt]
 refine rz ?_;clear hh;go_wp2_with fail;go_end0;exact⟨rfl,H2.o,HC2.o⟩
end
section
variable {B:Nat}{X:Nat→Prop}{w w':World}{p pk pp:Nat}{mv:Int}{m:List Int}{R:List Nat}{c:Nat}{M:Nat→Bool}{ra at_:Nat}
theorem Rd(h:LvR B X w p pk pp (ra:Int) mv m R c M)(hm:TxS m)(hr:IsRows m R)(h1:1≤ra)(h64:ra≤64)(hat:at_<m.length)(hh:qF M m.length ra at_)(hc:c+m.length+2≤1000000):
  Calls Tryz.prog 110 #[.pointer (some ⟨p,0,none⟩), .int .i64 at_] w fun e w'=>e= .returned (.tuple #[])∧(∃c' M',c'≤c+m.length+2∧LvR B X w' p pk pp (ra:Int) mv m R c' M'∧oZ M' m.length ra)∧Chg (exT B X) w w':=by
 obtain⟨n,hn⟩:∃n,m.length=n+1:=⟨m.length-1,E⟩;have hlen:=hm.len;have HM:=θ hm;have HR:=θ hr;have HN:=θ hn;have H:=θ h;have HH:=θ hh;have HLEN:=θ (fun(w':World) (c':Nat) (M':Nat→Bool) (h':LvR B X w' p pk pp (ra:Int) mv m R c' M')=>Cz h'.e (n:=n) (by rw[cB,h'.rlen,HN.o]) (by have :=HN.o;omega));obtain⟨a0,ha0⟩:=ar7 (h.perm.mem_iff.2 (ax4.2 (show 0<m.length by omega)));have hnd:=h.perm.nodup_iff.2 ax9;have hal:=Dg (M:=M) hnd ha0;obtain⟨c1,hq⟩:=qRow h.e (0:Int);rw[show ((0:Nat):Int)=0 from rfl]at hal;rw[hal]at hq;obtain⟨v,hv⟩:∃v,(if M 0=true then (a0:Int)else -1)=v:=⟨_,rfl⟩;rw[hv]at hq;have HV:=θ hv;have HQ:=θ hq;have hatn:at_≤n:=E;have hn9:n≤900000:=E;have hcn:c+n+3≤1000000:=E;clear hm hr h hlen hh hal hq hnd hat hc hv hn;go_enter Tryz.func110,Tryz.ntmps110;go_wp2_with fail;refine HQ.o.mono ?_;rintro e w1 ⟨rfl,he1,hc1⟩;have H1:Hid (LvR B X w1 p pk pp (ra:Int) mv m R c M):=θ (H.o.step he1);have HC1:=θ hc1;clear he1 hc1 c1 HQ;go_upto_if 11 with fail
 go_cut [] (fun wx=>∃c1 M1,c1≤c+1∧LvR B X wx p pk pp (ra:Int) mv m R c1 M1∧M1 0=true∧qF M1 m.length ra at_∧Chg (exT B X) w wx);case first=>as_aux_lemma=>
  by_cases hM:M 0=true
  ·have hv:=HV.o;rw[aH9 hM]at hv;subst hv;have d:decide ((a0:Int)<0)=false:=aG9 E;have HM0:=θ hM;clear hM;go_wp2_with fail;go_meet;case rel=>exact⟨c,M,E,H1.o,HM0.o,HH.o,HC1.o⟩
  ·have hv:=HV.o;rw[aH8 hM]at hv;subst hv;have hA:=lvAdd H1.o HM.o HR.o E (pos:=0) (by have :=HN.o;omega);rw[show ((0:Nat):Int)=0 from rfl]at hA;have HA:=θ hA;clear hA;clear hM;go_wp2_with fail;refine HA.o.mono ?_;rintro e w2 ⟨rfl,h2,hc2⟩;have H2:=θ h2;have HC2:Hid (Chg (exT B X) w w2):=θ (HC1.o.trans hc2 (fun b hb=>Ei hb));clear h2 hc2 HA;go_wp2_with fail;go_meet;case rel=>exact⟨c+1,_,E,H2.o,by unfold sM;simp,Ef HH.o,HC2.o⟩
 case rest=>as_aux_lemma=>
  obtain⟨c1,M1,hc1,h1',h2',h3',h4'⟩:=hcut;have H2:=θ h1';have HM0:=θ h2';have HHF:=θ h3';have HC2:=θ h4';have hk2:=eP h1';have HD:Hid (LvR B X wc.drew p pk pp (ra:Int) mv m R c1 M1):=θ (h1'.below ⟨rfl,rfl,rfl,aA5 _,fun _ _=>rfl⟩);have HW1:Hid (IntKind.i64.wrap (2*(ra:Int))=2*ra):=θ (ao4 _ E);have HW2:Hid (IntKind.i64.wrap ((at_:Int)-2*ra)=at_-2*ra):=θ (ao4 _ E);clear h1' h2' h3' h4' H1 HC1;go_upto_region 2 with fail
  refine aE (fun w'=>w'.cell? ⟨p,1,none⟩=some (.pointer (some ⟨pp,0,none⟩))∧w'.cell? ⟨p,2,none⟩=some (.int .i64 (ra:Int))) Ek ((eP HD.o).2) (fun hh=>?_);refine rt 0 hh ?_;refine rt 1 hh ?_;refine rt 2 hh ?_;refine rt 3 hh ?_;refine rt 4 hh ?_;refine rt 5 hh ?_;refine rt 6 hh ?_;refine rt 7 hh ?_;refine rt 8 hh ?_;refine rt 9 hh ?_;refine rt 10 hh ?_;refine rt 11 hh ?_;refine rg 12 fun κ hK=>?_;go_simp;rw[HW1.o,HW2.o];refine(Ng HD.o.e (max ((at_:Int)-2*ra) 0)).2.mono ?_;rintro e w3 ⟨rfl,he3,hc3⟩;have hnx:=vW (M:=M1) HD.o.perm (max ((at_:Int)-2*ra) 0);obtain⟨q0,hqe,hq1,hq2,hq3⟩:∃q0:Nat,fE (max ((at_:Int)-2*ra) 0) (prL 0 (plS M1 R))=(q0:Int)∧q0<m.length∧q0≤at_∧pC M1 m.length ra q0:=Mf HHF.o HM0.o (by have :=HN.o;omega) (by have :=HN.o;omega) h1 hnx;rw[hqe];have H3:Hid (LvR B X w3 p pk pp (ra:Int) mv m R c1 M1):=θ (HD.o.step he3);have HC3:Hid (Chg (exT B X) w w3):=θ (HC2.o.drew.trans hc3 (fun b hb=>Ei hb));have hk3:=(eP H3.o).2;have HQ3:=θ hq3;clear he3 hc3 hnx hqe hq3;refine hK.out _ _ (hk3) ?_;intro hh;try simp only[pt]
  refine rt 13 hh ?_;refine rz ?_;clear hh HD HW1 HW2 hk2 hk3 H2 HC2;go_wp2_with fail;go_loopw [4] (fun u wx=>∃(q c2:Nat) (M2:Nat→Bool),u= .int .i64 q∧c2≤c+2+q∧q≤n+1∧LvR B X wx p pk pp (ra:Int) mv m R c2 M2∧M2 0=true∧qF M2 m.length ra at_∧pC M2 m.length ra q∧Chg (exT B X) w wx) (fun u _=>n+2-(intOf u).toNat);case atStart=>exact⟨q0,c1,M1,rfl,E,by have :=HN.o;omega,H3.o,HM0.o,HHF.o,HQ3.o,HC3.o⟩
  case round=>as_aux_lemma=>
   clear H3 HM0 HHF HQ3 HC3 hq1 hq2;obtain⟨q,c2,M2,rfl,hc2,hqn,h4,h5,h6,h7,h8⟩:=hrel;have H4:=θ h4;have H5:=θ h5;have H6:=θ h6;have H7:=θ h7;have HC4:=θ h8;have hk4:=(eP h4).2;have H4d:Hid (LvR B X wr.drew p pk pp (ra:Int) mv m R c2 M2):=θ (h4.below ⟨rfl,rfl,rfl,aA5 _,fun _ _=>rfl⟩);have HW3:Hid (IntKind.i64.wrap ((at_:Int)+ra)=at_+ra):=θ (ao4 _ E);clear h4 h5 h6 h7 h8;go_upto_region 3 with fail
   refine aE (fun w'=>w'.cell? ⟨p,1,none⟩=some (.pointer (some ⟨pp,0,none⟩))∧w'.cell? ⟨p,2,none⟩=some (.int .i64 (ra:Int))∧LvR B X w' p pk pp (ra:Int) mv m R c2 M2∧Chg (exT B X) w w') Ek (⟨hk4.1,hk4.2,H4d.o,HC4.o.drew⟩) (fun hh=>?_);refine rt 0 hh ?_;refine rt 1 hh ?_;refine rt 3 hh ?_;refine rt 4 hh ?_;refine rt 5 hh ?_;refine rt 6 hh ?_;refine rt 7 hh ?_;refine rt 8 hh ?_;refine rg 2 fun κ hK=>?_;go_simp;refine(HLEN.o _ _ _ hh.2.2.1).mono ?_;rintro e w' ⟨rfl,rfl⟩;refine hK.out _ _ hh ?_;intro hh;try simp only[pt]
   refine rt 9 hh ?_;refine rt 10 hh ?_;refine rz ?_;obtain⟨_,_,h9,h10⟩:=hh;have H9:=θ h9;have HC9:=θ h10;clear h9 h10 H4 HC4 H4d hk4;obtain⟨b,hb⟩:∃b,decide ((q:Int)≤min (n:Int) (IntKind.i64.wrap ((at_:Int)+ra)))=b:=⟨_,rfl⟩;rw[hb];rw[HW3.o]at hb;cases b
   ·have hgo:=of_decide_eq_false hb;have HS:Hid (oZ M2 m.length ra):=θ (Qr H7.o H6.o H5.o (by have :=HN.o;omega) h1);clear hb hgo;go_wp2_with fail;go_end0;exact⟨rfl,⟨c2,M2,by have :=HN.o;omega,H9.o,HS.o⟩,HC9.o⟩
   ·have hgo:=aI4 hb;have hqn2:q≤n:=E;clear hb hgo;obtain⟨k1,hx⟩:=Ng H9.o.e ((q:Int)+1);have hnx:=vW (M:=M2) H9.o.perm ((q:Int)+1);have HX:=θ hx;have HNX:=θ hnx;clear hx hnx;obtain⟨v9,hv9⟩:∃v9,fE ((q:Int)+1) (prL 0 (plS M2 R))=v9:=⟨_,rfl⟩;rw[hv9]at HX HNX;clear hv9;go_wp2_with fail;refine HX.o.mono ?_;rintro e w5 ⟨rfl,he5,hc5⟩;have H10:Hid (LvR B X w5 p pk pp (ra:Int) mv m R c2 M2):=θ (H9.o.step he5);have HC10:Hid (Chg (exT B X) w w5):=θ (HC9.o.trans hc5 (fun b hb=>Ei hb));clear he5 hc5 HX H9 HC9 k1;go_upto_if 46 with fail
    go_cut [5]from 27 to 67 (fun u wx=>(∃nx:Nat,u= .int .i64 nx∧q<nx∧nx≤n+1∧(nx<m.length→M2 nx=true))∧LvR B X wx p pk pp (ra:Int) mv m R c2 M2∧Chg (exT B X) w wx)
    case first=>as_aux_lemma=>
     rcases HNX.o with ⟨rfl,_⟩ | ⟨x,rfl,hx1,hx2,hx3,hx4⟩
     ·have hl:=HLEN.o _ _ _ H10.o;have HL:=θ hl;clear hl;go_wp2_with fail;refine HL.o.mono ?_;rintro e w' ⟨rfl,rfl⟩;go_wp2_with fail;go_meet;case rel=>exact⟨⟨n+1,by first | rfl | go_num,E,aA5 _,fun hlt=>absurd hlt (by have :=HN.o;omega)⟩,H10.o,HC10.o⟩
     ·have d:decide ((x:Int)<0)=false:=aG9 E;have hxn:x≤n+1:=by have :=HN.o;omega
      have hqx:q<x:=E;have HX3:=θ hx3;clear hx3 hx4 hx2 hx1;go_wp2_with fail;go_meet;case rel=>exact⟨⟨x,rfl,hqx,hxn,fun _=>HX3.o⟩,H10.o,HC10.o⟩
    case rest=>as_aux_lemma=>
     obtain⟨⟨nx,rfl,n1,n2,n3⟩,h11,hc11⟩:=hcut;have N3:=θ n3;have H11:=θ h11;have HC11:=θ hc11;have hk11:=(eP h11).2.2;clear n3 h11 hc11 H10 HC10 HNX;by_cases hfar:ra<nx-q
     ·have d:decide ((ra:Int)<(nx:Int)-q)=true:=aH1 E;have hA:=lvAdd H11.o HM.o HR.o E (pos:=q+ra) (by have :=HN.o;omega);have HA:=θ hA;have hw5:((q+ra:Nat):Int)=(q:Int)+ra:=E;rw[hw5]at HA;clear hA;go_wp2_with fail;refine HA.o.mono ?_;rintro e w6 ⟨rfl,h12,hc12⟩;have H12:=θ h12;have HC12:Hid (Chg (exT B X) w w6):=θ (HC11.o.trans hc12 (fun b hb=>Ei hb));have HW:Hid (pC (sM M2 (q+ra)) m.length ra (q+ra)):=θ (Ay (Wg H7.o _) h1 E (Nat.le_refl _) (fun _=>by unfold sM;simp) (by have :=HN.o;omega));clear h12 hc12 HA hw5;go_wp2_with fail;go_roundw;case rel=>exact⟨q+ra,c2+1,sM M2 (q+ra),by first | rfl | go_num,E,E,H12.o,by unfold sM;simp[H5.o],Ef H6.o,HW.o,HC12.o⟩
      case measure=>simp[intOf];omega
     ·have d:decide ((ra:Int)<(nx:Int)-q)=false:=aG9 E;have HW:Hid (pC M2 m.length ra nx):=θ (Ay H7.o h1 n1 E N3.out (by have :=HN.o;omega));go_wp2_with fail;go_roundw;case rel=>exact⟨nx,c2,M2,rfl,E,n2,H11.o,H5.o,H6.o,HW.o,HC11.o⟩
      case measure=>simp[intOf];omega
end
section
variable {B:Nat}{X:Nat→Prop}{w w':World}{p pk pp:Nat}{rate mv:Int}{l m:List Int}{R:List Nat}{c:Nat}{M:Nat→Bool}
theorem Xe{R:List Nat}(a t q:Nat):lvR m (inL (aB R a) t q)=inL (aB (lvR m R) a) t (pvS m q).toNat:=by
 unfold lvR;rw[pR,qU]
theorem Fl{m:List Int}{i:Nat}(h0:0<i)(h:i<m.length):pvS m i=sy m (i-1):=by
 obtain⟨j,rfl⟩:∃j,i=j+1:=⟨i-1,E⟩;exact bN h
theorem lfC_lt{R:List Nat}(hp:R.Perm (List.range m.length)){a q:Nat}(ha:R[a]? =some q):lfC m (R.take a) (pvS m q)≤2*m.length:=by
 unfold lfC;have h1:(List.range m.length).countP (fun q'=>decide (sy m q'<pvS m q))≤m.length:=by
  have :=ap6 (p:=fun q'=>decide (sy m q'<pvS m q)) (l:=List.range m.length);simpa using this
 have h2:(R.take a).countP (fun p=>pvS m p==pvS m q)≤m.length:=by
  refine aA6 ap6 ?_;rw[at5];have :=hp.length_eq;simp at this;omega
 omega
theorem rZ{i cur:Nat}{a:Int}(h:LvR B X w p pk pp rate mv m R c M)(hm:TxS m)(hpre:∀j,j<i→sy l j=sy m j)(hI:InvI l m i R)(hi:i<m.length)(hcur:R[cur]? =some i)
  (ha:(i=0∧a= -1)∨(0<i∧∃a':Nat,a=a'∧R[a']? =some (i-1))):
  Calls Tryz.prog 108 #[.pointer (some ⟨p,0,none⟩), .int .i64 i, .int .i64 cur, .int .i64 a] w fun e w'=>e= .returned (.tuple #[])∧(∃R' mv',LvR B X w' p pk pp rate mv' m R' c M∧IsRows m R')∧Chg (exT B X) w w':=by
 have hlen:=hm.len;have HM:=θ hm;have H:=θ h;have HPRE:=θ hpre;have HI:=θ hI;have HCU:=θ hcur;have HAA:=θ ha;have HIM:=θ hi;clear h hm hpre hI hi hcur ha;go_enter Tryz.func108,Tryz.ntmps108;go_wp2_with fail;go_loopw [1,2,3] (fun u v x wx=>∃(i cur:Nat) (a:Int) (R:List Nat) (mv:Int),u= .int .i64 i∧v= .int .i64 cur∧x= .int .i64 a∧LvR B X wx p pk pp rate mv m R c M∧(∀j,j<i→sy l j=sy m j)∧InvI l m i R∧i<m.length∧R[cur]? =some i∧
   ((i=0∧a= -1)∨(0<i∧∃a':Nat,a=a'∧R[a']? =some (i-1)))∧Chg (exT B X) w wx) (fun u _ _ _=>(intOf u).toNat)
 case atStart=>exact⟨i,cur,a,R,mv,rfl,rfl,rfl,H.o,HPRE.o,HI.o,HIM.o,HCU.o,HAA.o,Chg.refl⟩
 case round=>as_aux_lemma=>
  clear H HPRE HI HCU HAA HIM;obtain⟨i,cur,a,R,mv,rfl,rfl,rfl,h,hpre,hI,him,hcur,ha,hc⟩:=hrel;have H:=θ h;have HPRE:=θ hpre;have HI:=θ hI;have HCU:=θ hcur;have HC:=θ hc;rcases ha with ⟨rfl,rfl⟩ | ⟨h0,a,rfl,ha⟩
  ·clear h hpre hI hcur hc;go_wp2_with fail;go_end0;exact⟨rfl,⟨R,mv,H.o,HI.o.done⟩,HC.o⟩
  ·have HA:=θ ha;have hsp:=Fl h0 him;have hln:(lvR m R).length≤1000000:=by rw[cB,h.rlen];omega
   have hto:=lvTo h.e (h.get hcur) hln;rw[LvR.lf HM.o,hsp]at hto;have hstep:=HI.o.step HM.o.sy hpre h0 him hcur ha;have hstay:=fun ht=>InvI.stay HM.o.sy hpre HI.o h0 him hcur ha ht;have hnext:=fun h2=>HI.o.next HM.o.sy hpre h2 him hcur ha;obtain⟨t,ht⟩:∃t,lfC m (R.take cur) (sy m (i-1))=t:=⟨_,rfl⟩;rw[ht]at hto hstep hstay;have HTO:=θ hto;have HSTEP:=θ hstep;have HSTAY:=θ hstay;have HNEXT:=θ hnext;have h9:(i:Int)≤900000:=E;have d0:decide ((0:Int)<(i:Int))=true:=aH1 E;have htm:t≤900000:=by have :=hstep.1;omega
   have ham:a≤900000:=by have :=(ar5.1 ha).1;have :=h.rlen;omega
   have hcm:cur≤900000:=by have :=(ar5.1 hcur).1;have :=h.rlen;omega
   clear hto hstep hstay hnext ht h hpre hI hcur hc ha hln;go_wp2_with fail;refine HTO.o.mono ?_;rintro e w1 ⟨rfl,he1,hc1⟩;have H1:Hid (LvR B X w1 p pk pp rate mv m R c M):=θ (H.o.step he1);have HC1:Hid (Chg (exT B X) w w1):=θ (HC.o.trans hc1 (fun b hb=>Ei hb));clear he1 hc1 HTO H HC;by_cases hat:a=t
   ·subst hat;have d1:((a:Int)==(a:Int))=true:=Es;have HD:=θ (HSTAY.o rfl);go_wp2_with fail
    (try simp only[Exit.inBlock,Exit.then]);refine bodyPost_ret (results_none rfl _ _ _) rfl ?_
    exact⟨rfl,⟨R,mv,H1.o,HD.o.done⟩,HC1.o⟩
   ·have d1:((a:Int)==(t:Int))=false:=by rw[aG5];omega
    have d1':(a==t)=false:=by rw[aG5];exact hat
    have hln:(lvR m R).length≤1000000:=by rw[cB,H1.o.rlen];have :=HM.o.len;omega
    obtain⟨pw,k0,kw,hg⟩:=Ab H1.o.e (H1.o.get HCU.o) hln;have HG:=θ hg;clear hg HSTAY;obtain⟨cs,hcs⟩:∃cs,(pvS m i).toNat=cs:=⟨_,rfl⟩;rw[hcs]at HG;have HCS:=θ hcs;clear hcs;go_wp2_with fail;refine HG.o.mono ?_;rintro e w2 ⟨rfl,he2,hc2⟩;have H2:Hid (LvR B X w2 p pk pp rate mv m R c M):=θ (H1.o.step he2);have HC2:Hid (Chg (exT B X) w w2):=θ (HC1.o.trans hc2 (fun b hb=>Ei hb));clear he2 hc2 HG H1 HC1 k0 kw;obtain⟨pw2,k0,kw,hg⟩:=Ab H2.o.e (H2.o.get HA.o) hln;obtain⟨ds,hds⟩:∃ds,(pvS m (i-1)).toNat=ds:=⟨_,rfl⟩;rw[hds]at hg;have HG:=θ hg;have HDS:=θ hds;clear hg hds;go_wp2_with fail;refine HG.o.mono ?_;rintro e w3 ⟨rfl,he3,hc3⟩;have H3:Hid (LvR B X w3 p pk pp rate mv m R c M):=θ (H2.o.step he3);have HC3:Hid (Chg (exT B X) w w3):=θ (HC2.o.trans hc3 (fun b hb=>Ei hb));clear he3 hc3 HG H2 HC2 k0 kw;go_upto_if 49 with fail
    go_cut [13]from 14 to 94 (fun u wx=>((i=1∧u= .int .i64 (-1))∨(2≤i∧∃nx:Nat,u= .int .i64 nx∧R[nx]? =some (i-2)))∧LvR B X wx p pk pp rate mv m R c M∧Chg (exT B X) w wx)
    case first=>as_aux_lemma=>
     by_cases h2:2≤i
     ·have d2:decide ((1:Int)<(i:Int))=true:=aH1 E;obtain⟨hn1,hn2⟩:=HNEXT.o h2;have hsp2:pvS m (i-1)=sy m (i-2):=by rw[Fl E E];congr 1
      have hto:=lvTo H3.o.e (H3.o.get HA.o) hln;have hlf9:=lfC_lt H3.o.perm HA.o;rw[LvR.lf HM.o,hsp2]at hto;rw[hsp2]at hlf9;have hcd:(cs=ds↔sy m (i-1)=sy m (i-2)):=by
       have q1:=HM.o.pv i;have q2:=HM.o.pv (i-1);rw[HCS.o,hsp]at q1;rw[HDS.o,hsp2]at q2;rw[←q1.1,←q2.1];omega
      unfold Db at hn1;obtain⟨n0,hn0⟩:∃n0,lfC m (R.take a) (sy m (i-2))=n0:=⟨_,rfl⟩;rw[hn0]at hto hn1 hn2 hlf9;have HT:=θ hto;have hn9:n0≤4000000:=by have :=HM.o.len;omega
      by_cases hcd2:cs=ds
      ·have hsy:=hcd.1 hcd2;rw[aH9 hsy]at hn1;have HN1:=θ hn1;have HBS:=θ (fun w=>Wx n0 cur a hn9 (fun hc=>hn2 hc hsy) w);have d3:((cs:Int)==(ds:Int))=true:=by rw[hcd2];simp
       have d3':(cs==ds)=true:=by rw[hcd2];simp
       clear hto hn1 hn2 hcd hsy hn0 hcd2;go_wp2_with fail;refine HT.o.mono ?_;rintro e w4 ⟨rfl,he4,hc4⟩;have H4:Hid (LvR B X w4 p pk pp rate mv m R c M):=θ (H3.o.step he4);have HC4:Hid (Chg (exT B X) w w4):=θ (HC3.o.trans hc4 (fun b hb=>Ei hb));clear he4 hc4 HT;go_wp2_with fail;refine(HBS.o _).mono ?_;rintro e w' ⟨rfl,rfl⟩;go_wp2_with fail;go_meet;case rel=>exact⟨Ej ⟨h2,_,rfl,HN1.o⟩,H4.o,HC4.o⟩
      ·have hsy:¬sy m (i-1)=sy m (i-2):=fun e=>hcd2 (hcd.2 e);rw[aH8 hsy]at hn1;have HN1:=θ hn1;have d3:((cs:Int)==(ds:Int))=false:=by rw[aG5];omega
       have d3':(cs==ds)=false:=by rw[aG5];exact hcd2
       clear hto hn1 hn2 hcd hsy hn0 hcd2;go_wp2_with fail;refine HT.o.mono ?_;rintro e w4 ⟨rfl,he4,hc4⟩;have H4:Hid (LvR B X w4 p pk pp rate mv m R c M):=θ (H3.o.step he4);have HC4:Hid (Chg (exT B X) w w4):=θ (HC3.o.trans hc4 (fun b hb=>Ei hb));clear he4 hc4 HT;go_wp2_with fail;go_meet;case rel=>exact⟨Ej ⟨h2,n0,rfl,HN1.o⟩,H4.o,HC4.o⟩
     ·have d2:decide ((1:Int)<(i:Int))=false:=aG9 E;go_wp2_with fail;go_meet;case rel=>exact⟨Ei ⟨E,rfl⟩,H3.o,HC3.o⟩
    case rest=>as_aux_lemma=>
     obtain⟨hnx,h4,hc4⟩:=hcut;have HNX:=θ hnx;have H4:=θ h4;have HC4:=θ hc4;have hk4:=eP h4;clear hnx h4 hc4 H3 HC3 HNEXT;go_upto_region 11 with fail
     have HD4:Hid (LvR B X wc.drew p pk pp rate mv m R c M):=θ (H4.o.below ⟨rfl,rfl,rfl,aA5 _,fun _ _=>rfl⟩);have HAL:Hid (a<R.length):=θ (ar5.1 HA.o).1;have HTO9:Hid (t≤(aB R a).length∧t<R.length):=θ (by have h1:=bL HAL.o;have h2:=H4.o.rlen;have h3:=HSTEP.o.1;omega);have hol:(aB (lvR m R) a).length+1=(lvR m R).length:=bL (ar5.1 (H4.o.get HA.o)).1;refine aE (fun w'=>w'.cell? ⟨p,0,none⟩=some (.pointer (some ⟨pk,0,none⟩))) Ek ((eP HD4.o).1) (fun hh=>?_);refine rt 0 hh ?_;refine rt 1 hh ?_;refine rt 2 hh ?_;refine rt 3 hh ?_;refine rt 4 hh ?_;refine rt 5 hh ?_;refine rt 6 hh ?_;refine rt 7 hh ?_;refine rt 8 hh ?_;refine rt 9 hh ?_;refine rg 10 fun κ hK=>?_;go_simp;refine(qCut HD4.o.e (HD4.o.get HA.o) hln).2.mono ?_;rintro e w5 ⟨rfl,he5,hc5⟩;rw[HDS.o];have H5:=θ he5;have HC5:Hid (Chg (exT B X) w w5):=θ (HC4.o.drew.trans hc5 (fun b hb=>Ei hb));have hk5:=(Bi he5).1;clear he5 hc5;refine hK.out _ _ (hk5) ?_;intro hh;try simp only[pt]
     refine rg 11 fun κ hK=>?_;go_simp;refine(qPut H5.o (k:=t) (s:=ds) (by rw[cB,H4.o.rlen]at hol;have :=HSTEP.o.1;omega) (by have :=HM.o.pv (i-1);rw[HDS.o]at this;exact this.2) E).2.mono ?_;rintro e w6 ⟨rfl,he6,hc6⟩;have H6:=θ he6;have HC6:Hid (Chg (exT B X) w w6):=θ (HC5.o.trans hc6 (fun b hb=>Ei hb));have hk6:=(Bi he6).1;clear he6 hc6 H5 HC5;refine hK.out _ _ (hk6) ?_;intro hh;try simp only[pt]
     refine rz ?_;clear hh hk4 HD4;obtain⟨c1,hq⟩:=Fo H6.o (a:Int) (t:Int);have hmv:=Fg (M:=M) HA.o (t:=t) (by rw[H4.o.rlen];exact HSTEP.o.1);rw[hmv.1,hmv.2]at hq;have HQ:=θ hq;clear hmv hq;go_wp2_with fail;refine HQ.o.mono ?_;rintro e w7 ⟨rfl,he7,hc7⟩;have H7:Hid (LvR B X w7 p pk pp rate mv m (inL (aB R a) t (i-1)) c M):=θ ⟨by rw[Xe,HDS.o];exact he7,HSTEP.o.2.perm⟩;have HC7:Hid (Chg (exT B X) w w7):=θ (HC6.o.trans hc7 (fun b hb=>Ei hb));obtain⟨k3,k4⟩:=H7.o.e.cell3;clear he7 hc7 HQ c1 H6 HC6 H4 HC4;obtain⟨mv',hmv'⟩:∃mv',IntKind.i64.wrap (mv+1)=mv':=⟨_,rfl⟩;have hsm:=H7.o.e.setM mv';have H8:Hid (LvR B X (w7.setCell ⟨p,3,none⟩ (.int .i64 mv')) p pk pp rate mv' m (inL (aB R a) t (i-1)) c M):=θ ⟨hsm.1,H7.o.perm⟩;have HC8:Hid (Chg (exT B X) w (w7.setCell ⟨p,3,none⟩ (.int .i64 mv'))):=θ (HC7.o.trans hsm.2 (fun b hb=>Ei hb));clear hsm H7 HC7;rcases HNX.o with ⟨rfl,rfl⟩ | ⟨h2,nx,rfl,hnx⟩
     ·go_wp2_with fail;go_roundw;case rel=>exact⟨0,t,-1,_,mv',by first | rfl | go_num,rfl,rfl,H8.o,fun j hj=>absurd hj (Nat.not_lt_zero _),HSTEP.o.2,E,Cy HTO9.o.1,Ei ⟨rfl,rfl⟩,HC8.o⟩
      case measure=>simp[intOf]
     ·have hna:nx≠a:=by
       intro e;subst e;have :=HA.o;rw[hnx]at this;injection this with this
       omega
      have hnl:nx≤900000:=by have h1:=(ar5.1 hnx).1;have h2:=H8.o.rlen;have h3:=iR (x:=i-1) HTO9.o.1;have h4:=bL HAL.o;omega
      have HMG:=θ (Xp (x:=i-1) hnx HAL.o hna HTO9.o.2);have ho9:bH nx a≤1000000:=by unfold bH;split<;>omega
      have HO:=θ (Da nx a E);have HN:=θ (lvIn (bH nx a) t ho9);have d5:decide ((0:Int)≤(nx:Int))=true:=aH1 E;clear hnx hna;go_wp2_with fail;refine(HO.o _).mono ?_;rintro e w' ⟨rfl,rfl⟩;go_wp2_with fail;refine(HN.o _).mono ?_;rintro e w' ⟨rfl,rfl⟩;go_wp2_with fail;go_roundw;case rel=>exact⟨i-1,t,_,_,mv',by first | rfl | (congr 1;omega),rfl,rfl,H8.o,fun j hj=>HPRE.o j E,HSTEP.o.2,E,Cy HTO9.o.1,Ej ⟨E,_,rfl,HMG.o⟩,HC8.o⟩
      case measure=>simp[intOf];omega
end
structure LvT (B:Nat) (X:Nat→Prop) (w:World) (p pk pp ra:Nat) (mv:Int) (t:List Int) (R:List Nat) (c:Nat) (M:Nat→Bool):Prop where
 byte:aU t
 len:t.length≤100000
 rows:IsRows (aA t) R
 lv:LvR B X w p pk pp (ra:Int) mv (aA t) R c M
 sm:oZ M (t.length+1) ra
 r1:1≤ra
 r64:ra≤64
theorem zH{t:List Int}(h:aU t)(hl:t.length≤100001):TxS (aA t):=⟨dY h,lB h,by rw[aI];omega⟩
section
variable {B:Nat}{X:Nat→Prop}{w w':World}{p pk pp ra:Nat}{mv:Int}{t:List Int}{R:List Nat}{c:Nat}{M:Nat→Bool}
theorem LvT.tx (h:LvT B X w p pk pp ra mv t R c M):TxS (aA t):=zH h.byte (by have :=h.len;omega)
theorem LvT.le (h:LvT B X w p pk pp ra mv t R c M):B≤w.heap.size:=h.lv.e.le
theorem LvT.below (h:LvT B X w p pk pp ra mv t R c M)(hb:Below w.heap.size w w'):LvT B X w' p pk pp ra mv t R c M:=⟨h.byte,h.len,h.rows,h.lv.below hb,h.sm,h.r1,h.r64⟩
theorem LvT.llen (h:LvT B X w p pk pp ra mv t R c M):(lvR (aA t) R).length=t.length+1:=by rw[cB,h.lv.rlen,aI]
theorem kY(h:LvT B X w p pk pp ra mv t R c M):Calls Tryz.prog 24 #[.pointer (some ⟨p,0,none⟩)] w fun e w'=>e= .returned (.int .i64 t.length)∧w=w':=
 Cz h.lv.e h.llen (by have :=h.len;omega)
theorem qG{l:List Int}{rate:Int}{k at_:Nat}(hm:TxS l)(hr:IsRows l R)(hk:R[k]? =some at_)(hp:R.Perm (List.range l.length)):∃av:Int,
  (∀(w':World) (mv:Int),LvR B X w' p pk pp rate mv l R c M→Calls Tryz.prog 101 #[.pointer (some ⟨p,0,none⟩), .int .i64 at_, .int .i64 k] w' fun e w''=>e= .returned (.int .i64 av)∧LvR B X w'' p pk pp rate mv l R c M∧Chg (exT B X) w' w'')∧
  ((at_=0∧av= -1)∨(0<at_∧∃ah:Nat,av=ah∧ah≤900000∧R[ah]? =some (at_-1))):=by
 have hal:at_<l.length:=ax4.1 (hp.mem_iff.1 (ax2 hk));have hrl:R.length=l.length:=by have :=hp.length_eq;simpa using this
 rcases aA2 at_ with rfl | h0
 ·refine⟨-1,fun w' mv h=>(Wt w' k p).mono ?_,Ei ⟨rfl,rfl⟩⟩;rintro e w'' ⟨rfl,rfl⟩;exact⟨rfl,h,Chg.refl⟩
 ·obtain⟨j,rfl⟩:∃j,at_=j+1:=⟨at_-1,E⟩;have hlf:=Ev hm hr hk;rw[vK E]at hlf;refine⟨_,fun w' mv h=>?_,Ej ⟨h0,_,rfl,by have :=(ar5.1 hlf).1;have :=hm.len;omega,hlf⟩⟩;have ha:=af0 (x:=((j+1:Nat):Int)) h.e (by rw[aG5];omega) (h.get hk) (by rw[cB];have :=hm.len;omega);rw[LvR.lf hm]at ha;refine ha.mono ?_;rintro e w'' ⟨rfl,he,hc⟩;exact⟨rfl,h.step he,hc⟩
theorem Wz(row:Nat)(w:World):Calls Tryz.prog 115 #[.int .i64 (-1), .int .i64 row] w fun e w'=>e= .returned (.int .i64 (-1))∧w=w':=by
 have d:decide ((row:Int)≤ -1)=false:=aG9 E;go_enter Tryz.func115,Tryz.ntmps115;go_wp2_with fail;go_ret;exact⟨rfl,rfl⟩
theorem Rf(row:Nat)(w:World):Calls Tryz.prog 109 #[.int .i64 (-1), .int .i64 row] w fun e w'=>e= .returned (.int .i64 (-1))∧w=w':=by
 have d:decide ((row:Int)< -1)=false:=aG9 E;go_enter Tryz.func109,Tryz.ntmps109;go_wp2_with fail;go_ret;exact⟨rfl,rfl⟩
theorem Kl{R':List Nat}{at_ row:Nat}{av:Int}(h:(at_=0∧av= -1)∨(0<at_∧∃ah:Nat,av=ah∧ah≤900000∧R'[ah]? =some (at_-1)))(hr:row≤R'.length)(q:Nat):∃av':Int,
  (∀w,Calls Tryz.prog 115 #[.int .i64 av, .int .i64 row] w fun e w'=>e= .returned (.int .i64 av')∧w=w')∧((at_=0∧av'= -1)∨(0<at_∧∃a':Nat,av'=a'∧(inL R' row q)[a']? =some (at_-1))):=by
 rcases h with ⟨h0,rfl⟩ | ⟨h0,ah,rfl,h9,hah⟩
 ·exact⟨-1,fun w=>Wz row w,Ei ⟨h0,rfl⟩⟩
 ·exact⟨_,fun w=>lvIn ah row E w,Ej ⟨h0,_,rfl,in_get hah hr⟩⟩
theorem Fb{R':List Nat}{at_ k:Nat}{av:Int}(h:(at_=0∧av= -1)∨(0<at_∧∃ah:Nat,av=ah∧ah≤900000∧R'[ah]? =some (at_-1)))(hk:R'[k]? =some at_):∃av':Int,
  (∀w,Calls Tryz.prog 109 #[.int .i64 av, .int .i64 k] w fun e w'=>e= .returned (.int .i64 av')∧w=w')∧((at_=0∧av'= -1)∨(0<at_∧∃a':Nat,av'=a'∧a'≤900000∧(aB R' k)[a']? =some (at_-1)∧∃ah:Nat,R'[ah]? =some (at_-1)∧a'=bH ah k)):=by
 rcases h with ⟨h0,rfl⟩ | ⟨h0,ah,rfl,h9,hah⟩
 ·exact⟨-1,fun w=>Rf k w,Ei ⟨h0,rfl⟩⟩
 ·have hne:ah≠k:=by intro e;subst e;rw[hah]at hk;injection hk with hk;omega
  exact⟨_,fun w=>Da ah k E w,Ej ⟨h0,_,rfl,by unfold bH;split<;>omega,pV hah (ar5.1 hk).1 hne,ah,hah,rfl⟩⟩
theorem Dv{t:List Int}(h:aU t){k:Nat}{b:Int}(h0:0≤b)(h1:b<256):aU (inL t k b):=fun x hx=>by
 rcases av9.1 ((eS t k b).mem_iff.1 hx)with rfl | hx
 ·exact⟨h0,h1⟩
 ·exact h x hx
theorem Al{t:List Int}(h:aU t){k:Nat}:aU (aB t k):=fun x hx=>h x ((eF t k).subset hx)
theorem Fs(L:List Nat)(k s:Nat):aV (L.set k s) k s=aV L k s:=by unfold aV;rw[List.take_set_of_le (aA5 _)]
theorem Ag(e:List Int)(s:Nat):Tl.of ((s:Int)::e)=(Tl.of e).add s 1:=by
 rw[←Tl.of_snoc];exact Tl.of_perm (List.perm_append_singleton _ _).symm
theorem Xd(h:LvT B X w p pk pp ra mv t R c M){at_ b:Nat}(hat:at_≤t.length)(hb:b<256)(hl:t.length<100000)(hc:c+t.length+10≤1000000):
  Calls Tryz.prog 55 #[.pointer (some ⟨p,0,none⟩), .int .i64 at_, .int .u8 b] w fun e w'=>e= .returned (.int .i64 0)∧(∃mv' R' c' M',c'≤c+t.length+5∧LvT B X w' p pk pp ra mv' (inL t at_ (b:Int)) R' c' M')∧Chg (exT B X) w w':=by
 have hl1:=aI t;have htx:=h.tx;have htx':TxS (aA (inL t at_ (b:Int))):=zH (Dv h.byte E E) (by rw[iR hat];omega);have hme:=aa9 t hat (b:Int);have H:=θ h;have HT:=θ htx;have HT':=θ htx';have HME:=θ hme;have HL1:=θ hl1;have HLEN:=θ (kY h);have HAS:=θ (qT h.lv.e (at_:Int) (t.length:Int) E E);have HOF:=θ (fun w=>oV (b:Int) w E E);clear h htx htx' hme hl1;go_enter Tryz.func55,Tryz.ntmps55;go_wp2_with fail;refine HLEN.o.mono ?_;rintro e w' ⟨rfl,rfl⟩;go_wp2_with fail;refine HAS.o.mono ?_;rintro e w1 ⟨rfl,he1,hc1⟩;have H1:Hid (LvR B X w1 p pk pp (ra:Int) 0 (aA t) R c M):=θ ⟨he1,H.o.lv.perm⟩;have HC1:=θ hc1;clear he1 hc1 HLEN HAS;go_wp2_with fail;refine(HOF.o _).mono ?_;rintro e w' ⟨rfl,rfl⟩;have HRO:=θ (yJ H1.o HT.o H.o.rows (pos:=at_) (by rw[HL1.o];omega));go_wp2_with fail;refine HRO.o.mono ?_;rintro e w2 ⟨k,rfl,hk,h2,hc2⟩;have H2:=θ h2;have HK:=θ hk;have HC2:Hid (Chg (exT B X) w w2):=θ (HC1.o.trans hc2 (fun b hb=>Ei hb));have hrl:=H2.o.rlen;have hll:(lvR (aA t) R).length≤1000000:=by have :=H.o.llen;omega
 have hkR:=(ar5.1 hk).1;have hkl:k<(lvR (aA t) R).length:=by rw[cB];exact hkR
 obtain⟨os,hos⟩:∃os,(pvS (aA t) at_).toNat=os:=⟨_,rfl⟩;have hos9:=(HT.o.pv at_).2;rw[hos]at hos9;have HOS:=θ hos;obtain⟨pw,k0,kw,hg⟩:=Ab h2.e (h2.get hk) hll;rw[hos]at hg;have HG:=θ hg;obtain⟨av,hav,hav2⟩:=qG (p:=p) (pk:=pk) (pp:=pp) (B:=B) (X:=X) (c:=c) (M:=M) (rate:=(ra:Int)) HT.o H.o.rows hk H.o.lv.perm;have HAV:=θ hav;have HAV2:=θ hav2;obtain⟨hle,hinv⟩:=ae2 HT.o.sy H.o.rows hk (s:=((b+1:Nat):Int)) E;have hlv:=ins_lv HT.o.sy H.o.rows hk (s:=((b+1:Nat):Int)) E (by have :=HT'.out.sy;rw[HME.o]at this;simpa using this) (lfC (aA t) (R.take k) ((b+1:Nat):Int));rw[ao2,hos,pH _ hkl]at hlv;have hto:bR (Tl.of (aA t)) ((b+1:Nat):Int)+aV ((lvR (aA t) R).set k (b+1)) k (b+1)=((lfC (aA t) (R.take k) ((b+1:Nat):Int):Nat):Int):=by
  rw[xK HT.o _ E,Fs];have :=Et HT.o.sy R k (b+1);omega
 obtain⟨row,hrow⟩:∃row,lfC (aA t) (R.take k) ((b+1:Nat):Int)=row:=⟨_,rfl⟩;rw[hrow]at hle hinv hlv hto;have hmm:inL (aA t) at_ ((b+1:Nat):Int)=aA (inL t at_ (b:Int)):=by rw[HME.o];rfl
 rw[hmm]at hinv hlv;have HLE:=θ hle;have HINV:=θ hinv;have HLV:=θ hlv;have HTO:=θ hto;have HHL:Hid (((lvR (aA t) R).set k (b+1)).length≤1000000∧row≤((lvR (aA t) R).set k (b+1)).length):=θ (by rw[at4];exact⟨hll,by rw[cB];exact hle⟩);have hpl:=θ (So (M:=M) (R:=R) hle);have hpp:=θ (Sl (M:=M) (R:=R) (row:=row) (at_:=at_) (n:=(aA t).length) (by rw[HL1.o];omega));have htl:(Tl.of (aA t)).add (b+1) 1=Tl.of (aA (inL t at_ (b:Int))):=by
  rw[←Ag,←hmm];exact(Tl.of_perm (eS _ _ _)).symm
 have HTL:=θ htl;have hru:(R.map (upN at_)).length=R.length:=at1 _;obtain⟨av',hin,hin2⟩:=Kl (R':=R.map (upN at_)) (at_:=at_) (row:=row) (av:=av) (by
  rcases hav2 with h | ⟨h0,ah,e,h9,hah⟩
  ·exact Ei h
  ·refine Ej ⟨h0,ah,e,h9,?_⟩
   rw[ar6,hah]
   show some (upN at_ (at_-1))=_
   unfold upN;rw[aH9 E]) (by rw[hru];exact hle) at_
 have HIN:=θ hin;have HIN2:=θ hin2;have HCUR:Hid ((inL (R.map (upN at_)) row at_)[row]? =some at_):=θ (Cy (by rw[hru];exact hle));have HNT:Hid (-(Tl.of (aA t)).N (b+1)≤1∧(1:Int)≤2147483648-(Tl.of (aA t)).all):=θ (by
  constructor
  ·show -(((cnt (aA t) ((b+1:Nat):Int)):Nat):Int)≤1;omega
  ·show (1:Int)≤2147483648-(((aA t).length:Nat):Int);rw[HL1.o];omega)
 have HW1:Hid (((b+1:Nat):Int)=(b:Int)+1):=θ E;have hb9:b+1<257:=E;clear hk h2 hc2 HRO H1 HC1 HOF hrl hkR hos hg hav hav2 hle hinv hlv hto hrow hmm htl hru hin hin2;rw[←HW1.o];obtain⟨sb,hsb⟩:∃sb,b+1=sb:=⟨_,rfl⟩;rw[hsb]at HLV HTO HHL HTL HNT hb9⊢;clear HW1;go_wp2_with fail;refine HG.o.mono ?_;rintro e w3 ⟨rfl,he3,hc3⟩;have H3:Hid (LvR B X w3 p pk pp (ra:Int) 0 (aA t) R c M):=θ (H2.o.step he3);have HC3:Hid (Chg (exT B X) w w3):=θ (HC2.o.trans hc3 (fun b hb=>Ei hb));clear he3 hc3 HG H2 HC2 k0 kw;go_wp2_with fail;refine(HAV.o _ _ H3.o).mono ?_;rintro e w4 ⟨rfl,h4,hc4⟩;have H4:=θ h4;have HC4:Hid (Chg (exT B X) w w4):=θ (HC3.o.trans hc4 (fun b hb=>Ei hb));obtain⟨k0,hq⟩:=Aa h4.e (k:=k) (s:=sb) hkl hb9 hll;have HQ:=θ hq;clear h4 hc4 HAV H3 HC3 hq;go_wp2_with fail;refine HQ.o.mono ?_;rintro e w5 ⟨rfl,he5,hc5⟩;have H5:=θ he5;have HC5:Hid (Chg (exT B X) w w5):=θ (HC4.o.trans hc5 (fun b hb=>Ei hb));have hq:=lvTo he5 (i:=k) (s:=sb) (by rw[ar8,aH9 rfl,aH9 hkl]) HHL.o.1;rw[HTO.o]at hq;have HQ:=θ hq;clear he5 hc5 HC4 H4 k0 hq;go_wp2_with fail;refine HQ.o.mono ?_;rintro e w6 ⟨rfl,he6,hc6⟩;have H6:=θ he6;have HC6:Hid (Chg (exT B X) w w6):=θ (HC5.o.trans hc6 (fun b hb=>Ei hb));obtain⟨k0,hq⟩:=qPut he6 (k:=row) (s:=os) HHL.o.2 hos9 HHL.o.1;rw[←HLV.o]at hq;have HQ:=θ hq;clear he6 hc6 HC5 H5 hq;go_wp2_with fail;refine HQ.o.mono ?_;rintro e w7 ⟨rfl,he7,hc7⟩;have H7:=θ he7;have HC7:Hid (Chg (exT B X) w w7):=θ (HC6.o.trans hc7 (fun b hb=>Ei hb));obtain⟨k0,hq⟩:=yT he7 (s:=sb) (n:=1) hb9 HNT.o.1 HNT.o.2;rw[HTL.o]at hq;have HQ:=θ hq;clear he7 hc7 HC6 H6 hq;go_wp2_with fail;refine HQ.o.mono ?_;rintro e w8 ⟨rfl,he8,hc8⟩;have H8:=θ he8;have HC8:Hid (Chg (exT B X) w w8):=θ (HC7.o.trans hc8 (fun b hb=>Ei hb));obtain⟨k1,hq⟩:=qRowIn he8 (row:Int) (by rw[hpl.out.1];rw[iR (by rw[jF];exact HLE.o),jF];have :=H.o.lv.rlen;have :=HL1.o;omega);rw[hpl.out.1,hpl.out.2]at hq;have HQ:=θ hq;clear he8 hc8 HC7 H7 hq;go_wp2_with fail;refine HQ.o.mono ?_;rintro e w9 ⟨rfl,he9,hc9⟩;have H9:=θ he9;have HC9:Hid (Chg (exT B X) w w9):=θ (HC8.o.trans hc9 (fun b hb=>Ei hb));obtain⟨k1,hq⟩:=qPosIn he9 (at_:Int) (by rw[hpp.out.2.2];have :=HL1.o;omega);rw[hpp.out.1,hpp.out.2.1,hpp.out.2.2]at hq;have HQ:=θ hq;clear he9 hc9 HC8 H8 hq;go_wp2_with fail;refine HQ.o.mono ?_;rintro e w10 ⟨rfl,he10,hc10⟩;have hN:(aA t).length+1=(aA (inL t at_ (b:Int))).length:=by rw[aI,aI,iR hat]
 rw[hN]at he10;have H10:Hid (LvR B X w10 p pk pp (ra:Int) 0 (aA (inL t at_ (b:Int))) (inL (R.map (upN at_)) row at_) c (upM M at_)):=θ ⟨he10,HINV.o.perm⟩;have HC10:Hid (Chg (exT B X) w w10):=θ (HC9.o.trans hc10 (fun b hb=>Ei hb));clear he10 hc10 HC9 H9 k1;go_wp2_with fail;refine(HIN.o _).mono ?_;rintro e w' ⟨rfl,rfl⟩;have HRE:=θ (rZ (l:=aA t) H10.o HT'.out (fun j hj=>by rw[HME.o,lK (by have :=HL1.o;omega),aH9 hj]) HINV.o (by rw[←hN,HL1.o];omega) HCUR.o HIN2.o);clear HIN H10;go_wp2_with fail;refine HRE.o.mono ?_;rintro e w11 ⟨rfl,⟨R',mv',h11,hr11⟩,hc11⟩;have H11:=θ h11;have HR11:=θ hr11;have HC11:Hid (Chg (exT B X) w w11):=θ (HC10.o.trans hc11 (fun b hb=>Ei hb));have HFI:=θ (Rd (at_:=at_) h11 HT'.out hr11 H.o.r1 H.o.r64 (by rw[←hN,HL1.o];omega) (by
  rw[←hN]
  exact ad8 (by rw[HL1.o];exact H.o.sm) (by rw[HL1.o];omega)) (by rw[←hN,HL1.o];omega))
 clear h11 hr11 hc11 HRE HC10;go_wp2_with fail;refine HFI.o.mono ?_;rintro e w12 ⟨rfl,⟨c',M',hc',h12,hs12⟩,hc12⟩;have HF:Hid (LvT B X w12 p pk pp ra mv' (inL t at_ (b:Int)) R' c' M'):=θ ⟨Dv H.o.byte E E,by rw[iR hat];omega,HR11.o,h12,by rw[←aI];exact hs12,H.o.r1,H.o.r64⟩;have HC12:Hid (Chg (exT B X) w w12):=θ (HC11.o.trans hc12 (fun b hb=>Ei hb));have hcc:c'≤c+t.length+5:=by rw[←hN,HL1.o]at hc';omega
 clear h12 hs12 hc12 hc' HFI HC11;go_wp2_with fail;go_ret;exact⟨rfl,⟨mv',R',c',M',hcc,HF.o⟩,HC12.o⟩
end
theorem mT{m:List Int}(hm:IsSyms m)(R:List Nat):bZ m R=bF (lvR m R):=by
 unfold bZ bF lvR;rw[av0];apply at7;intro q _;have :=Fk hm q;show pvS m q=(((pvS m q).toNat:Nat):Int);omega
theorem tJ{t:List Int}{R:List Nat}(hb:aU t)(hr:IsRows (aA t) R):RW t R (lvR (aA t) R):=⟨hb,hr,mT (dY hb) R⟩
theorem zE{t:List Int}{R:List Nat}(hb:aU t)(hr:IsRows (aA t) R):Tl.of (bF (lvR (aA t) R))=Tl.of (aA t):=by
 rw[←mT (dY hb)];exact Tl.of_perm (lH hr)
theorem ak6(e:List Int)(s:Nat):((Tl.of e).add s 1).add s (-1)=Tl.of e:=by
 show (⟨_,_⟩:Tl)=⟨_,_⟩;congr 1
 ·funext x;show upd (upd (Tl.of e).N s ((Tl.of e).N s+1)) s (upd (Tl.of e).N s ((Tl.of e).N s+1) s+ -1) x=(Tl.of e).N x;by_cases h:x=s
  ·subst h;unfold upd;simp only[aI0];omega
  ·unfold upd;rw[aH8 h,aH8 h]
 ·show (e.length:Int)+1+ -1=_;omega
theorem Lr{l e:List Int}{s:Nat}(h:l.Perm ((s:Int)::e)):(Tl.of l).add s (-1)=Tl.of e:=by
 rw[Tl.of_perm h,Ag,ak6]
section
variable {B:Nat}{X:Nat→Prop}{w w':World}{p pk pp ra:Nat}{mv:Int}{t:List Int}{R:List Nat}{c:Nat}{M:Nat→Bool}
theorem lrOn{rate:Int}(h:LvR B X w p pk pp rate mv (aA t) R c M)(hb:aU t)(hr:IsRows (aA t) R)(hl:t.length≤100000)(hTab:BitTab w)(htl:0<B){i q:Nat}(hi:R[i]? =some q)(hq:q<t.length):
  w.cell? ⟨p,0,none⟩=some (.pointer (some ⟨pk,0,none⟩))∧∃j:Nat,R[j]? =some (q+1)∧Calls Tryz.prog 60 #[.pointer (some ⟨pk,0,none⟩), .int .i64 i] w fun e w'=>e= .returned (.int .i64 j)∧LvR B X w' p pk pp rate mv (aA t) R c M∧Chg (exT B X) w w':=by
 have hR:=tJ hb hr;have hrl:=h.rlen;rw[aI]at hrl;have hi2:i≤t.length:=by have :=(ar5.1 hi).1;omega
 have hro:ro R i=q:=by unfold ro;rw[hi];rfl
 obtain⟨j,h1,h2,h3,h4⟩:=hR.onSel hi2;have hfr:=(hR.frowI hi2).2;have hwh:=hR.which hi2;rw[zE hb hr]at hwh;have hq2:=qOn h.e hTab htl (i:=i) (s:=eI t R i) (by rw[cB,h.rlen,aI];omega) hfr hwh (by rw[cB,h.rlen,aI];omega);have e:bR (Tl.of (aA t)) (eI t R i:Nat)=(aQ (bF (lvR (aA t) R)) (eI t R i:Int):Int):=by
  rw[←zE hb hr];exact Um _ E
 rw[e,h4]at hq2;refine⟨hq2.1,j,?_,hq2.2.mono ?_⟩
 ·rw[hro,aB3 E]at h2;unfold ro at h2;rw[bW E]at h2;rw[ar3 E,h2]
 ·rintro e w' ⟨rfl,he,hc⟩;exact⟨rfl,h.step he,hc⟩
theorem Wy(h:LvT B X w p pk pp ra mv t R c M)(hTab:BitTab w)(htl:0<B){at_:Nat}(hat:at_<t.length)(hc:c+t.length+10≤1000000):
  Calls Tryz.prog 53 #[.pointer (some ⟨p,0,none⟩), .int .i64 at_] w fun e w'=>e= .returned (.int .i64 0)∧(∃mv' R' c' M',c'≤c+t.length+5∧LvT B X w' p pk pp ra mv' (aB t at_) R' c' M')∧Chg (exT B X) w w':=by
 have hl1:=aI t;have hln:=h.len;have htx:=h.tx;have hol:=bL hat;have htx':TxS (aA (aB t at_)):=zH (Al h.byte) E;have hme:=Ui t hat;have H:=θ h;have HT:=θ htx;have HT':=θ htx';have HME:=θ hme;have HL1:=θ hl1;have HLEN:=θ (kY h);have HAS:=θ (qT h.lv.e (at_:Int) ((t.length:Int)-1) E E);clear h htx htx' hme hl1;go_enter Tryz.func53,Tryz.ntmps53;go_wp2_with fail;refine HLEN.o.mono ?_;rintro e w' ⟨rfl,rfl⟩;go_wp2_with fail;refine HAS.o.mono ?_;rintro e w1 ⟨rfl,he1,hc1⟩;have H1:Hid (LvR B X w1 p pk pp (ra:Int) 0 (aA t) R c M):=θ ⟨he1,H.o.lv.perm⟩;have HC1:=θ hc1;clear he1 hc1 HLEN HAS;have HRO:=θ (yJ H1.o HT.o H.o.rows (pos:=at_) (by rw[HL1.o];omega));go_wp2_with fail;refine HRO.o.mono ?_;rintro e w2 ⟨k,rfl,hk,h2,hc2⟩;have H2:=θ h2;have HK:=θ hk;have HC2:Hid (Chg (exT B X) w w2):=θ (HC1.o.trans hc2 (fun b hb=>Ei hb));have hrl:=h2.rlen;have hll:(lvR (aA t) R).length≤1000000:=by have :=H.o.llen;omega
 have hkR:=(ar5.1 hk).1;have hkl:k<(lvR (aA t) R).length:=by rw[cB];exact hkR
 obtain⟨k0,bh,hbh,hon⟩:=lrOn h2 H.o.byte H.o.rows hln (hTab.below (eE HC2.o H.o.le) htl) htl hk hat;have HON:=θ hon;have HBH:=θ hbh;have hbR:=(ar5.1 hbh).1;have hbl:bh<(lvR (aA t) R).length:=by rw[cB];exact hbR
 have hkb:k≠bh:=by intro e;subst e;rw[hk]at hbh;injection hbh with hbh;omega
 obtain⟨av,hav,hav2⟩:=qG (p:=p) (pk:=pk) (pp:=pp) (B:=B) (X:=X) (c:=c) (M:=M) (rate:=(ra:Int)) HT.o H.o.rows hk H.o.lv.perm;have HAV:=θ hav;obtain⟨os,hos⟩:∃os,(pvS (aA t) at_).toNat=os:=⟨_,rfl⟩;have hos9:=(HT.o.pv at_).2;rw[hos]at hos9;obtain⟨bs,hbs⟩:∃bs,(pvS (aA t) (at_+1)).toNat=bs:=⟨_,rfl⟩;have hbs9:=HT.o.pv (at_+1);rw[hbs,bN (by rw[HL1.o];omega)]at hbs9;have HOS:=θ hos;have HBS:=θ hbs;have hinv:=ad5 HT.o.sy H.o.rows hk (by rw[HL1.o];omega);have hlv:=del_lv HT.o.sy H.o.rows hk hbh (by rw[←HME.o];exact HT'.out.sy) (by rw[HL1.o];omega);rw[hos]at hlv;rw[←HME.o]at hinv hlv;have hperm:(aA t).Perm ((bs:Int)::aA (aB t at_)):=by
  rw[HME.o,hbs9.1];exact dJ (by rw[jY (by rw[HL1.o];omega)];exact ar3 _)
 have htl2:=Lr hperm;have HINV:=θ hinv;have HLV:=θ hlv;have HTL:=θ htl2;have hno:at_∉aB R k:=by
  have hnd:(at_::aB R k).Nodup:=(dJ hk).nodup_iff.1 H.o.rows.nodup;exact(ax7.1 hnd).1
 have hpl:=θ (Nf (M:=M) (R:=R) hkR);have hpp:=θ (Nc (M:=M) (R:=aB R k) (at_:=at_) (n:=(aA t).length) (by rw[HL1.o];omega) hno);obtain⟨av',hout,hout2⟩:=Fb (R':=R) (at_:=at_) (k:=k) (av:=av) hav2 hk;have HOUT:=θ hout;have HA2:Hid ((at_=0∧av'= -1)∨(0<at_∧∃a':Nat,av'=a'∧((aB R k).map (dpN at_))[a']? =some (at_-1))):=θ (by
  rcases hout2 with h | ⟨h0,a',e,_,ha,_⟩
  ·exact Ei h
  ·refine Ej ⟨h0,a',e,?_⟩
   rw[ar6,ha]
   show some (dpN at_ (at_-1))=_
   unfold dpN;rw[aH9 E])
 have HCUR:Hid (((aB R k).map (dpN at_))[bH bh k]? =some at_):=θ (by
  rw[ar6,pV hbh hkR (fun e=>hkb e.symm)]
  show some (dpN at_ (at_+1))=_
  unfold dpN;rw[aH8 E];rfl)
 have HOB:=θ (fun w=>Da bh k E w);have HNT:Hid (-(Tl.of (aA t)).N bs≤ -1∧(-1:Int)≤2147483648-(Tl.of (aA t)).all):=θ (by
  constructor
  ·show -(((cnt (aA t) (bs:Int)):Nat):Int)≤ -1
   rw[vR hperm]
   have :1≤cnt ((bs:Int)::aA (aB t at_)) (bs:Int):=by unfold cnt;rw[ap4];simp
   omega
  ·show (-1:Int)≤2147483648-(((aA t).length:Nat):Int);rw[HL1.o];omega)
 have HCK:Hid (((lvR (aA t) R).set bh os)[k]? =some os∧((lvR (aA t) R).set bh os).length≤1000000):=θ ⟨by rw[ar8,aH8 (fun e=>hkb e.symm),tE hk,hos],by rw[at4];exact hll⟩;have hbs257:=hbs9.2;clear hk h2 hc2 HRO H1 HC1 hrl hbh hon hbR hkb hav hav2 hos hbs hbs9 hinv hlv hperm htl2 hno hout hout2;go_wp2_with fail;refine HON.o.mono ?_;rintro e w3 ⟨rfl,h3,hc3⟩;have H3:=θ h3;have HC3:Hid (Chg (exT B X) w w3):=θ (HC2.o.trans hc3 (fun b hb=>Ei hb));clear h3 hc3 HON H2 HC2 k0;go_wp2_with fail;refine(HAV.o _ _ H3.o).mono ?_;rintro e w4 ⟨rfl,h4,hc4⟩;have H4:=θ h4;have HC4:Hid (Chg (exT B X) w w4):=θ (HC3.o.trans hc4 (fun b hb=>Ei hb));obtain⟨pw,k0,kw,hg⟩:=Ab h4.e (h4.get HBH.o) hll;rw[HBS.o]at hg;have HG:=θ hg;clear h4 hc4 HAV H3 HC3 hg;go_wp2_with fail;refine HG.o.mono ?_;rintro e w5 ⟨rfl,he5,hc5⟩;have H5:Hid (LvR B X w5 p pk pp (ra:Int) 0 (aA t) R c M):=θ (H4.o.step he5);have HC5:Hid (Chg (exT B X) w w5):=θ (HC4.o.trans hc5 (fun b hb=>Ei hb));clear he5 hc5 HG H4 HC4 k0 kw;obtain⟨pw2,k0,kw,hg⟩:=Ab H5.o.e (H5.o.get HK.o) hll;rw[HOS.o]at hg;have HG:=θ hg;clear hg;go_wp2_with fail;refine HG.o.mono ?_;rintro e w6 ⟨rfl,he6,hc6⟩;have HC6:Hid (Chg (exT B X) w w6):=θ (HC5.o.trans hc6 (fun b hb=>Ei hb));clear k0 kw;obtain⟨k0,hq⟩:=Aa he6 (k:=bh) (s:=os) hbl hos9 hll;have HQ:=θ hq;clear he6 hc6 HG H5 HC5 hq;go_wp2_with fail;refine HQ.o.mono ?_;rintro e w7 ⟨rfl,he7,hc7⟩;have HC7:Hid (Chg (exT B X) w w7):=θ (HC6.o.trans hc7 (fun b hb=>Ei hb));clear k0;obtain⟨k0,hq⟩:=qCut he7 (k:=k) (s:=os) HCK.o.1 HCK.o.2;rw[←HLV.o]at hq;have HQ:=θ hq;clear he7 hc7 HC6 hq;go_wp2_with fail;refine HQ.o.mono ?_;rintro e w8 ⟨rfl,he8,hc8⟩;have HC8:Hid (Chg (exT B X) w w8):=θ (HC7.o.trans hc8 (fun b hb=>Ei hb));clear k0;obtain⟨k0,hq⟩:=yT he8 (s:=bs) (n:= -1) hbs257 HNT.o.1 HNT.o.2;rw[HTL.o]at hq;have HQ:=θ hq;clear he8 hc8 HC7 hq;go_wp2_with fail;refine HQ.o.mono ?_;rintro e w9 ⟨rfl,he9,hc9⟩;have HC9:Hid (Chg (exT B X) w w9):=θ (HC8.o.trans hc9 (fun b hb=>Ei hb));obtain⟨k1,hq⟩:=ai4 he9 (k:Int);rw[hpl.out.1,hpl.out.2]at hq;have HQ:=θ hq;clear he9 hc9 HC8 hq k0;go_wp2_with fail;refine HQ.o.mono ?_;rintro e w10 ⟨rfl,he10,hc10⟩;have HC10:Hid (Chg (exT B X) w w10):=θ (HC9.o.trans hc10 (fun b hb=>Ei hb));clear k1;obtain⟨k1,hq⟩:=ai3 he10 (at_:Int);rw[hpp.out.1,hpp.out.2.1,hpp.out.2.2]at hq;have HQ:=θ hq;clear he10 hc10 HC9 hq;have HN:Hid ((aA t).length-1=(aA (aB t at_)).length∧(aA (aB t at_)).length=t.length):=θ (by rw[aI,aI];omega);go_wp2_with fail;refine HQ.o.mono ?_;rintro e w11 ⟨rfl,he11,hc11⟩;rw[HN.o.1]at he11;have H11:Hid (LvR B X w11 p pk pp (ra:Int) 0 (aA (aB t at_)) ((aB R k).map (dpN at_)) c (dpM M at_)):=θ ⟨he11,HINV.o.perm⟩;have HC11:Hid (Chg (exT B X) w w11):=θ (HC10.o.trans hc11 (fun b hb=>Ei hb));clear he11 hc11 HC10 k1;go_wp2_with fail;refine(HOB.o _).mono ?_;rintro e w' ⟨rfl,rfl⟩;go_wp2_with fail;refine(HOUT.o _).mono ?_;rintro e w' ⟨rfl,rfl⟩;have HRE:=θ (rZ (l:=aA t) H11.o HT'.out (fun j hj=>by rw[HME.o,qA (by have :=HL1.o;omega),aH9 hj]) HINV.o (by rw[HN.o.2];exact hat) HCUR.o HA2.o);clear HOB HOUT H11;go_wp2_with fail;refine HRE.o.mono ?_;rintro e w12 ⟨rfl,⟨R',mv',h12,hr12⟩,hc12⟩;have HR12:=θ hr12;have HC12:Hid (Chg (exT B X) w w12):=θ (HC11.o.trans hc12 (fun b hb=>Ei hb));have HFI:=θ (Rd (at_:=at_) h12 HT'.out hr12 H.o.r1 H.o.r64 (by rw[HN.o.2];exact hat) (by
  rw[HN.o.2]
  exact Wj H.o.sm) (by rw[HN.o.2];omega))
 clear h12 hr12 hc12 HRE HC11;go_wp2_with fail;refine HFI.o.mono ?_;rintro e w13 ⟨rfl,⟨c',M',hc',h13,hs13⟩,hc13⟩;have HF:Hid (LvT B X w13 p pk pp ra mv' (aB t at_) R' c' M'):=θ ⟨Al H.o.byte,E,HR12.o,h13,by rw[←aI];exact hs13,H.o.r1,H.o.r64⟩;have HC13:Hid (Chg (exT B X) w w13):=θ (HC12.o.trans hc13 (fun b hb=>Ei hb));have hcc:c'≤c+t.length+5:=by rw[HN.o.2]at hc';omega
 clear h13 hs13 hc13 hc' HFI HC12;go_wp2_with fail;go_ret;exact⟨rfl,⟨mv',R',c',M',hcc,HF.o⟩,HC13.o⟩
end
end
end Go.Proofs.YtchinbgemenenaaGreatDoor
