/- Lemmas and contracts under the claims of this seat. No condition. -/
import Derived.BigQuiet
import Derived.Test.YtchinbgemenenaaGreatDoorZr1
import Derived.Test.YtchinbgemenenaaGreatDoorZr7
import Derived.Test.YtchinbgemenenaaGreatDoorZr9
import Derived.Test.YtchinbgemenenaaGreatDoorZr11
import Derived.Test.YtchinbgemenenaaGreatDoorZr12
import Derived.Test.YtchinbgemenenaaGreatDoorZr15
namespace Go.Proofs.YtchinbgemenenaaGreatDoor
set_option linter.unusedVariables false
set_option linter.unusedSimpArgs false
set_option maxRecDepth 100000
set_option maxHeartbeats 12800000
section
open Go.RowKit
theorem Zs{α:Type}(L:List α){k b:Nat}(x:α)(hk:k<L.length)(hne:k≠b):aB (L.set b x) k=(aB L k).set (bH b k) x:=by
 apply aq3;intro j;have hl:=bL hk;rw[cQ _ (by rw[at4];exact hk),ar8,ar8,ar8,cQ L hk];unfold bH;by_cases h1:j<k
 ·simp only[aH9 h1];by_cases h2:k<b
  ·rw[aH9 h2,aH8 E,aH8 E]
  ·rw[aH8 h2];by_cases h3:b=j
   ·rw[aH9 h3,aH9 h3,aH9 E,aH9 E]
   ·rw[aH8 h3,aH8 h3]
 ·simp only[aH8 h1];by_cases h2:k<b
  ·rw[aH9 h2];by_cases h3:b=j+1
   ·rw[aH9 h3];by_cases h4:b<L.length
    ·rw[aH9 h4,aH9 (show b-1=j by omega),aH9 E]
    ·rw[aH8 h4,aH9 (show b-1=j by omega),aH8 E]
   ·rw[aH8 h3,aH8 E]
  ·rw[aH8 h2,aH8 E,aH8 E]
theorem ab1{e:List Int}(h:∀x∈e,0≤x)(s:Nat)(hs:s<257):bR (Tl.of e) s=(aQ e (s:Int):Int):=by
 unfold bR;rw[show gX (s:Int)=s by unfold gX;omega];exact lD h s
theorem Px{t:List Int}(h:aU t){k:Nat}{b:Int}(h0:0≤b)(h1:b<256):aU (t.set k b):=fun x hx=>by
 rcases List.mem_or_eq_of_mem_set hx with hx | rfl
 ·exact h x hx
 ·exact⟨h0,h1⟩
section
variable {B:Nat}{X:Nat→Prop}{w w':World}{p pk pp ra:Nat}{mv:Int}{t:List Int}{R:List Nat}{c:Nat}{M:Nat→Bool}
theorem lvSet(h:LvT B X w p pk pp ra mv t R c M)(hTab:BitTab w)(htl:0<B){at_ b:Nat}(hat:at_<t.length)(hb:b<256):
  Calls Tryz.prog 54 #[.pointer (some ⟨p,0,none⟩), .int .i64 at_, .int .u8 b] w fun e w'=>e= .returned (.int .i64 0)∧(∃mv' R',LvT B X w' p pk pp ra mv' (t.set at_ (b:Int)) R' c M)∧Chg (exT B X) w w':=by
 have hl1:=aI t;have hln:=h.len;have htx:=h.tx;have hbl9:aU (t.set at_ (b:Int)):=Px h.byte E E;have htx':TxS (aA (t.set at_ (b:Int))):=zH hbl9 (by rw[at4];omega);have hme:=Uj t hat (b:Int);have H:=θ h;have HT:=θ htx;have HT':=θ htx';have HME:=θ hme;have HL1:=θ hl1;have HBL:=θ hbl9;have HLEN:=θ (kY h);have HAS:=θ (qT h.lv.e (at_:Int) ((t.length:Int)-1) E E);have HOF:=θ (fun w=>oV (b:Int) w E E);clear h htx htx' hme hl1 hbl9;go_enter Tryz.func54,Tryz.ntmps54;go_wp2_with fail;refine HLEN.o.mono ?_;rintro e w' ⟨rfl,rfl⟩;go_wp2_with fail;refine HAS.o.mono ?_;rintro e w1 ⟨rfl,he1,hc1⟩;have H1:Hid (LvR B X w1 p pk pp (ra:Int) 0 (aA t) R c M):=θ ⟨he1,H.o.lv.perm⟩;have HC1:=θ hc1;clear he1 hc1 HLEN HAS;have HRO:=θ (yJ H1.o HT.o H.o.rows (pos:=at_) (by rw[HL1.o];omega));go_wp2_with fail;refine HRO.o.mono ?_;rintro e w2 ⟨k,rfl,hk,h2,hc2⟩;have H2:=θ h2;have HK:=θ hk;have HC2:Hid (Chg (exT B X) w w2):=θ (HC1.o.trans hc2 (fun b hb=>Ei hb));have hrl:=h2.rlen;have hll:(lvR (aA t) R).length≤1000000:=by have :=H.o.llen;omega
 have hkR:=(ar5.1 hk).1;have hkl:k<(lvR (aA t) R).length:=by rw[cB];exact hkR
 obtain⟨k0,bh,hbh,hon⟩:=lrOn h2 H.o.byte H.o.rows hln (hTab.below (eE HC2.o H.o.le) htl) htl hk hat;have HON:=θ hon;have HBH:=θ hbh;have hbR:=(ar5.1 hbh).1;have hbl:bh<(lvR (aA t) R).length:=by rw[cB];exact hbR
 have hkb:k≠bh:=by intro e;subst e;rw[hk]at hbh;injection hbh with hbh;omega
 obtain⟨av,hav,hav2⟩:=qG (p:=p) (pk:=pk) (pp:=pp) (B:=B) (X:=X) (c:=c) (M:=M) (rate:=(ra:Int)) HT.o H.o.rows hk H.o.lv.perm;have HAV:=θ hav;have HAV2:=θ hav2;obtain⟨os,hos⟩:∃os,(pvS (aA t) at_).toNat=os:=⟨_,rfl⟩;have hosp:=HT.o.pv at_;rw[hos]at hosp;obtain⟨bs,hbs⟩:∃bs,(pvS (aA t) (at_+1)).toNat=bs:=⟨_,rfl⟩;have hbs9:=HT.o.pv (at_+1);rw[hbs,bN (by rw[HL1.o];omega)]at hbs9;have HOS:=θ hos;have HOSP:=θ hosp;have HBS:=θ hbs;have HBS9:=θ hbs9;obtain⟨sb,hsb⟩:∃sb,b+1=sb:=⟨_,rfl⟩;have hsb2:(b:Int)+1=(sb:Int):=E;have hsb9:0<sb∧sb<257:=E;rw[hsb2]at HME HOF;have hos9:=hosp.2;have hbs257:=hbs9.2;clear hk h2 hc2 HRO H1 HC1 hbh hon hav hav2 hos hosp hbs hbs9;go_wp2_with fail;refine(HOF.o _).mono ?_;rintro e w' ⟨rfl,rfl⟩;go_wp2_with fail;refine HON.o.mono ?_;rintro e w3 ⟨rfl,h3,hc3⟩;have H3:=θ h3;have HC3:Hid (Chg (exT B X) w w3):=θ (HC2.o.trans hc3 (fun b hb=>Ei hb));clear h3 hc3 HON H2 HC2 k0 HOF;go_wp2_with fail;refine(HAV.o _ _ H3.o).mono ?_;rintro e w4 ⟨rfl,h4,hc4⟩;have H4:=θ h4;have HC4:Hid (Chg (exT B X) w w4):=θ (HC3.o.trans hc4 (fun b hb=>Ei hb));obtain⟨pw,k0,kw,hg⟩:=Ab h4.e (h4.get HBH.o) hll;rw[HBS.o]at hg;have HG:=θ hg;clear h4 hc4 HAV H3 HC3 hg;go_wp2_with fail;refine HG.o.mono ?_;rintro e w5 ⟨rfl,he5,hc5⟩;have H5:Hid (LvR B X w5 p pk pp (ra:Int) 0 (aA t) R c M):=θ (H4.o.step he5);have HC5:Hid (Chg (exT B X) w w5):=θ (HC4.o.trans hc5 (fun b hb=>Ei hb));clear he5 hc5 HG H4 HC4 k0 kw;by_cases hsame:bs=sb
 ·have d1:((bs:Int)==(sb:Int))=true:=by rw[hsame];simp
  have d1':(bs==sb)=true:=by rw[hsame];simp
  have HTT:Hid (t.set at_ (b:Int)=t):=θ (by
   have h1:=HBS9.o.1
   have h2:=kS hat
   have e:t[at_]=(b:Int):=E
   rw[←e];exact List.set_getElem_self hat)
  clear hsame;go_wp2_with fail;go_ret;rw[HTT.o];exact⟨rfl,⟨0,R,⟨H.o.byte,H.o.len,H.o.rows,H5.o,H.o.sm,H.o.r1,H.o.r64⟩⟩,HC5.o⟩
 ·have d1:((bs:Int)==(sb:Int))=false:=by rw[aG5];omega
  have d1':(bs==sb)=false:=by rw[aG5];exact hsame
  have hne:sy (aA t) at_≠(sb:Int):=by rw[←HBS9.o.1];omega
  have hrl:R.length=t.length+1:=by rw[H.o.lv.rlen,HL1.o]
  have hp1:(aA t).Perm ((bs:Int)::aB (aA t) at_):=by
   rw[HBS9.o.1];exact dJ (by rw[jY (by rw[HL1.o];omega)];exact ar3 _)
  have hp2:(aA (t.set at_ (b:Int))).Perm ((sb:Int)::aB (aA t) at_):=by
   rw[HME.o,←pH _ (show at_<(aA t).length by rw[HL1.o];omega)];exact eS _ _ _
  have HTL1:=θ (Lr hp1);have HTL2:Hid ((Tl.of (aB (aA t) at_)).add sb 1=Tl.of (aA (t.set at_ (b:Int)))):=θ (by rw[←Ag];exact(Tl.of_perm hp2).symm);have hon:=bL (l:=aA t) (k:=at_) (by rw[HL1.o];omega);have HNT:Hid ((-(Tl.of (aA t)).N bs≤ -1∧(-1:Int)≤2147483648-(Tl.of (aA t)).all)∧(-(Tl.of (aB (aA t) at_)).N sb≤1∧(1:Int)≤2147483648-(Tl.of (aB (aA t) at_)).all)):=θ (by
   refine⟨⟨?_,?_⟩,?_,?_⟩
   ·show -(((cnt (aA t) (bs:Int)):Nat):Int)≤ -1
    rw[vR hp1]
    have :1≤cnt ((bs:Int)::aB (aA t) at_) (bs:Int):=by unfold cnt;rw[ap4];simp
    omega
   ·show (-1:Int)≤2147483648-(((aA t).length:Nat):Int);rw[HL1.o];omega
   ·show -(((cnt (aB (aA t) at_) (sb:Int)):Nat):Int)≤1;omega
   ·show (1:Int)≤2147483648-(((aB (aA t) at_).length:Nat):Int);have :=HL1.o;omega)
  have HCK:Hid (((lvR (aA t) R).set bh sb)[k]? =some os∧((lvR (aA t) R).set bh sb).length≤1000000):=θ ⟨by rw[ar8,aH8 (fun e=>hkb e.symm),tE HK.o,HOS.o],by rw[at4];exact hll⟩;obtain⟨av',hout,hout2⟩:=Fb (R':=R) (at_:=at_) (k:=k) (av:=av) HAV2.o HK.o;have HOUT:=θ hout;have HOUT2:=θ hout2;have HOB:=θ (fun w=>Da bh k E w);obtain⟨L2,hL2⟩:∃L2,aB ((lvR (aA t) R).set bh sb) k=L2:=⟨_,rfl⟩;have hL2s:L2=(aB (lvR (aA t) R) k).set (bH bh k) sb:=by rw[←hL2];exact Zs _ _ hkl hkb
  have hol2:=bL hkl;have hbo:bH bh k<(aB (lvR (aA t) R) k).length:=by unfold bH;split<;>omega
  have HL2G:Hid (L2[bH bh k]? =some sb∧L2.length≤1000000∧L2.length+1=R.length):=θ (by
   rw[hL2s,at4]
   refine⟨by rw[ar8,aH9 rfl,aH9 hbo],E,?_⟩
   rw[hol2,cB])
  obtain⟨lf,hlf⟩:∃lf,aQ (aB (aA t) at_) (sb:Int)+((aB R k).take (bH bh k)).countP (fun p=>pvS (aA t) p==(sb:Int))=lf:=⟨_,rfl⟩;have HTO:Hid (bR (Tl.of (aB (aA t) at_)) (sb:Int)+aV L2 (bH bh k) sb=(lf:Int)):=θ (by
   rw[ab1 (fun x hx=>(HT.o.rng x ((eF _ _).subset hx)).1) sb hsb9.2,hL2s,Fs]
   have e:aB (lvR (aA t) R) k=lvR (aA t) (aB R k):=(qU _ _ _).symm
   rw[e,Fr HT.o.sy]
   omega)
  have hset:=fun row hrow=>ai9 (row:=row) HT.o.sy H.o.rows HK.o HBH.o (by rw[HL1.o];omega) E hne hrow;have hslv:=fun row=>set_lv (s:=(sb:Int)) HT.o.sy H.o.rows HK.o HBH.o (by have :=HT'.out.sy;rw[HME.o]at this;exact this) (by rw[HL1.o];omega) row;rw[ao2,HOS.o,hL2]at hslv;rw[hlf,←HME.o]at hset;rw[←HME.o]at hslv;have hlf9:lf≤300000:=by
   rw[←hlf];have h1:aQ (aB (aA t) at_) (sb:Int)≤(aB (aA t) at_).length:=by unfold aQ;exact ap6
   have h2:((aB R k).take (bH bh k)).countP (fun p=>pvS (aA t) p==(sb:Int))≤bH bh k:=aA6 ap6 (by rw[at5];omega);have h3:bH bh k≤bh:=by unfold bH;split<;>omega
   have :=HL1.o;omega
  have HSET:=θ hset;have HSLV:=θ hslv;clear hset hslv hL2s hol2 hp1 hp2 hout hout2 hne hsame hlf;obtain⟨k0,hq⟩:=Aa H5.o.e (k:=bh) (s:=sb) hbl hsb9.2 hll;have HQ:=θ hq;clear hq;go_wp2_with fail;refine HQ.o.mono ?_;rintro e w7 ⟨rfl,he7,hc7⟩;have HC7:Hid (Chg (exT B X) w w7):=θ (HC5.o.trans hc7 (fun b hb=>Ei hb));clear k0;obtain⟨k0,hq⟩:=qCut he7 (k:=k) (s:=os) HCK.o.1 HCK.o.2;rw[hL2]at hq;have HQ:=θ hq;clear he7 hc7 HC5 H5 hq hL2;go_wp2_with fail;refine HQ.o.mono ?_;rintro e w8 ⟨rfl,he8,hc8⟩;have HC8:Hid (Chg (exT B X) w w8):=θ (HC7.o.trans hc8 (fun b hb=>Ei hb));clear k0;obtain⟨k0,hq⟩:=yT he8 (s:=bs) (n:= -1) hbs257 HNT.o.1.1 HNT.o.1.2;rw[HTL1.o]at hq;have HQ:=θ hq;clear he8 hc8 HC7 hq;go_wp2_with fail;refine HQ.o.mono ?_;rintro e w9 ⟨rfl,he9,hc9⟩;have HC9:Hid (Chg (exT B X) w w9):=θ (HC8.o.trans hc9 (fun b hb=>Ei hb));have hq:=lvTo he9 HL2G.o.1 HL2G.o.2.1;rw[HTO.o]at hq;have HQ:=θ hq;clear he9 hc9 HC8 hq k0;go_wp2_with fail;refine(HOB.o _).mono ?_;rintro e w' ⟨rfl,rfl⟩;go_wp2_with fail;refine HQ.o.mono ?_;rintro e w10 ⟨rfl,he10,hc10⟩;have HE10:=θ he10;have HC10:Hid (Chg (exT B X) w w10):=θ (HC9.o.trans hc10 (fun b hb=>Ei hb));clear he10 hc10 HC9;go_wp2_with fail;refine(HOUT.o _).mono ?_;rintro e w' ⟨rfl,rfl⟩;clear HOB HOUT;go_upto_region 13 with fail
  go_cut [90] (fun u wx=>w10=wx∧∃cb:Bool,u= .bool cb∧((cb=false∧pvS (aA t) at_≠(sb:Int))∨(pvS (aA t) at_=(sb:Int)∧∃ah:Nat,R[ah]? =some (at_-1)∧0<at_∧(cb=true↔bH ah k≤lf))));case first=>as_aux_lemma=>
   by_cases hosb:os=sb
   ·have hpv:pvS (aA t) at_=(sb:Int):=by rw[←HOSP.o.1,hosb]
    have d2:((os:Int)==(sb:Int))=true:=by rw[hosb];simp
    have d2':(os==sb)=true:=by rw[hosb];simp
    rcases HOUT2.o with ⟨h0,_⟩ | ⟨h0,a',rfl,ha9,_,ah,hah,rfl⟩
    ·exfalso;rw[h0,dU HT.o.sy]at hpv;omega
    ·have HAH:=θ hah;have HPV:=θ hpv;clear hah hpv hosb;by_cases hge:bH ah k≤lf
     ·have d3:decide (((bH ah k:Nat):Int)≤(lf:Int))=true:=aH1 E;have d3':decide (bH ah k≤lf)=true:=aH1 hge;go_wp2_with fail;go_meet;case rel=>exact⟨rfl,true,rfl,Ej ⟨HPV.o,ah,HAH.o,h0,⟨fun _=>hge,fun _=>rfl⟩⟩⟩
     ·have d3:decide (((bH ah k:Nat):Int)≤(lf:Int))=false:=aG9 E;have d3':decide (bH ah k≤lf)=false:=aG9 hge;go_wp2_with fail;go_meet;case rel=>exact⟨rfl,false,rfl,Ej ⟨HPV.o,ah,HAH.o,h0,⟨fun h=>absurd h Es,fun h=>absurd h hge⟩⟩⟩
   ·have hpv:pvS (aA t) at_≠(sb:Int):=by rw[←HOSP.o.1];omega
    have d2:((os:Int)==(sb:Int))=false:=by rw[aG5];omega
    have d2':(os==sb)=false:=by rw[aG5];exact hosb
    have HPV:=θ hpv;clear hpv hosb;go_wp2_with fail;go_meet;case rel=>exact⟨rfl,false,rfl,Ei ⟨rfl,HPV.o⟩⟩
  case' rest=>
   obtain⟨rfl,cb,rfl,hcb⟩:=hcut;have HCB:=θ hcb;clear hcb;go_upto_if 90 with fail
  go_cut [15] (fun u wx=>w10=wx∧∃row:Nat,u= .int .i64 row∧((pvS (aA t) at_≠(sb:Int)∧row=lf)∨(pvS (aA t) at_=(sb:Int)∧∃ah:Nat,R[ah]? =some (at_-1)∧0<at_∧row=inR lf (bH ah k))));case first=>as_aux_lemma=>
   have hcb:=HCB.o;cases cb
   ·clear hcb;go_wp2_with fail;go_meet;case rel=>
     rcases HCB.o with ⟨_,h⟩ | ⟨h,ah,h1,h2,h3⟩
     ·exact⟨rfl,lf,rfl,Ei ⟨h,rfl⟩⟩
     ·exact⟨rfl,lf,rfl,Ej ⟨h,ah,h1,h2,by unfold inR;rw[aH8 (fun e=>by have :=h3.2 e;cases this)]⟩⟩
   ·clear hcb;go_wp2_with fail;go_meet;case rel=>
     rcases HCB.o with ⟨h,_⟩ | ⟨h,ah,h1,h2,h3⟩
     ·cases h
     ·exact⟨rfl,lf+1,by first | rfl | go_num,Ej ⟨h,ah,h1,h2,by unfold inR;rw[aH9 (h3.1 (by first | rfl | trivial))]⟩⟩
  case rest=>as_aux_lemma=>
   obtain⟨rfl,row,rfl,hrow⟩:=hcut;have HROW:=θ hrow;obtain⟨hrR,hinv⟩:=HSET.o row hrow;have HINV:=θ hinv;have HMV:=θ (Fg (M:=M) HK.o (t:=row) hrR);obtain⟨av2,hin,hin2⟩:=Kl (R':=aB R k) (at_:=at_) (row:=row) (av:=av') (by
    rcases HOUT2.o with h | ⟨h0,a',e,h9,ha,_⟩
    ·exact Ei h
    ·exact Ej ⟨h0,a',e,h9,ha⟩) (by have :=HL2G.o.2.2;have :=bL hkR;omega) at_
   have HIN:=θ hin;have HIN2:=θ hin2;have hrow9:row≤1000000:=E;obtain⟨k0,hq⟩:=qPut HE10.o (k:=row) (s:=os) (by have :=HL2G.o.2.2;omega) hos9 HL2G.o.2.1;rw[←HSLV.o row]at hq;have HQ:=θ hq;clear hrow hinv hin hin2 hq;go_wp2_with fail;refine HQ.o.mono ?_;rintro e w11 ⟨rfl,he11,hc11⟩;have HC11:Hid (Chg (exT B X) w w11):=θ (HC10.o.trans hc11 (fun b hb=>Ei hb));clear k0;obtain⟨k0,hq⟩:=yT he11 (s:=sb) (n:=1) hsb9.2 HNT.o.2.1 HNT.o.2.2;rw[HTL2.o]at hq;have HQ:=θ hq;clear he11 hc11 HC10 HE10 hq;go_wp2_with fail;refine HQ.o.mono ?_;rintro e w12 ⟨rfl,he12,hc12⟩;have HE12:=θ he12;have HC12:Hid (Chg (exT B X) w w12):=θ (HC11.o.trans hc12 (fun b hb=>Ei hb));clear k0 he12 hc12 HC11;go_upto_if 108 with fail
   go_cut [] (fun wx=>∃mv',LvE B X wx p pk pp (ra:Int) mv' (lvR (aA (t.set at_ (b:Int))) (inL (aB R k) row at_)) (Tl.of (aA (t.set at_ (b:Int)))) c (plS M R) (aA t).length∧Chg (exT B X) w wx);case first=>as_aux_lemma=>
    by_cases hrk:row=k
    ·have d4:((row:Int) != (k:Int))=false:=by rw[hrk];simp
     have d4':((row:Int)==(k:Int))=true:=by rw[hrk];simp
     have d4'':(row==k)=true:=by rw[hrk];simp
     clear hrk;go_wp2_with fail;go_meet;case rel=>exact⟨0,HE12.o,HC12.o⟩
    ·have d4':((row:Int)==(k:Int))=false:=by rw[aG5];omega
     have d4'':(row==k)=false:=by rw[aG5];exact hrk
     obtain⟨k3,k4⟩:=HE12.o.cell3;have hsm:=HE12.o.setM 1;have HSM:=θ hsm;clear hrk hsm;go_wp2_with fail;go_meet;case rel=>exact⟨1,HSM.o.1,HC12.o.trans HSM.o.2 (fun b hb=>Ei hb)⟩
   case rest=>as_aux_lemma=>
    obtain⟨mv1,he13,hc13⟩:=hcut;have HC13:=θ hc13;obtain⟨k1,hq⟩:=Fo he13 (k:Int) (row:Int);rw[HMV.o.1,HMV.o.2]at hq;have HQ:=θ hq;have hN:(aA t).length=(aA (t.set at_ (b:Int))).length:=by rw[aI,aI,at4]
    have HN:=θ hN;clear he13 hc13 hq HE12 HC12 hN;go_wp2_with fail;refine HQ.o.mono ?_;rintro e w14 ⟨rfl,he14,hc14⟩;rw[HN.o]at he14;have H14:Hid (LvR B X w14 p pk pp (ra:Int) mv1 (aA (t.set at_ (b:Int))) (inL (aB R k) row at_) c M):=θ ⟨he14,HINV.o.perm⟩;have HC14:Hid (Chg (exT B X) w w14):=θ (HC13.o.trans hc14 (fun b hb=>Ei hb));have HCUR:Hid ((inL (aB R k) row at_)[row]? =some at_):=θ (Cy (by have :=HL2G.o.2.2;have :=bL hkR;omega));have HRE:=θ (rZ (l:=aA t) H14.o HT'.out (fun j hj=>by rw[HME.o,qB (by have :=HL1.o;omega),aH8 E]) HINV.o (by rw[←HN.o,HL1.o];omega) HCUR.o HIN2.o);clear he14 hc14 HC13 k1 HQ H14;go_wp2_with fail;refine(HIN.o _).mono ?_;rintro e w' ⟨rfl,rfl⟩;go_wp2_with fail;refine HRE.o.mono ?_;rintro e w15 ⟨rfl,⟨R',mv',h15,hr15⟩,hc15⟩;have HF:Hid (LvT B X w15 p pk pp ra mv' (t.set at_ (b:Int)) R' c M):=θ ⟨HBL.o,by rw[at4];exact hln,hr15,h15,by rw[at4];exact H.o.sm,H.o.r1,H.o.r64⟩;have HC15:Hid (Chg (exT B X) w w15):=θ (HC14.o.trans hc15 (fun b hb=>Ei hb));clear h15 hr15 hc15 HRE HC14;go_wp2_with fail;go_ret;exact⟨rfl,⟨mv',R',HF.o⟩,HC15.o⟩
end
theorem LvP.new {w w1 w2 w4:World}{pk pp:Nat}{rate:Int}{L:List Nat}{T:Tl}{PL:List Int}{N:Nat}(hb1:Below w.heap.size w w1)(hk:WkT w1.heap.size (fun _=>False) w2 pk L T)(hb2:Below w1.heap.size w1 w2)
  (hq:PmO (w2.alloc (.cells #[.pointer (some ⟨pk,0,none⟩), .pointer none, .int .i64 rate, .int .i64 0] 94)).heap.size w4 pp 0 PL N)
  (hb4:Below (w2.alloc (.cells #[.pointer (some ⟨pk,0,none⟩), .pointer none, .int .i64 rate, .int .i64 0] 94)).heap.size (w2.alloc (.cells #[.pointer (some ⟨pk,0,none⟩), .pointer none, .int .i64 rate, .int .i64 0] 94)) w4):
  LvE w.heap.size (fun _=>False) (w4.setCell ⟨w2.heap.size,1,none⟩ (.pointer (some ⟨pp,0,none⟩))) w2.heap.size pk pp rate 0 L T 0 PL N∧Below w.heap.size w (w4.setCell ⟨w2.heap.size,1,none⟩ (.pointer (some ⟨pp,0,none⟩)))∧Below w1.heap.size w1 (w4.setCell ⟨w2.heap.size,1,none⟩ (.pointer (some ⟨pp,0,none⟩))):=by
 have s1:=hb1.size;have s2:=hb2.size;have hnew:=aH5 w2 (.cells #[.pointer (some ⟨pk,0,none⟩), .pointer none, .int .i64 rate, .int .i64 0] 94);have hb3:Below w2.heap.size w2 (w2.alloc (.cells #[.pointer (some ⟨pk,0,none⟩), .pointer none, .int .i64 rate, .int .i64 0] 94)):=(am4 _ _).alloc (aA5 _) _;have s3:(w2.alloc (.cells #[.pointer (some ⟨pk,0,none⟩), .pointer none, .int .i64 rate, .int .i64 0] 94)).heap.size=w2.heap.size+1:=Es;generalize w2.alloc (.cells #[.pointer (some ⟨pk,0,none⟩), .pointer none, .int .i64 rate, .int .i64 0] 94)=w3 at *;have s4:=hb4.size;have hb24:Below w2.heap.size w2 w4:=hb3.trans (hb4.mono E);have hd4:w4.heap[w2.heap.size]? =some (.cells #[.pointer (some ⟨pk,0,none⟩), .pointer none, .int .i64 rate, .int .i64 0] 94 (0,0)):=(hb4.block _ E).trans hnew;have hk4:WkT w.heap.size (fun j=>(w.heap.size≤j∧j<w1.heap.size)∨(w2.heap.size≤j∧j<w4.heap.size)) w4 pk L T:=
  (hk.base s1).less hb24 (fun j hj=>hj.imp Ej id)
 have hq4:PmE w.heap.size (fun j=>w.heap.size≤j∧j<w3.heap.size) w4 pp 0 PL N:=
  ⟨hq.1.mono (fun j hj=>⟨E,fun e=>E⟩),hq.2.1,hq.2.2.1,hq.2.2.2.1,E,fun j hj=>E⟩
 have hc:Chg (fun j=>j=w2.heap.size) w4 (w4.setCell ⟨w2.heap.size,1,none⟩ (.pointer (some ⟨pp,0,none⟩))):=(Chg.refl (S:=fun j=>j=w2.heap.size) (w:=w4)).setCell ⟨w2.heap.size,1,none⟩ (Ei rfl) _;have hs:(w4.setCell ⟨w2.heap.size,1,none⟩ (.pointer (some ⟨pp,0,none⟩))).heap.size=w4.heap.size:=by simp[World.setCell]
 refine⟨⟨_,_,bT hd4 1 _,(hk4.aside hc (fun j g1 g2 e=>g1.2 (Ej ⟨E,E⟩))).mono (fun j e=>Ei e),hq4.chg hc (fun j g1 _ e=>g1.2 ⟨E,E⟩),⟨E,id⟩,Ej ⟨aA5 _,E⟩,⟨E,E⟩,fun j e=>e.elim,fun j g1 g2=>?_⟩,?_,?_⟩
 ·by_cases h3:j<w3.heap.size
  ·exact Ej ⟨g1,h3⟩
  ·exact Ei (Ej ⟨E,E⟩)
 ·have hw:Below w.heap.size w w4:=(hb1.trans (hb2.mono s1)).trans (hb24.mono E);exact hw.trans (hc.below (fun b hb=>by subst hb;omega) E)
 ·exact(hb2.trans (hb24.mono s2)).trans (hc.below (fun b hb=>by subst hb;omega) E)
theorem LvE.more {B:Nat}{X:Nat→Prop}{w:World}{p pk pp:Nat}{rate mv:Int}{L:List Nat}{T:Tl}{c c':Nat}{PL:List Int}{N:Nat}(h:LvE B X w p pk pp rate mv L T c PL N)(hc:c≤c')(h9:c'≤1000000:=by omega):LvE B X w p pk pp rate mv L T c' PL N:=by
 obtain⟨Y,Z,h⟩:=h;exact⟨Y,Z,h.hd,h.k,⟨h.q.pv.more hc,h9,h.q.l6,h.q.n6,h.q.le,h.q.x⟩,h.ep,h.yp,h.zp,h.x,h.cov⟩
theorem LvR.rows_lt {B:Nat}{X:Nat→Prop}{w:World}{p pk pp:Nat}{rate mv:Int}{m:List Int}{R:List Nat}{c:Nat}{M:Nat→Bool}(h:LvR B X w p pk pp rate mv m R c M){k q:Nat}(hk:R[k]? =some q):q<m.length:=
 ax4.1 (h.perm.mem_iff.1 (ax2 hk))
def mk0(ra:Nat)(R:List Nat)(k:Nat):Nat→Bool:=fun q=>decide (q%ra=0)&&decide (q∈R.take k)
theorem Sj{M M':Nat→Bool}{R:List Nat}(h:∀q∈R,M q=M' q):plS M R=plS M' R:=by
 unfold plS;apply at7;intro q hq;rw[h q hq]
theorem Yz(ra:Nat)(R:List Nat):List.replicate R.length (-1)=plS (mk0 ra R 0) R:=by
 unfold plS mk0;apply aq3;intro i;by_cases h:i<R.length
 ·simp[h]
 ·rw[ar4 (by simp;omega),ar4 (by simp;omega)]
theorem af4{ra k q:Nat}{R:List Nat}(hk:R[k]? =some q)(hq:q%ra=0):sM (mk0 ra R k) q=mk0 ra R (k+1):=by
 funext x;unfold sM mk0;rw[ay9,hk];by_cases e:x=q
 ·subst e;simp[hq]
 ·simp[e]
theorem mk0_no{ra k q:Nat}{R:List Nat}(hk:R[k]? =some q)(hq:q%ra≠0):mk0 ra R k=mk0 ra R (k+1):=by
 funext x;unfold mk0;rw[ay9,hk];by_cases e:x=q
 ·subst e;simp[hq]
 ·simp[e]
theorem Re{ra:Nat}(h1:1≤ra)(h64:ra≤64)(pa:Option Addr)(pc:Nat)(ps:List Row)(w:World)(hp:ReadsV w pa (ps.map kO))(hr:∀r∈ps,Reads w .u8 r.a r.l∧(r.a=none→r.l.length=0∧r.cap=0))(hl:(bJ ps).length≤900)(hk:ps.length≤1000000)(hb:aU (bJ ps)):
  Calls Tryz.prog 21 #[.int .i64 ra, .slice pa ps.length pc] w fun e w'=>∃p pk pp R,e= .returned (.tuple #[.pointer (some ⟨p,0,none⟩), .int .i64 0])∧LvT w.heap.size (fun _=>False) w' p pk pp ra 0 (bJ ps) R ((bJ ps).length+1) (fun q=>decide (q%ra=0))∧Below w.heap.size w w':=by
 have HC:=θ (yA pa pc ps w hp hr E hk);have HB:=θ hb;have d1:decide ((ra:Int)<1)=false:=aG9 E;have d2:decide ((64:Int)<(ra:Int))=false:=aG9 E;have d3:decide (ra<1)=false:=aG9 E;have d4:decide (64<ra)=false:=aG9 E;have hby:oJ (bJ ps):=fun i hi=>by
  rw[ar3 hi];exact hb _ (as3 hi)
 generalize bJ ps=t at *;have HBY:=θ hby;clear hp hr hb hk hby;go_enter Tryz.func21,Tryz.ntmps21;go_wp2_with fail;refine HC.o.mono ?_;rintro e w1 ⟨v1,rfl,hown,hb1⟩;obtain⟨ta,tc,rfl,_,_⟩:=aM hown;have hrd:=jC hown;have HWN:=θ (Vj (w:=w1) ta tc t rfl hrd HBY.o E);have HRD:=θ hrd;have HB1:=θ hb1;clear hown hb1 hrd HC;go_wp2_with fail;refine HWN.o.mono ?_;rintro e w2 ⟨pk,R,L,rfl,hRW,hkk,hb2⟩;have HRW:=θ hRW;have HKK:=θ hkk;have HB2:=θ hb2;have HPN:=θ (new_o (w:=w2.alloc (.cells #[.pointer (some ⟨pk,0,none⟩), .pointer none, .int .i64 (ra:Int), .int .i64 0] 94)) (t.length+1) (N:=(t.length:Int)+1) E E);clear hRW hkk hb2 HWN;go_wp2_with fail;refine HPN.o.mono ?_;rintro e w4 ⟨pp,rfl,hq,hb4⟩;have hall:=LvP.new HB1.o HKK.o HB2.o hq hb4;have hfz:w4.frozen? ⟨w2.heap.size,1,none⟩=false:=by
  have hnew:=aH5 w2 (.cells #[.pointer (some ⟨pk,0,none⟩), .pointer none, .int .i64 (ra:Int), .int .i64 0] 94);exact aH3 w4 w2.heap.size 1 _ _ ((hb4.block _ Es).trans hnew)
 have hc4:w4.cell? ⟨w2.heap.size,1,none⟩=some (.pointer none):=by
  have hnew:=aH5 w2 (.cells #[.pointer (some ⟨pk,0,none⟩), .pointer none, .int .i64 (ra:Int), .int .i64 0] 94);exact aG7 w4 w2.heap.size 1 _ _ _ ((hb4.block _ Es).trans hnew)
 have HALL:=θ hall;have hRl:R.length=t.length+1:=HRW.o.rlen;have hLe:L=lvR (aA t) R:=Wl (HRW.o.last.symm.trans (mT (dY HB.o) R));have HLE:=θ hLe;clear hq hb4 hall HPN hLe;go_wp2_with fail;have HRA:=θ (ai8 (w:=w4.setCell ⟨w2.heap.size,1,none⟩ (.pointer (some ⟨pp,0,none⟩))) ta tc t rfl (Reads.below HRD.o HALL.o.2.2) HBY.o E);generalize w4.setCell ⟨w2.heap.size,1,none⟩ (.pointer (some ⟨pp,0,none⟩))=w5 at *;generalize w2.heap.size=p at *;clear hfz hc4;refine HRA.o.mono ?_;rintro e w6 ⟨ra6,rc6,R6,rfl,hR6,hown6,hb6⟩;obtain rfl:=pJ hR6 HRW.o.rows;have hs5:=HALL.o.1.le;have he6:=HALL.o.1.less (X':=fun j=>w5.heap.size≤j∧j<w6.heap.size) hb6 (fun j hj=>Ej hj);rw[HLE.o,zE HB.o hR6,show t.length+1=R6.length from hRl.symm,Yz ra]at he6;rw[hRl,←aI]at he6;have H6:Hid (LvR w.heap.size (fun j=>w5.heap.size≤j∧j<w6.heap.size) w6 p pk pp (ra:Int) 0 (aA t) R6 0 (mk0 ra R6 0)):=θ ⟨he6,hR6.1⟩;have HR6:=θ hR6;have HRV:Hid (ReadsV w6 ra6 (R6.map bG)):=θ (eB hown6);have HRB:Hid (∀ad,ra6=some ad→w5.heap.size≤ad.block∧ad.block<w6.heap.size):=θ (fun ad had=>by
  obtain⟨a',c',hv,_,hb'⟩:=aM hown6
  injection hv with e1 _ _
  subst e1
  obtain⟨g,rfl,g1,g2,_⟩:=hb' ad had
  exact⟨g1,g2⟩)
 have HB6:=θ (HALL.o.2.1.trans (hb6.mono hs5));clear hR6 hown6 hb6 he6 HRA HALL HLE HRW HKK HB1 HB2 HRD hs5;have hR9:R6.length≤901:=E;go_wp2_with fail;go_loopw [36] (fun i wx=>∃k c:Nat,k≤R6.length∧i= .int .i64 k∧c≤k∧LvR w.heap.size (fun j=>w5.heap.size≤j∧j<w6.heap.size) wx p pk pp (ra:Int) 0 (aA t) R6 c (mk0 ra R6 k)∧ReadsV wx ra6 (R6.map bG)∧Below w.heap.size w wx) (fun i _=>R6.length-(intOf i).toNat);case atStart=>exact⟨0,0,E,rfl,aA5 _,H6.o,HRV.o,HB6.o⟩
 case round=>as_aux_lemma=>
  clear H6 HRV HB6;obtain⟨k,c,hk,rfl,hc,h7,hrv,hb7⟩:=hrel;have H7:=θ h7;have HV7:=θ hrv;have HB7:=θ hb7;by_cases hlt:k<R6.length
  ·have hget:=ar3 hlt;obtain⟨b,off,rfl,hbl,hcells⟩:=hrv.some (by rw[at1];omega);have hcx:wr.cell? ⟨b,off+k,none⟩=some (bG R6[k]):=hcells k _ (by rw[ar6,hget];rfl);have hq9:R6[k]<(aA t).length:=h7.rows_lt hget;generalize R6[k]=q at *;rw[aI]at hq9;have HGET:=θ hget;have hkc:(0:Int)≤(k:Int):=E;have hkc2:(k:Int)<(t.length:Int)+1:=E;have hkc3:(k:Int)<(R6.length:Int):=E;obtain⟨rm,hrm⟩:∃rm,q%ra=rm:=⟨_,rfl⟩;have hmod:(q:Int)%(ra:Int)=(rm:Int):=by rw[←hrm];exact(Int.natCast_emod q ra).symm
   have HRM:=θ hrm;unfold bG at hcx;have hqa:=h7.e;obtain⟨k1,hadd⟩:=qAdd hqa E (k:Int) (q:Int);rw[(Li h7.perm hget).1]at hadd;have HADD:=θ hadd;clear hget hcells h7 hrv hb7 hrm hqa hadd;by_cases h0:rm=0
   ·subst h0;have d5:(((0:Nat):Int)==0)=true:=rfl;go_wp2_with fail;refine HADD.o.mono ?_;rintro e w8 ⟨rfl,he8,hc8⟩;have H8:Hid (LvR w.heap.size (fun j=>w5.heap.size≤j∧j<w6.heap.size) w8 p pk pp (ra:Int) 0 (aA t) R6 (c+1) (mk0 ra R6 (k+1))):=θ ⟨by rw[←af4 HGET.o HRM.o];exact he8,H7.o.perm⟩;have HV8:=θ (HV7.o.chg hc8 (fun ad had hs=>hs.2 (HRB.o ad had)));have HB8:=θ (HB7.o.trans (eE hc8 H7.o.e.le));clear he8 hc8 HADD;go_wp2_with fail;go_roundw;case rel=>exact⟨k+1,c+1,E,by first | rfl | go_num,E,H8.o,HV8.o,HB8.o⟩
    case measure=>simp[intOf];omega
   ·have d5:((rm:Int)==0)=false:=by rw[aG5];omega
    have d6:(rm==0)=false:=by rw[aG5];exact h0
    have H8:Hid (LvR w.heap.size (fun j=>w5.heap.size≤j∧j<w6.heap.size) wr p pk pp (ra:Int) 0 (aA t) R6 c (mk0 ra R6 (k+1))):=θ (by rw[←mk0_no HGET.o (by rw[HRM.o];exact h0)];exact H7.o);go_wp2_with fail;go_roundw;case rel=>exact⟨k+1,c,E,by first | rfl | go_num,E,H8.o,HV7.o,HB7.o⟩
    case measure=>simp[intOf];omega
  ·obtain rfl:k=R6.length:=E;have hkc3:¬((R6.length:Int)<(t.length:Int)+1):=E;have HF:Hid (LvT w.heap.size (fun _=>False) wr p pk pp ra 0 t R6 (t.length+1) (fun q=>decide (q%ra=0))):=θ (by
    have he:=H7.o.e
    rw[Sj (M':=fun q=>decide (q%ra=0)) (fun q hq=>by unfold mk0;rw[az2];simp[hq])]at he
    exact⟨HB.o,E,HR6.o,⟨(he.more E).mono (fun j hf=>hf.elim),H7.o.perm⟩,Zm h1,h1,h64⟩)
   clear h7 hrv hb7;go_wp2_with fail;go_ret2;first
    | exact⟨p,pk,pp,R6,rfl,HF.o,HB7.o⟩
    | exact⟨p,rfl,⟨pk,pp,R6,HF.o⟩,HB7.o⟩
attribute [local go_sem] Oper.semAt_some
section
variable {B:Nat}{X:Nat→Prop}{w w':World}{p pk pp ra:Nat}{mv:Int}{t:List Int}{R:List Nat}{c:Nat}{M:Nat→Bool}
theorem LvT.step (h:LvT B X w p pk pp ra mv t R c M){X':Nat→Prop}(he:LvE B X' w' p pk pp (ra:Int) mv (lvR (aA t) R) (Tl.of (aA t)) c (plS M R) (aA t).length):LvT B X' w' p pk pp ra mv t R c M:=⟨h.byte,h.len,h.rows,⟨he,h.lv.perm⟩,h.sm,h.r1,h.r64⟩
theorem LvT.aside {S:Nat→Prop}(h:LvT B X w p pk pp ra mv t R c M)(hc:Chg S w w')(hd:∀j,exT B X j→j<w.heap.size→¬S j):LvT B (fun j=>X j∨(w.heap.size≤j∧j<w'.heap.size)) w' p pk pp ra mv t R c M:=h.step (h.lv.e.aside hc hd)
theorem LvT.mono {X':Nat→Prop}(h:LvT B X w p pk pp ra mv t R c M)(hy:∀j,X' j→X j):LvT B X' w p pk pp ra mv t R c M:=h.step (h.lv.e.mono hy)
theorem LvT.less {X':Nat→Prop}(h:LvT B X w p pk pp ra mv t R c M)(hb:Below w.heap.size w w')(hy:∀j,X' j→X j∨(w.heap.size≤j∧j<w'.heap.size)):LvT B X' w' p pk pp ra mv t R c M:=h.step (h.lv.e.less hb hy)
theorem Lk(h:LvT B X w p pk pp ra mv t R c M){lo hi b:Nat}(h1:lo≤hi)(h2:hi≤t.length+1)(hb:b<256):w.cell? ⟨p,0,none⟩=some (.pointer (some ⟨pk,0,none⟩))∧
  Calls Tryz.prog 128 #[.pointer (some ⟨pk,0,none⟩), .int .i64 lo, .int .i64 hi, .int .i64 ((b:Int)+1)] w fun e w'=>e= .returned (.tuple #[.int .i64 (nar (lvR (aA t) R) lo (b+1):Nat), .int .i64 (nar (lvR (aA t) R) hi (b+1):Nat)])∧LvT B X w' p pk pp ra mv t R c M∧Chg (exT B X) w w':=by
 obtain⟨Y,Z,k⟩:=h.lv.e;have hln:=h.llen;have hlm:=h.len;have hbl:bR (Tl.of (aA t)) ((b+1:Nat):Int)=(aQ (bF (lvR (aA t) R)) ((b+1:Nat):Int):Nat):=by
  rw[xK h.tx _ E,←mT (dY h.byte)];congr 1;exact((lH h.rows).countP_eq _).symm
 refine⟨k.cells.1,Calls.mono (Hp k.k (lo:Int) (hi:Int) (s:=b+1) (lo':=lo) (hi':=hi) E (by rw[hln];omega) (by rw[hln];omega) (by rw[hln];omega)) ?_⟩;rintro e w' ⟨rfl,hk,hc⟩;refine⟨?_,h.step (k.stepK hk hc).1,(k.stepK hk hc).2⟩;rw[hbl];unfold nar;simp
theorem Dk(sa:Option Addr)(n sc:Nat)(w:World):Calls Tryz.prog 127 #[.slice sa n sc] w fun e w'=>e= .returned (.func (.func 180) #[] #[.pointer (some ⟨w.heap.size,0,none⟩)])∧w.alloc (.cells #[.slice sa n sc] 32)=w':=by
 go_enter Tryz.func127,Tryz.ntmps127;go_wp2;go_ret;exact⟨rfl,rfl⟩
theorem yD(h:LvT B X w p pk pp ra mv t R c M)(pa:Option Addr)(pc:Nat)(ps:List Row)(hp:ReadsV w pa (ps.map kO))(hr:∀r∈ps,Reads w .u8 r.a r.l∧(r.a=none→r.l.length=0∧r.cap=0))(hl:(bJ ps).length≤1000000)(hk:ps.length≤1000000)(hby:aU (bJ ps)):
  Calls Tryz.prog 61 #[.pointer (some ⟨p,0,none⟩), .slice pa ps.length pc] w fun e w'=>∃lo hi:Nat,e= .returned (.tuple #[.int .i64 lo, .int .i64 hi])∧Nar t R (bJ ps) lo hi∧LvT B X w' p pk pp ra mv t R c M∧Chg (exT B X) w w':=by
 have HLEN:=θ (fun(w':World) (h':LvT B X w' p pk pp ra mv t R c M)=>kY h');have H:=θ h;have HCAT:=θ (fun(w':World) (hb':Below w.heap.size w w')=>yA pa pc ps w' (hp.below' hb') (fun r hr'=>⟨(hr r hr').1.below hb',(hr r hr').2⟩) hl hk);have hln:=h.len;clear h hp hr;refine(callsIn_wide (n:=4)).1 ?_;refine callsIn_of_wp_marks Tryz.func61 rfl trivial ?_ rfl;refine wpIn_wide.2 ?_;simp only[Tryz.ntmps61,ay7,as7,at2,Nat.reduceAdd,Nat.reduceSub,Array.replicate_succ,Array.replicate_zero,List.push_toArray,List.append_toArray,ax5,ap1];go_wp2_with fail;refine(HLEN.o _ (H.o.below ((am4 _ _).alloc (aA5 _) _))).mono ?_;rintro e w' ⟨rfl,rfl⟩;have hw1:IntKind.i64.wrap ((t.length:Int)+1)=(t.length:Int)+1:=ao4 _ E;go_wp2_with fail;refine(HCAT.o _ (((am4 w.heap.size w).alloc (aA5 _) _).alloc Es _ |>.alloc (by simp;omega) _)).mono ?_;rintro e w2 ⟨v,rfl,hown,hb2⟩;obtain⟨sa,sc,rfl,_,_⟩:=aM hown;have hrd:=jC hown;have hsz:(((w.alloc (Obj.cells #[Value.pointer (some {block:=p,off:=0})] 54)).alloc (Obj.cells #[Value.int IntKind.i64 0] 3)).alloc (Obj.cells #[Value.int IntKind.i64 (t.length+1)] 3)).heap.size=w.heap.size+3:=Es;have hsa:∀ad,sa=some ad→w.heap.size+3≤ad.block∧ad.block<w2.heap.size:=fun ad e=>by
  obtain⟨g,rfl⟩:=gK hown ad e;subst e;have :=bX hown (k:=g) rfl;rw[hsz]at this;exact this
 have h0:w2.heap[w.heap.size]? =some (.cells #[.pointer (some ⟨p,0,none⟩)] 54 (0,0)):=by
  rw[hb2.block _ (by rw[hsz];omega),heap_alloc_old _ _ (by simp;omega),heap_alloc_old _ _ Es];exact aH5 w _
 have h1:w2.heap[w.heap.size+1]? =some (.cells #[.int .i64 0] 3 (0,0)):=by
  rw[hb2.block _ (by rw[hsz];omega),heap_alloc_old _ _ Es];have :=aH5 (w.alloc (Obj.cells #[Value.pointer (some {block:=p,off:=0})] 54)) (Obj.cells #[Value.int IntKind.i64 0] 3);simpa using this
 have h2:w2.heap[w.heap.size+2]? =some (.cells #[.int .i64 (t.length+1)] 3 (0,0)):=by
  rw[hb2.block _ (by rw[hsz];omega)];have :=aH5 ((w.alloc (Obj.cells #[Value.pointer (some {block:=p,off:=0})] 54)).alloc (Obj.cells #[Value.int IntKind.i64 0] 3)) (Obj.cells #[Value.int IntKind.i64 (t.length+1)] 3);simpa using this
 have hb:Below w.heap.size w w2:=(((am4 w.heap.size w).alloc (aA5 _) _).alloc Es _ |>.alloc (by simp;omega) _).trans (hb2.mono (by rw[hsz];omega));have hs2:w.heap.size+3≤w2.heap.size:=by have :=hb2.size;rw[hsz]at this;exact this
 clear hown hb2 hsz HCAT HLEN;go_wp2_with fail;refine(Dk sa (bJ ps).length sc w2).mono ?_;rintro e w3 ⟨rfl,hw3⟩;have h3:w3.heap[w2.heap.size]? =some (.cells #[.slice sa (bJ ps).length sc] 32 (0,0)):=by rw[←hw3];exact aH5 w2 _
 have hb3:Below w2.heap.size w2 w3:=by rw[←hw3];exact(am4 _ _).alloc (aA5 _) _
 have hs3:w3.heap.size=w2.heap.size+1:=by rw[←hw3];simp
 replace h0:=(hb3.block _ E).trans h0;replace h1:=(hb3.block _ E).trans h1;replace h2:=(hb3.block _ E).trans h2;replace hrd:=Reads.below hrd hb3;replace hb:=hb.trans (hb3.mono E);clear hw3 hb3;go_wp2_with fail;refine(wpIn_wide (n:=4)).1 ?_;generalize hcs:bJ ps=cs at *;generalize hbl:w.heap.size=bl at *;generalize w2.heap.size=bx at *;obtain⟨X1,hX1⟩:∃X1:Nat→Prop,X1=fun j=>X j∨(bl≤j∧j<w3.heap.size+2):=⟨_,rfl⟩;have hXl:∀j,X j→j<bl:=fun j e=>by rw[←hbl];exact H.o.lv.e.xlt e
 have hXn:∀j,bl≤j→j<w3.heap.size+2→¬exT B X1 j:=fun j h1 h2 h3=>h3.2 (by rw[hX1];exact Ej ⟨h1,h2⟩);refine St (m:=2) (N:=cs.length) rfl (fun _ _=>rfl) (fun k W=>LvT B X1 W p pk pp ra mv t R c M∧Chg (fun j=>exT B X1 j∨j=bl+1∨j=bl+2) w3 W∧∃lo hi:Nat,Nar t R (cs.drop (cs.length-k)) lo hi∧W.heap[bl+1]? =some (.cells #[.int .i64 lo] 3 (0,0))∧W.heap[bl+2]? =some (.cells #[.int .i64 hi] 3 (0,0)))
  (fun k=>#[.int .i64 ((cs.length:Int)-1-k), .int .u8 (cs[cs.length-1-k]?.getD 0)]) (fun _=>rfl) ?hit ?hI ?h0 ?hround ?hdone
 case hit=>
  intro l J hJ hY W hj;refine Vp l 2 bx cs.length sc sa cs rfl hl J (fun k W hk=>?_) hY W hj;obtain⟨_,hc,_⟩:=hJ k W hk;refine⟨aG7 _ bx 0 _ _ _ (hc.heap h3 ?_),hc.reads hrd (fun ad e=>?_)⟩
  ·rintro(e | e)
   ·exact hXn bx E E e
   ·omega
  ·have :=hsa ad e;rintro(e | e)
   ·exact hXn _ E E e
   ·omega
 case hI=>
  rintro k A o hA ⟨hL,hc,lo,hi,hN,c1,c2⟩;have hc1:Chg (fun j=>j=w3.heap.size+1) A (A.putObj (w3.heap.size+1) o):=⟨rfl,rfl,rfl,by simp[World.putObj],fun b _ hb=>World.putObj_heap_other hb⟩;exact⟨(hL.aside hc1 (fun j g _ e=>hXn j E E g)).mono (fun j e=>Ei e),hc.trans hc1 (fun b e=>Ej E),lo,hi,hN,(World.putObj_heap_other E).trans c1,(World.putObj_heap_other E).trans c2⟩
 case h0=>
  intro o o';have hb2:Below w3.heap.size w3 ((w3.alloc o).alloc o'):=((am4 _ w3).alloc (aA5 _) _).alloc Es _;refine⟨H.o.less (by rw[hbl];exact hb.trans (hb2.mono E)) (fun j e=>by rw[hX1]at e;rw[hbl];simpa[Nat.add_assoc]using e),Chg.of_below hb2,0,t.length+1,?_,(hb2.block _ E).trans h1,(hb2.block _ E).trans h2⟩;rw[Nat.sub_zero,List.drop_length];exact Nar.nil (tJ H.o.byte H.o.rows)
 case hdone=>
  rintro W ⟨hL,hc,lo,hi,hN,c1,c2⟩ hs hK;rw[aC0,List.drop_zero]at hN;have hch:Chg (exT B X) w W:=(Chg.of_below (by rw[hbl];exact hb)).trans hc (fun j e=>by
   rcases e with e | e | e
   ·exact Ei ⟨e.1,fun h=>e.2 (by rw[hX1];exact Ei h)⟩
   ·right;omega
   ·right;omega)
  have HF:=θ (And.intro hN (And.intro hL hch));have e1:=aG7 W (bl+1) 0 _ _ _ c1;have e2:=aG7 W (bl+2) 0 _ _ _ c2;clear hL hc hN hch c1 c2;go_wp2_with fail;go_quiet (fail);go_wp2_with fail;obtain⟨hN,hL,hch⟩:=HF.o;have hc2:Chg (fun j=>j=w3.heap.size) W ((W.drewN nq).putObj w3.heap.size (.deferred none)):=⟨rfl,rfl,rfl,by simp[World.putObj,World.drewN],fun b _ hb=>World.putObj_heap_other hb⟩;refine⟨Es, .inl ⟨_,_,rfl,run_takeDeferred (w:=W.drewN nq) hK,_,?_,lo,hi,rfl,hcs▸hN,(hL.aside hc2 (fun j e1 _ e=>hXn j E E e1)).mono (fun j e=>Ei (by rw[hX1];exact Ei e)),hch.trans hc2 (fun j e=>Ej (by have :=hb.size;omega))⟩⟩;simp[results,Tryz.f61,go_sem]
 case hround=>
  intro l k W hk;simp only[List.zip_toArray,List.zip_cons_cons]
  gi_wp2
  refine⟨trivial,?_⟩;rintro W2 hs ⟨hL,hc,lo,hi,hN,c1,c2⟩;obtain⟨b,hb0,hb9⟩:∃b:Nat,cs[cs.length-1-k]?.getD 0=(b:Int)∧b<256:=by
   rw[ar3 E];have :=hby _ (as3 (E:cs.length-1-k<cs.length));exact⟨(cs[cs.length-1-k]).toNat,by simp;omega,E⟩
  rw[hb0];obtain⟨hcp,hnar⟩:=Lk hL hN.1 hN.2.1 hb9;have HNAR:=θ (Lk (hL.below ⟨rfl,rfl,rfl,aA5 _,fun _ _=>rfl⟩:LvT B X1 W2.drew p pk pp ra mv t R c M) hN.1 hN.2.1 hb9).2;have HC:=θ (And.intro (hc.cell (aG7 _ bl 0 _ _ _ h0) (fun e=>e.elim (hXn bl E E) (fun e=>by have e:bl=bl+1∨bl=bl+2:=e;omega))) hcp);have HC1:=θ c1;have HC2:=θ c2;have e1:=aG7 W2 (bl+1) 0 _ _ _ c1;have e2:=aG7 W2 (bl+2) 0 _ _ _ c2;have hpl:p<bl:=by rw[←hbl];exact H.o.lv.e.lt
  refine wpIn_block ?_;refine Ir (fun w'=>w'.cell? ⟨bl,0,none⟩=some (.pointer (some ⟨p,0,none⟩))∧w'.cell? ⟨p,0,none⟩=some (.pointer (some ⟨pk,0,none⟩))) Ek HC.o Ek (fun a w h=>nomatch h.1) (fun hh=>?_);refine rt 0 hh ?_;refine rt 1 hh ?_;refine rt 2 hh ?_;refine rt 3 hh ?_;refine rt 6 hh ?_;refine ai6 (i:=4) (j:=5) (k:=7) (vi:= .int .i64 lo) (vj:= .int .i64 hi) (vk:= .int .i64 ((b:Int)+1)) hh ?_ rfl rfl rfl ⟨Ek,Ek,Ek,Ek⟩ ⟨Ek,Ek,Ek⟩ ⟨fun d h=>by cases h;simp,fun d h=>by cases h;simp,fun d h=>by cases h;simp⟩ ⟨rfl,rfl,rfl⟩ ?si ?sj ?sk;case si=>rintro a (rfl | rfl | rfl | rfl)<;>(intro K hK;go_simp;exact hK)
  case sj=>rintro a (rfl | rfl | rfl | rfl)<;>(intro K hK;go_simp;exact hK)
  case sk=>rintro a (rfl | rfl | rfl | rfl)<;>(intro K hK;go_simp;refine(oV (b:Int) _ E E).mono ?_;rintro e w' ⟨rfl,rfl⟩;exact hK)
  try simp only[pt]
  refine rg 8 fun κ hK=>?_;go_simp;refine HNAR.o.mono ?_;rintro e w5 ⟨rfl,h5,hc5⟩;have H5:=θ h5;have HC5:=θ hc5;have hk5:w5.cell? ⟨bl,0,none⟩=some (.pointer (some ⟨p,0,none⟩))∧w5.cell? ⟨p,0,none⟩=some (.pointer (some ⟨pk,0,none⟩)):=⟨hc5.cell HC.o.1 (hXn bl E E),(eP h5.lv).1⟩;have g1:=hc5.heap HC1.o (hXn (bl+1) E E);have g2:=hc5.heap HC2.o (hXn (bl+2) E E);have f1:=aH3 w5 (bl+1) 0 _ _ g1;have e1:=aG7 w5 (bl+1) 0 _ _ _ g1;have G1:=θ g1;have G2:=θ g2;clear h5 hc5 HNAR g1 g2;refine hK.out _ _ (hk5) ?_;intro hh;try simp only[pt]
  refine rt 9 hh ?_;refine rt 10 hh ?_;refine rt 11 hh ?_;refine rg 12 fun κ hK=>?_;go_simp;have hc6:Chg (fun j=>j=bl+1∨j=bl+2) w5 (w5.setCell ⟨bl+1,0,none⟩ (.int .i64 (nar (lvR (aA t) R) lo (b+1):Nat))):=Chg.refl.setCell _ (Ei (Ei rfl)) _;have hk6:=And.intro (hc6.cell hh.1 (fun e=>by have e:bl=bl+1∨bl=bl+2:=e;omega)) (hc6.cell hh.2 (fun e=>by have e:p=bl+1∨p=bl+2:=e;omega));have g2:=fF (j:=0) (v:= .int .i64 (nar (lvR (aA t) R) lo (b+1):Nat)) G2.out (E:bl+2≠bl+1);have g1:=bT G1.out 0 (.int .i64 (nar (lvR (aA t) R) lo (b+1):Nat));have G12:=θ (And.intro g1 g2);have HC6:=θ hc6;have f2:=aH3 _ (bl+2) 0 _ _ g2;have e2:=aG7 _ (bl+2) 0 _ _ _ g2;clear hc6 g1 g2;generalize w5.setCell ⟨bl+1,0,none⟩ (.int .i64 (nar (lvR (aA t) R) lo (b+1):Nat))=w6 at *;refine hK.out _ _ (hk6) ?_;intro hh;try simp only[pt]
  refine rg 13 fun κ hK=>?_;go_simp;have hc7:Chg (fun j=>j=bl+1∨j=bl+2) w5 (w6.setCell ⟨bl+2,0,none⟩ (.int .i64 (nar (lvR (aA t) R) hi (b+1):Nat))):=HC6.o.setCell _ (Ei (Ej rfl)) _;have hk7:=And.intro (hc7.cell hk5.1 (fun e=>by have e:bl=bl+1∨bl=bl+2:=e;omega)) (hc7.cell hk5.2 (fun e=>by have e:p=bl+1∨p=bl+2:=e;omega));refine hK.out _ _ (hk7) ?_;intro hh;try simp only[pt]
  refine rz ?_;have hcd:cs.drop (cs.length-(k+1))=(b:Int)::cs.drop (cs.length-k):=by
   rw[List.drop_eq_getElem_cons E,show cs.length-(k+1)+1=cs.length-k by omega,←hb0,ar3 E];simp only[show cs.length-(k+1)=cs.length-1-k by omega,aD0]
  have hch:Chg (fun j=>exT B X1 j∨j=bl+1∨j=bl+2) W2.drew (w6.setCell ⟨bl+2,0,none⟩ (.int .i64 (nar (lvR (aA t) R) hi (b+1):Nat))):=(HC5.o.mono (fun j e=>Ei e)).trans hc7 (fun j e=>Ei (Ej e));have hsz:=hc.size;have hX9:∀j,w3.heap.size≤j→j<w3.heap.size+2→¬(exT B X1 j∨j=bl+1∨j=bl+2):=fun j e1 e2 e=>e.elim (hXn j E e2) E;refine⟨rfl,⟨(H5.o.aside hc7 (fun j e1 _ e=>e.elim (fun e=>hXn (bl+1) E E (e▸e1)) (fun e=>hXn (bl+2) E E (e▸e1)))).mono (fun j e=>Ei e),hc.drew.trans hch (fun j e=>Ei e),_,_,?_,fF G12.out.1 E,bT G12.out.2 0 _⟩,hch.block _ (by show w3.heap.size<W2.heap.size;omega) (hX9 _ E E),hch.block _ (by show w3.heap.size+1<W2.heap.size;omega) (hX9 _ E E)⟩;rw[hcd];exact Nar.cons (tJ H.o.byte H.o.rows) hN hb9
end
section
variable {B:Nat}{X:Nat→Prop}{w w':World}{p pk pp ra:Nat}{mv:Int}{t:List Int}{R:List Nat}{c:Nat}{M:Nat→Bool}
theorem Ib(h:LvT B X w p pk pp ra mv t R c M)(pa:Option Addr)(pc:Nat)(ps:List Row)(hp:ReadsV w pa (ps.map kO))(hr:∀r∈ps,Reads w .u8 r.a r.l∧(r.a=none→r.l.length=0∧r.cap=0))(hl:(bJ ps).length≤1000000)(hk:ps.length≤1000000)(hby:aU (bJ ps)):
  Calls Tryz.prog 26 #[.pointer (some ⟨p,0,none⟩), .slice pa ps.length pc] w fun e w'=>∃lo hi:Nat,e= .returned (.int .i64 ((hi-lo:Nat):Int))∧Nar t R (bJ ps) lo hi∧LvT B X w' p pk pp ra mv t R c M∧Chg (exT B X) w w':=by
 have HF:=θ (yD h pa pc ps hp hr hl hk hby);have hln:=h.len;clear h hp hr;go_enter Tryz.func26,Tryz.ntmps26;go_wp2_with fail;refine HF.o.mono ?_;rintro e w' ⟨lo,hi,rfl,hN,hL,hc⟩;have hN':=hN;obtain⟨n1,n2,-⟩:=hN';have hw1:IntKind.i64.wrap ((hi:Int)-lo)=((hi-lo:Nat):Int):=by rw[ao4 _ E];omega
 have HH:=θ (And.intro hN (And.intro hL hc));clear hN hL hc HF;go_wp2_with fail;go_ret;exact⟨lo,hi,rfl,HH.o⟩
structure LvO (b0:Nat) (e:TypeId) (B:Nat) (X:Nat→Prop) (w:World) (p pk pp ra:Nat) (mv:Int) (t:List Int) (R:List Nat) (c:Nat) (M:Nat→Bool) (v:Value) (n:Nat) (xs:List Value):Prop where
 lv:LvT B (fun j=>X j∨v.ownBlock=some j) w p pk pp ra mv t R c M
 own:w.ownsRow b0 e 1 v n xs
 le:B≤b0
 xl:∀j,X j→j<b0
variable {b0:Nat}{e:TypeId}{v:Value}{n:Nat}{xs:List Value}
theorem LvO.start (h:LvT B X w p pk pp ra mv t R c M)(hb:B≤b0)(hx:∀j,X j→j<b0):LvO b0 e B X w p pk pp ra mv t R c M (.slice none 0 0) 0 []:=⟨h.mono (fun j e=>e.elim id (fun e=>nomatch e)),aG2 w _ _ _,hb,hx⟩
theorem LvO.call (h:LvO b0 e B X w p pk pp ra mv t R c M v n xs)(hl:LvT B (fun j=>X j∨v.ownBlock=some j) w' p pk pp ra mv t R c M)(hc:Chg (exT B (fun j=>X j∨v.ownBlock=some j)) w w'):LvO b0 e B X w' p pk pp ra mv t R c M v n xs:=
 ⟨hl,hc.own h.own (fun k hk hs=>hs.2 (Ej hk)),h.le,h.xl⟩
theorem LvO.chg (h:LvO b0 e B X w p pk pp ra mv t R c M v n xs)(hc:Chg (exT B (fun j=>X j∨v.ownBlock=some j)) w w'):Chg (exT B X) w w':=hc.mono (fun j e=>⟨e.1,fun hx=>e.2 (Ei hx)⟩)
theorem LvO.drew (h:LvO b0 e B X w p pk pp ra mv t R c M v n xs):LvO b0 e B X w.drew p pk pp ra mv t R c M v n xs:=⟨h.lv.below ⟨rfl,rfl,rfl,aA5 _,fun _ _=>rfl⟩,h.own,h.le,h.xl⟩
theorem LvO.push (h:LvO b0 e B X w p pk pp ra mv t R c M v n xs){g n' cap:Nat}{ys:List Value}(ho:w'.ownsRow b0 e 1 (.slice (some ⟨g,0,none⟩) n' cap) n' ys)(hg:w.grownBy w' v.ownBlock)(hv:v.ownBlock=some g∨w.heap.size≤g)(hlt:g<w'.heap.size):
  LvO b0 e B X w' p pk pp ra mv t R c M (.slice (some ⟨g,0,none⟩) n' cap) n' ys∧Chg (exT B X) w w':=by
 have hc:Chg (fun j=>v.ownBlock=some j) w w':=Chg.refl.grown hg (fun k e=>Ei e);refine⟨⟨(h.lv.aside hc (fun j e1 _ e2=>e1.2 (Ej e2))).mono (fun j hj=>?_),ho,h.le,h.xl⟩,hc.mono (fun j hj=>⟨by have :=h.own.lt j hj;have :=h.le;omega,fun hx=>?_⟩)⟩
 ·rcases hj with hj | hj
  ·exact Ei (Ei hj)
  ·have hj:some g=some j:=hj;injection hj with hj
   subst hj;exact hv.elim (fun e=>Ei (Ej e)) (fun e=>Ej ⟨e,hlt⟩)
 ·have :=h.own.lt j hj;have :=h.xl j hx;omega
theorem Co{R:List Nat}{f:Nat→Bool}{lo hi:Nat}(hlo:lo≤hi)(h:∀i (hi':i<R.length),f R[i]=true↔lo≤i∧i<hi):R.filter f=(R.drop lo).take (hi-lo):=by
 have e:R=R.take lo++((R.drop lo).take (hi-lo)++(R.drop lo).drop (hi-lo)):=by rw[az0,az0]
 conv=>lhs;rw[e,aq4,aq4]
 rw[List.filter_eq_nil_iff.2,List.filter_eq_self.2,List.filter_eq_nil_iff.2,ax5,ao8]
 ·intro x hx;obtain⟨i,hi',rfl⟩:=List.mem_iff_getElem.1 hx;simp only[as8]at hi';rw[as1,as1,h _ E];omega
 ·intro x hx;obtain⟨i,hi',rfl⟩:=List.mem_iff_getElem.1 hx;simp only[at5,as8]at hi';rw[as5,as1,h _ E];omega
 ·intro x hx;obtain⟨i,hi',rfl⟩:=List.mem_iff_getElem.1 hx;simp only[at5]at hi';rw[as5,h _ E];omega
theorem Xr{L:List Nat}{u:List Int}{lo hi:Nat}(hr:RW t R L)(hn:Nar t R u lo hi){f:Nat→Bool}(hf:∀q,q≤t.length→(f q=true↔jW t u q)):(cC ((R.drop lo).take (hi-lo))).mergeSort (fun x y=>decide (x≤y))=cC ((List.range (t.length+1)).filter f):=by
 obtain⟨h1,h2,h3⟩:=hn;have hrl:=hr.rlen;have hp:=hr.rows.1;rw[aI]at hp;have e:R.filter f=(R.drop lo).take (hi-lo):=Co h1 (fun i hi'=>by
  have e1:R[i]=ro R i:=by unfold ro;rw[bW hi']
  rw[e1,hf _ (hr.roLt E),h3 i E])
 rw[←e];refine List.Perm.eq_of_pairwise (le:=fun x y:Int=>x≤y) (fun a b _ _ h1 h2=>E) ?_ ?_ ((List.mergeSort_perm _ _).trans ((hp.filter f).map _))
 ·exact(List.pairwise_mergeSort (fun a b c h1 h2=>by simp at *;omega) (fun a b=>by simp;omega) _).imp (fun h=>by simpa using h)
 ·exact List.pairwise_map.2 ((List.pairwise_lt_range.filter _).imp (fun h=>E))
theorem Vi(h:LvT B X w p pk pp ra mv t R c M)(h0:M 0=true)(pa:Option Addr)(pc:Nat)(ps:List Row)(hp:ReadsV w pa (ps.map kO))(hr:∀r∈ps,Reads w .u8 r.a r.l∧(r.a=none→r.l.length=0∧r.cap=0))(hl:(bJ ps).length≤1000000)(hk:ps.length≤1000000)(hby:aU (bJ ps)){f:Nat→Bool}(hf:∀q,q≤t.length→(f q=true↔jW t (bJ ps) q)):
  Calls Tryz.prog 27 #[.pointer (some ⟨p,0,none⟩), .slice pa ps.length pc] w fun e w'=>∃a cap,e= .returned (.slice a ((List.range (t.length+1)).countP f) cap)∧LvO w.heap.size 3 B X w' p pk pp ra mv t R c M (.slice a ((List.range (t.length+1)).countP f) cap) ((List.range (t.length+1)).countP f) ((cC ((List.range (t.length+1)).filter f)).map (Value.int .i64))∧Chg (exT B X) w w':=by
 have HF:=θ (yD h pa pc ps hp hr hl hk hby);have HS:=θ h;have hln:=h.len;clear h hp hr;go_enter Tryz.func27,Tryz.ntmps27;go_wp2_with fail;refine HF.o.mono ?_;rintro e w' ⟨lo,hi,rfl,hN,hL,hc⟩;have hN':=hN;obtain⟨n1,n2,-⟩:=hN';have HN:=θ hN;have HL:=θ hL;have HC:=θ hc;have hsz:=hc.size;clear hN hL hc HF;go_wp2_with fail;go_loopw [7,8] (fun v i wr=>∃k:Nat,k≤hi-lo∧i= .int .i64 (lo+k:Nat)∧LvO w.heap.size 3 B X wr p pk pp ra mv t R c M v k ((cC ((R.drop lo).take k)).map (Value.int .i64))∧Chg (exT B X) w wr) (fun _ i _=>hi-(intOf i).toNat);case atStart=>
  exact⟨0,aC8 _,rfl,LvO.start HL.o HS.o.le (fun j e=>HS.o.lv.e.xlt e),HC.o⟩
 case round=>as_aux_lemma=>
  obtain⟨k,hk2,rfl,hO,hc⟩:=hrel;obtain⟨a,cap,rfl,_,_⟩:=aM hO.own;have HC1:=θ hc;have hRl:=HS.o.lv.rlen;rw[aI]at hRl;by_cases hlt:lo+k<hi
  ·obtain⟨q,ha⟩:∃q,R[lo+k]? =some q:=⟨_,ar3 E⟩;have HP:=θ (lvPos hO.lv.lv hO.lv.tx hO.lv.rows h0 ha);have HO:=θ hO;have i1:((lo+k:Nat):Int)<(hi:Int):=E;have i2:IntKind.i64.wrap (((lo+k:Nat):Int)+1)=((lo+k+1:Nat):Int):=by rw[ao4 _ E];omega
   have htk:(R.drop lo).take (k+1)=(R.drop lo).take k++[q]:=by rw[ay9,ar2,ha];rfl
   have HTK:=θ htk;obtain⟨y,hy⟩:∃y,lo+k=y:=⟨_,rfl⟩;rw[hy]at HP i1 i2⊢;clear hc hO htk ha HN HL HC;go_wp2_with fail;refine HP.o.mono ?_;rintro e w1 ⟨rfl,hL1,hc1⟩;have hO1:=HO.o.call (w':=w1) ⟨HO.o.lv.byte,HO.o.lv.len,HO.o.lv.rows,hL1,HO.o.lv.sm,HO.o.lv.r1,HO.o.lv.r64⟩ hc1;have hc2:=HC1.o.trans (HO.o.chg hc1) (fun b e=>Ei e);have HO1:=θ hO1;have HC2:=θ hc2;have hown:=hO1.own;clear hO1 hL1 hc1 hc2 HP HO HC1;have hbs:w.heap.size≤w1.heap.size:=HC2.o.size;go_wp2_with (at_builtin;refine oI rfl _ _ 36 rfl w.heap.size 3 Tryz.infoInt' aF0 rfl _ _ _ rfl hown rfl rfl ?c1 ?c2 ?c3 ?_);case c1=>unfold maxLen;omega
   case c2=>omega
   case c3=>exact hbs
   rintro g cap' w2 hown2 hg hv hgl;obtain⟨hO2,hc3⟩:=HO1.o.push hown2 hg hv hgl;have HO2:=θ hO2;have HC3:=θ (HC2.o.trans hc3 (fun b e=>Ei e));clear hown hown2 hg hv hgl hO2 hc3 HO1 HC2;go_wp2_with fail;go_roundw;case rel=>exact⟨k+1,E,by rw[←hy];rfl,by rw[HTK.o];simpa[cC]using HO2.o,HC3.o⟩
   case measure=>simp[intOf];omega
  ·obtain rfl:k=hi-lo:=E;obtain⟨y,hy⟩:∃y,lo+(hi-lo)=y:=⟨_,rfl⟩;have i1:¬((y:Int)<(hi:Int)):=E;rw[hy];have hRR:=tJ HS.o.byte HS.o.rows;have hcnt:=Nar.count hRR HN.o hf;have hsort:=Xr hRR HN.o hf;obtain⟨zs,hzs⟩:∃zs,cC ((R.drop lo).take (hi-lo))=zs:=⟨_,rfl⟩;have hzl:zs.length=hi-lo:=by rw[←hzs,mU,at5,as8];omega
   rw[hzs]at hO hsort;have hSort:Calls Tryz.prog 63 #[.slice a (hi-lo) cap] wr fun e w2=>e= .returned (.tuple #[])∧LvO w.heap.size 3 B X w2 p pk pp ra mv t R c M (.slice a (hi-lo) cap) (hi-lo) ((zs.mergeSort (fun x y=>decide (x≤y))).map (Value.int .i64))∧Chg (exT B X) w w2:=by
    by_cases hz:hi-lo=0
    ·have hz0:zs=[]:=aq2 E;subst hz0;rw[hz]at hO⊢;refine(Tryz.slices_Sort_int_none a cap wr).mono ?_;rintro e w2 ⟨rfl,rfl⟩;exact⟨rfl,by simpa using hO,hc⟩
    ·obtain⟨g,cap',hv,hg1,hg2,_,_,hcell,hfr⟩:=cL hO.own E;injection hv with e1 e2 e3
     subst e1;subst e3;have hH:Go.Sort.Holds (Value.int .i64) wr g 0 zs.toArray:=fun j hj=>by
      have hj':j<zs.length:=by simpa using hj
      have he:(zs.toArray)[j]! =zs[j]:=by rw[getElem!_pos _ j (by simpa using hj')];simp
      rw[he,aC7];exact⟨(hcell j E).trans (by rw[ar6,ar3 hj'];rfl),hfr j⟩
     have :=Tryz.slices_Sort_int g 0 cap zs wr hH hg2 E;rw[hzl]at this;refine this.mono ?_;rintro e w2 ⟨rfl,n,os,rfl⟩;have hch:=dX (Value.int .i64) wr g n (zs.mergeSort (fun x y=>decide (x≤y))).toArray os;have how:=iM (Value.int .i64) hO.own n (zs.mergeSort (fun x y=>decide (x≤y))).toArray os (by simp[hzl]);refine⟨rfl,⟨(hO.lv.aside hch (fun j g1 _ g2=>g1.2 (Ej (by rw[g2];rfl)))).mono (fun j g=>Ei g),by have :=how;simp only[List.toList_toArray]at this;exact this,hO.le,hO.xl⟩,hc.trans hch (fun b g=>Ej E)⟩
   have HSO:=θ hSort;have HCN:=θ hcnt;have HST:=θ hsort;clear hO hc hSort hcnt hsort hzs HN HL HC HC1;go_wp2_with fail;refine HSO.o.mono ?_;rintro e w2 ⟨rfl,hO2,hc2⟩;have HO2:=θ (And.intro hO2 hc2);clear hO2 hc2 HSO;go_wp2_with fail;go_ret;refine⟨a,cap,by rw[HCN.o];rfl,?_⟩;rw[HCN.o,←HST.o];exact HO2.o
end
section
variable {B:Nat}{X:Nat→Prop}{w w':World}{p pk pp ra:Nat}{mv:Int}{t:List Int}{R:List Nat}{c:Nat}{M:Nat→Bool}
theorem ae9(h:LvT B X w p pk pp ra mv t R c M){i q:Nat}(hi:R[i]? =some q)(hq:q<t.length):
  w.cell? ⟨p,0,none⟩=some (.pointer (some ⟨pk,0,none⟩))∧Calls Tryz.prog 59 #[.pointer (some ⟨pk,0,none⟩), .int .i64 i] w fun e w'=>e= .returned (.int .i64 (t[q]?.getD 0+1))∧w=w':=by
 have hR:=tJ h.byte h.rows;have hi2:i≤t.length:=by have :=(ar5.1 hi).1;have :=h.lv.rlen;rw[aI]at this;omega
 have hln:=h.llen;have hlm:=h.len;have hro:ro R i=q:=by unfold ro;rw[hi];rfl
 have hwh:=hR.which hi2;rw[zE h.byte h.rows]at hwh;obtain⟨Y,Z,k⟩:=h.lv.e;refine⟨k.cells.1,(vG k.k E (by rw[hln];omega) (by rw[hln];omega)).mono ?_⟩;rintro e w' ⟨⟨r,rfl,hr⟩,rfl⟩;refine⟨?_,rfl⟩;rw[IsWhich.unique k.k.ok hr hwh,(hR.frowI hi2).1,hro,kS hq,bW hq]
theorem jQ{p j:Nat}{o:Obj}{u:Value}(hp:p<w.heap.size)(h:w.cell? ⟨p,j,none⟩=some u):(w.alloc o).cell? ⟨p,j,none⟩=some u:=(Below.cell ((am4 w.heap.size w).alloc (aA5 _) o) (p:=⟨p,j,none⟩) hp).trans h
theorem Yc(w:World)(u:Value)(e:TypeId):∀j v,[u][j]? =some v→(w.alloc (.cells #[u] e)).cell? ⟨w.heap.size,j,none⟩=some v:=by
 intro j v hj;match j,hj with
 | 0,hj=>simp at hj;subst hj;simp
theorem If{o:Obj}{b:Option Nat}(h:(w.alloc o).grownBy w' b):w.grownBy w' b:=⟨h.os,h.tape,h.output,by have :=h.size;simp at this;omega,fun k hk hne=>by
 rw[h.block k (by simp;omega) hne];exact am3 w _ k hk⟩
theorem Pe(h:LvT B X w p pk pp ra mv t R c M){at_ n:Int}(hn:¬(0≤at_∧0≤n∧at_≤t.length∧n≤t.length-at_)):
  Calls Tryz.prog 25 #[.pointer (some ⟨p,0,none⟩), .int .i64 at_, .int .i64 n] w fun e w'=>e= .returned (.tuple #[.slice none 0 0, .int .i64 2])∧w=w':=by
 have HLEN:=θ (kY h);have hln:=h.len;clear h;by_cases h1:at_<0
 ·go_enter Tryz.func25,Tryz.ntmps25;go_wp2_with fail;go_ret2;exact⟨rfl,rfl⟩
 ·by_cases h2:n<0
  ·go_enter Tryz.func25,Tryz.ntmps25;go_wp2_with fail;go_ret2;exact⟨rfl,rfl⟩
  ·by_cases h3:(t.length:Int)<at_
   ·go_enter Tryz.func25,Tryz.ntmps25;go_wp2_with fail;refine HLEN.o.mono ?_;rintro e w' ⟨rfl,rfl⟩;go_wp2_with fail;go_ret2;exact⟨rfl,rfl⟩
   ·have hw:IntKind.i64.wrap ((t.length:Int)-at_)=(t.length:Int)-at_:=ao4 _ E;have h4:(t.length:Int)-at_<n:=E;go_enter Tryz.func25,Tryz.ntmps25;go_wp2_with fail;refine HLEN.o.mono ?_;rintro e w' ⟨rfl,rfl⟩;go_wp2_with fail;refine HLEN.o.mono ?_;rintro e w' ⟨rfl,rfl⟩;go_wp2_with fail;go_ret2;exact⟨rfl,rfl⟩
theorem Jr(h:LvT B X w p pk pp ra mv t R c M)(hTab:BitTab w)(htl:0<B){at_ n:Nat}(hn:at_+n≤t.length):
  Calls Tryz.prog 25 #[.pointer (some ⟨p,0,none⟩), .int .i64 at_, .int .i64 n] w fun e w'=>∃a cap,e= .returned (.tuple #[.slice a n cap, .int .i64 0])∧LvO w.heap.size 5 B X w' p pk pp ra mv t R c M (.slice a n cap) n (((t.drop at_).take n).map (Value.int .u8))∧Chg (exT B X) w w':=by
 have HLEN:=θ (kY h);have HRO:=θ (yJ h.lv h.tx h.rows (pos:=at_) (by rw[aI];omega));have H:=θ h;have HTAB:=θ hTab;have hln:=h.len;have hle:=h.le;have hwl:=h.lv.e.lt;clear h hTab;have h1:¬((at_:Int)<0):=E;have h2:¬((n:Int)<0):=E;have h3:¬((t.length:Int)<(at_:Int)):=E;have hw:IntKind.i64.wrap ((t.length:Int)-at_)=(t.length:Int)-at_:=ao4 _ E;have h4:¬((t.length:Int)-at_<n):=E;go_enter Tryz.func25,Tryz.ntmps25;go_wp2_with fail;refine HLEN.o.mono ?_;rintro e w' ⟨rfl,rfl⟩;go_wp2_with fail;refine HLEN.o.mono ?_;rintro e w' ⟨rfl,rfl⟩;go_wp2_with fail;refine HRO.o.mono ?_;rintro e w1 ⟨row,rfl,hrow,hL1,hc1⟩;have HL1:=θ hL1;have HC1:=θ hc1;have HROW:=θ hrow;clear hL1 hc1 hrow HRO HLEN h1 h2 h3 hw h4;go_wp2_with fail;go_loopw [8,9,40] (fun v r i wr=>∃k j:Nat,k≤n∧i= .int .i64 k∧r= .int .i64 j∧R[j]? =some (at_+k)∧LvO w.heap.size 5 B X wr p pk pp ra mv t R c M v k (((t.drop at_).take k).map (Value.int .u8))∧Chg (exT B X) w wr) (fun _ _ i _=>n-(intOf i).toNat);case atStart=>exact⟨0,row,aC8 _,rfl,rfl,HROW.o,LvO.start ⟨H.o.byte,H.o.len,H.o.rows,HL1.o,H.o.sm,H.o.r1,H.o.r64⟩ hle (fun j e=>H.o.lv.e.xlt e),HC1.o⟩
 case round=>as_aux_lemma=>
  obtain⟨k,j,hk2,rfl,rfl,hj,hO,hc⟩:=hrel;obtain⟨a,cap,rfl,_,_⟩:=aM hO.own;by_cases hlt:k<n
  ·have hF:=ae9 hO.lv hj E;obtain⟨b,hb⟩:∃b,t[at_+k]?.getD 0=b:=⟨_,rfl⟩;have hb9:0≤b∧b<256:=by rw[←hb,bW E];exact H.o.byte _ (as3 _)
   rw[hb]at hF;have hcl:=hF.1;have HF:=θ hF.2;have HSB:=θ (Je (b+1) wr E E);rw[show b+1-1=b by omega]at HSB;have HO:=θ hO;have HC:=θ hc;have HJ:=θ hj;have HCL:=θ hcl;have i1:(k:Int)<(n:Int):=E;have i2:IntKind.i64.wrap ((k:Int)+1)=((k+1:Nat):Int):=by rw[ao4 _ E];omega
   have HPL:=θ hO.lv.lv.e.lt;have hbs:w.heap.size≤wr.heap.size:=hc.size;clear hO hc hj hF hb9;go_wp2_with fail;refine HF.o.mono ?_;rintro e w' ⟨rfl,rfl⟩;go_wp2_with fail;refine HSB.o.mono ?_;rintro e w' ⟨rfl,rfl⟩;go_wp2_with fail;refine aE (fun w'=>w'.cell? ⟨p,0,none⟩=some (.pointer (some ⟨pk,0,none⟩))) Ek (HCL.o) (fun hh=>?_);refine rt 0 hh ?_;refine rt 1 hh ?_;refine rt 4 hh ?_;refine rt 5 hh ?_;refine rt 6 hh ?_;refine rt 7 hh ?_;refine rt 8 hh ?_;refine rg 2 fun κ hK=>?_;go_simp;refine hK.out _ _ (jQ HPL.o hh) ?_;intro hh;try simp only[pt]
   refine rg 3 fun κ hK=>?_;refine gV _ _ 32 rfl w.heap.size 5 Tryz.infoU8 aE9 rfl Ed _ _ _ rfl (aG1 HO.o.drew.own _) wr.heap.size 1 [.int .u8 b] rfl rfl ?hus ?h1 ?c1 ?c2 ?c3 ?_;case hus=>exact Yc _ _ _
   case h1=>intro u hu;simp only[List.mem_singleton]at hu;subst hu;rfl
   case c1=>unfold maxLen;omega
   case c2=>omega
   case c3=>simp;omega
   rintro g cap' w2 hown2 hg hv hgl;have hg':=If (w:=wr) (o:= .cells #[.int .u8 b] 5) (b:=Value.ownBlock (.slice a k cap)) ⟨hg.os,hg.tape,hg.output,hg.size,hg.block⟩;obtain⟨hO2,hc2⟩:=HO.o.push hown2 hg' (hv.imp id (fun e=>by simp at e;omega)) hgl;have HO2:=θ hO2;have HC2:Hid (Chg (exT B X) w w2):=θ (HC.o.trans hc2 (fun b e=>Ei e));obtain⟨hcl2,j',hj',hon⟩:=lrOn hO2.lv.lv H.o.byte H.o.rows hln (HTAB.o.below (eE HC2.o hle) htl) htl HJ.o E;have HJ2:=θ hj';have HON:=θ hon;clear hown2 hg hv hgl hg' hO2 hc2 hj' hon;refine hK.out _ _ (hcl2) ?_;intro hh;try simp only[pt]
   refine rg 9 fun κ hK=>?_;go_simp;refine HON.o.mono ?_;rintro e w3 ⟨rfl,hL3,hc3⟩;have hcl3:=(eP hL3).1;have HO3:=θ (HO2.o.call (w':=w3) ⟨H.o.byte,H.o.len,H.o.rows,hL3,H.o.sm,H.o.r1,H.o.r64⟩ hc3);have HC3:=θ (HC2.o.trans (HO2.o.chg hc3) (fun b e=>Ei e));clear hL3 hc3 HON;refine hK.out _ _ (hcl3) ?_;intro hh;try simp only[pt]
   refine rt 10 hh ?_;refine rt 11 hh ?_;refine rz ?_;have htk:(t.drop at_).take (k+1)=(t.drop at_).take k++[b]:=by
    rw[ay9,ar2,ar3 E,←hb,bW E];rfl
   have HTK:=θ htk;clear htk hh;go_wp2_with fail;go_roundw;case rel=>exact⟨k+1,j',E,rfl,rfl,HJ2.o,by rw[HTK.o];simpa using HO3.o,HC3.o⟩
   case measure=>simp[intOf];omega
  ·obtain rfl:k=n:=E;have i1:¬((k:Int)<(k:Int)):=E;have HO:=θ (And.intro hO hc);clear hO hc hj hlt;go_wp2_with fail;go_ret2;exact⟨a,cap,rfl,by simpa using HO.o.1,HO.o.2⟩
end
def inX(B:Nat)(X:Nat→Prop)(q:Nat)(j:Nat):Prop:=B≤j∧(X j∨j=q)
structure StE (B:Nat) (X:Nat→Prop) (w:World) (q p:Nat) (ra:Nat) (most:Int) (t:List Int) (c:Nat) (B' pk pp:Nat) (mv:Int) (R:List Nat) (M:Nat→Bool):Prop where
 lv:LvT B' (inX B' X q) w p pk pp ra mv t R c M
 le:B≤B'
 q0:w.heap[q]? =some (.cells #[.pointer (some ⟨p,0,none⟩), .int .i64 most] 58 (0,0))
 qx:exT B X q
def StT(B:Nat)(X:Nat→Prop)(w:World)(q ra:Nat)(most:Int)(t:List Int)(c:Nat):Prop:=∃p B' pk pp mv R M,StE B X w q p ra most t c B' pk pp mv R M
section
variable {B:Nat}{X:Nat→Prop}{w w':World}{q p ra:Nat}{most:Int}{t:List Int}{c B' pk pp:Nat}{mv:Int}{R:List Nat}{M:Nat→Bool}
theorem Em(hB:B≤B'){j:Nat}(h:exT B' (inX B' X q) j):exT B X j:=⟨aA6 hB h.1,fun e=>h.2 ⟨h.1,Ei e⟩⟩
theorem inX_q{j:Nat}(h:exT B' (inX B' X q) j):j≠q:=fun e=>h.2 ⟨h.1,Ej e⟩
theorem StE.cells (h:StE B X w q p ra most t c B' pk pp mv R M):w.cell? ⟨q,0,none⟩=some (.pointer (some ⟨p,0,none⟩))∧w.cell? ⟨q,1,none⟩=some (.int .i64 most):=⟨aG7 w q 0 _ _ _ h.q0,aG7 w q 1 _ _ _ h.q0⟩
theorem StE.live (h:StE B X w q p ra most t c B' pk pp mv R M){mv':Int}{t':List Int}{R':List Nat}{c':Nat}{M':Nat→Bool}(hl:LvT B' (inX B' X q) w' p pk pp ra mv' t' R' c' M')(hc:Chg (exT B' (inX B' X q)) w w'):
  StE B X w' q p ra most t' c' B' pk pp mv' R' M'∧Chg (exT B X) w w':=⟨⟨hl,h.le,hc.heap h.q0 (fun e=>inX_q e rfl),h.qx⟩,hc.mono (fun j e=>Em h.le e)⟩
theorem StE.below (h:StE B X w q p ra most t c B' pk pp mv R M)(hb:Below w.heap.size w w'):StE B X w' q p ra most t c B' pk pp mv R M:=⟨h.lv.below hb,h.le,(Chg.of_below (S:=fun _=>False) hb).heap h.q0 (fun e=>e),h.qx⟩
theorem StE.lt (h:StE B X w q p ra most t c B' pk pp mv R M):q<w.heap.size:=(am0.1 h.q0).1
theorem StT.below (h:StT B X w q ra most t c)(hb:Below w.heap.size w w'):StT B X w' q ra most t c:=by
 obtain⟨p,B',pk,pp,mv,R,M,h⟩:=h;exact⟨p,B',pk,pp,mv,R,M,h.below hb⟩
theorem StT.le (h:StT B X w q ra most t c):B≤w.heap.size:=by obtain⟨p,B',pk,pp,mv,R,M,h⟩:=h;have :=h.lv.le;have :=h.le;omega
theorem StT.aside {S:Nat→Prop}(h:StT B X w q ra most t c)(hc:Chg S w w')(hd:∀j,exT B X j→j<w.heap.size→¬S j):StT B (fun j=>X j∨(w.heap.size≤j∧j<w'.heap.size)) w' q ra most t c:=by
 obtain⟨p,B',pk,pp,mv,R,M,h⟩:=h;refine⟨p,B',pk,pp,mv,R,M,⟨(h.lv.aside hc (fun j e1 e2=>hd j (Em h.le e1) e2)).mono (fun j e=>?_),h.le,hc.heap h.q0 (hd q h.qx h.lt),⟨h.qx.1,fun e=>e.elim h.qx.2 (fun e=>by have :=h.lt;omega)⟩⟩⟩;rcases e with ⟨e1,(e | e) | e⟩
 ·exact Ei ⟨e1,Ei e⟩
 ·exact Ej e
 ·exact Ei ⟨e1,Ej e⟩
theorem StT.mono {X':Nat→Prop}(h:StT B X w q ra most t c)(hy:∀j,X' j→X j):StT B X' w q ra most t c:=by
 obtain⟨p,B',pk,pp,mv,R,M,h⟩:=h;exact⟨p,B',pk,pp,mv,R,M,⟨h.lv.mono (fun j e=>⟨e.1,e.2.imp (hy j) id⟩),h.le,h.q0,⟨h.qx.1,fun e=>h.qx.2 (hy q e)⟩⟩⟩
theorem StT.less {X':Nat→Prop}(h:StT B X w q ra most t c)(hb:Below w.heap.size w w')(hy:∀j,X' j→X j∨(w.heap.size≤j∧j<w'.heap.size)):StT B X' w' q ra most t c:=
 (h.aside (S:=fun _=>False) (Chg.of_below hb) (fun _ _ _ hf=>hf)).mono hy
theorem Ce{most:Int}{ra:Nat}(h0:0≤most)(h9:most≤2147483648)(h1:1≤ra)(h64:ra≤64)(w:World):
  Calls Tryz.prog 7 #[.int .i64 most, .int .i64 ra] w fun e w'=>∃q,e= .returned (.tuple #[.pointer (some ⟨q,0,none⟩), .int .i64 0])∧StT w.heap.size (fun _=>False) w' q ra most [] 1∧Below w.heap.size w w':=by
 have HN:=θ (Re h1 h64 none 0 [] w ReadsV.nil (fun r hr=>nomatch hr) Ed Ed (fun x hx=>nomatch hx));have d1:¬(most<0):=E;have d2:¬(2147483648<most):=E;go_enter Tryz.func7,Tryz.ntmps7;go_wp2_with fail;refine HN.o.mono ?_;rintro e w1 ⟨p,pk,pp,R,rfl,hL,hb⟩;have HL:=θ hL;have HB:=θ hb;clear hL hb HN;go_wp2_with fail;go_ret2;have hb2:Below w1.heap.size w1 (w1.alloc (.cells #[.pointer (some ⟨p,0,none⟩), .int .i64 most] 58)):=(am4 _ _).alloc (aA5 _) _;refine⟨w1.heap.size,rfl,⟨p,w.heap.size,pk,pp,0,R,_,⟨HL.o.less hb2 (fun j e=>?_),aA5 _,aH5 w1 _,⟨HB.o.size,fun e=>e⟩⟩⟩,HB.o.trans (hb2.mono HB.o.size)⟩;obtain⟨e1,e | e⟩:=e
 ·exact e.elim
 ·exact Ej (by subst e;simp)
def cN(t:List Int)(at_ n:Int):Bool:=decide (0≤at_∧0≤n∧at_≤t.length∧n≤t.length-at_)
theorem lJ(h:StT B X w q ra most t c)(at_ n:Int):Calls Tryz.prog 52 #[.pointer (some ⟨q,0,none⟩), .int .i64 at_, .int .i64 n] w fun e w'=>e= .returned (.bool (cN t at_ n))∧w=w':=by
 obtain⟨p,B',pk,pp,mv,R,M,h⟩:=h;have HLEN:=θ (kY h.lv);have hln:=h.lv.len;obtain⟨c0,-⟩:=h.cells;clear h;by_cases h1:0≤at_
 ·by_cases h2:0≤n
  ·by_cases h3:at_≤t.length
   ·have hw:IntKind.i64.wrap ((t.length:Int)-at_)=(t.length:Int)-at_:=ao4 _ E;have e1:cN t at_ n=decide (n≤(t.length:Int)-at_):=by unfold cN;simp[h1,h2,h3]
    rw[e1];go_enter Tryz.func52,Tryz.ntmps52;go_wp2_with fail;refine HLEN.o.mono ?_;rintro e w' ⟨rfl,rfl⟩;go_wp2_with fail;refine HLEN.o.mono ?_;rintro e w' ⟨rfl,rfl⟩;go_wp2_with fail;go_ret;exact⟨rfl,rfl⟩
   ·have e1:cN t at_ n=false:=aG9 (fun h=>h3 h.2.2.1);rw[e1];go_enter Tryz.func52,Tryz.ntmps52;go_wp2_with fail;refine HLEN.o.mono ?_;rintro e w' ⟨rfl,rfl⟩;go_wp2_with fail;go_ret;exact⟨rfl,rfl⟩
  ·have e1:cN t at_ n=false:=aG9 (fun h=>h2 h.2.1);rw[e1];go_enter Tryz.func52,Tryz.ntmps52;go_wp2_with fail;go_ret;exact⟨rfl,rfl⟩
 ·have e1:cN t at_ n=false:=aG9 (fun h=>h1 h.1);rw[e1];go_enter Tryz.func52,Tryz.ntmps52;go_wp2_with fail;go_ret;exact⟨rfl,rfl⟩
end
def bD(k at_ n:Int)(da:Option Addr)(dn dc:Nat):Value:= .agg #[.int .i64 k, .int .i64 at_, .int .i64 n, .slice da dn dc]
def fD(t:List Int)(k:Nat)(d:List Int):List Int:=t.take k++d++t.drop k
def eC(t:List Int)(k n:Nat):List Int:=t.take k++t.drop (k+n)
def dD(t:List Int)(k:Nat)(d:List Int):List Int:=t.take k++d++t.drop (k+d.length)
section
variable {B:Nat}{X:Nat→Prop}{w w':World}{q p ra:Nat}{most:Int}{t:List Int}{c B' pk pp:Nat}{mv:Int}{R:List Nat}{M:Nat→Bool}
theorem StE.delete (h:StE B X w q p ra most t c B' pk pp mv R M)(hTab:BitTab w)(htl:0<B){k:Nat}(hk:k<t.length)(hc:c+t.length+10≤1000000):
  Calls Tryz.prog 53 #[.pointer (some ⟨p,0,none⟩), .int .i64 k] w fun e w'=>e= .returned (.int .i64 0)∧(∃mv' R' c' M',c'≤c+t.length+5∧StE B X w' q p ra most (aB t k) c' B' pk pp mv' R' M')∧Chg (exT B X) w w':=by
 have :=h.le;refine(Wy h.lv hTab E hk hc).mono ?_;rintro e w' ⟨rfl,⟨mv',R',c',M',hc',hl⟩,hch⟩;exact⟨rfl,⟨mv',R',c',M',hc',(h.live hl hch).1⟩,(h.live hl hch).2⟩
theorem StE.insert (h:StE B X w q p ra most t c B' pk pp mv R M){k b:Nat}(hk:k≤t.length)(hb:b<256)(hl:t.length<100000)(hc:c+t.length+10≤1000000):
  Calls Tryz.prog 55 #[.pointer (some ⟨p,0,none⟩), .int .i64 k, .int .u8 b] w fun e w'=>e= .returned (.int .i64 0)∧(∃mv' R' c' M',c'≤c+t.length+5∧StE B X w' q p ra most (inL t k (b:Int)) c' B' pk pp mv' R' M')∧Chg (exT B X) w w':=by
 refine(Xd h.lv hk hb hl hc).mono ?_;rintro e w' ⟨rfl,⟨mv',R',c',M',hc',hl⟩,hch⟩;exact⟨rfl,⟨mv',R',c',M',hc',(h.live hl hch).1⟩,(h.live hl hch).2⟩
theorem StE.set (h:StE B X w q p ra most t c B' pk pp mv R M)(hTab:BitTab w)(htl:0<B){k b:Nat}(hk:k<t.length)(hb:b<256):
  Calls Tryz.prog 54 #[.pointer (some ⟨p,0,none⟩), .int .i64 k, .int .u8 b] w fun e w'=>e= .returned (.int .i64 0)∧(∃mv' R' c' M',c'≤c+t.length+5∧StE B X w' q p ra most (t.set k (b:Int)) c' B' pk pp mv' R' M')∧Chg (exT B X) w w':=by
 have :=h.le;refine(lvSet h.lv hTab E hk hb).mono ?_;rintro e w' ⟨rfl,⟨mv',R',hl⟩,hch⟩;exact⟨rfl,⟨mv',R',c,M,E,(h.live hl hch).1⟩,(h.live hl hch).2⟩
theorem sO(h:StT B X w q ra most t c){k at_ n m:Int}{da:Option Addr}{dn dc:Nat}(hm:m=if k=1 then 0 else if k=3 then (dn:Int)else n)(hk:1≤k∧k≤3)(hno:cN t at_ m=false):
  Calls Tryz.prog 23 #[.pointer (some ⟨q,0,none⟩),bD k at_ n da dn dc] w fun e w'=>e= .returned (.int .i64 2)∧Below w.heap.size w w':=by
 have HH:=θ (fun(w':World) (hb:Below w.heap.size w w')=>lJ (h.below hb) at_ m);rw[hno]at HH;have hb1:Below w.heap.size w (w.alloc (.cells #[.int .i64 k, .int .i64 at_, .int .i64 n, .slice da dn dc] 34)):=(am4 _ _).alloc (aA5 _) _;unfold bD;obtain rfl | rfl | rfl:k=1∨k=2∨k=3:=E
 ·rw[aH9 rfl]at hm;subst hm;go_enter Tryz.func23,Tryz.ntmps23;go_wp2_with fail;refine(HH.o _ hb1).mono ?_;rintro e w' ⟨rfl,rfl⟩;go_wp2_with fail;go_ret;exact⟨rfl,hb1⟩
 ·have hm':m=n:=by rw[hm];simp
  subst hm';clear hm;go_enter Tryz.func23,Tryz.ntmps23;go_wp2_with fail;refine(HH.o _ hb1).mono ?_;rintro e w' ⟨rfl,rfl⟩;go_wp2_with fail;go_ret;exact⟨rfl,hb1⟩
 ·have hm':m=(dn:Int):=by rw[hm];simp
  subst hm';clear hm;go_enter Tryz.func23,Tryz.ntmps23;go_wp2_with fail;refine(HH.o _ hb1).mono ?_;rintro e w' ⟨rfl,rfl⟩;go_wp2_with fail;go_ret;exact⟨rfl,hb1⟩
theorem Ja(h:StT B X w q ra most t c){at_ n:Int}{da:Option Addr}{dn dc:Nat}(hno:cN t at_ 0=true)(h0:0≤most)(h9:most≤2147483648)(hf:most-t.length<dn)(hdn:dn≤1000000):
  Calls Tryz.prog 23 #[.pointer (some ⟨q,0,none⟩),bD 1 at_ n da dn dc] w fun e w'=>e= .returned (.int .i64 3)∧Below w.heap.size w w':=by
 have HH:=θ (fun(w':World) (hb:Below w.heap.size w w')=>lJ (h.below hb) at_ 0);rw[hno]at HH;have hb1:Below w.heap.size w (w.alloc (.cells #[.int .i64 1, .int .i64 at_, .int .i64 n, .slice da dn dc] 34)):=(am4 _ _).alloc (aA5 _) _;have hh:=h;obtain⟨p,B',pk,pp,mv,R,M,h⟩:=h;have HLEN:=θ (fun n=>(kY (h.below (aG4 hb1 n)).lv).mono (fun e w' h=>And.intro h.1 h.2.symm));have hln:=h.lv.len;have hc0:=(h.below hb1).cells.1;have hc1:=(h.below hb1).cells.2;have hw:IntKind.i64.wrap (most-(t.length:Int))=most-(t.length:Int):=ao4 _ E;have hd:decide (most-(t.length:Int)<(dn:Int))=true:=aH1 hf;unfold bD;clear h hh;go_enter Tryz.func23,Tryz.ntmps23;go_wp2_with fail;refine(HH.o _ hb1).mono ?_;rintro e w' ⟨rfl,rfl⟩;go_wp2_with fail;go_quiet ((go_at_call 24;exact Calls.quiet_of_same (HLEN.o _)));go_wp2_with fail;go_ret;exact⟨rfl,aG4 hb1 _⟩
end
section
variable {B:Nat}{X:Nat→Prop}{w w':World}{q p ra:Nat}{most:Int}{t:List Int}{c B' pk pp:Nat}{mv:Int}{R:List Nat}{M:Nat→Bool}
theorem Oc(t:List Int)(k:Nat):eC t k 0=t:=by unfold eC;simp
theorem Ob{t:List Int}{k j:Nat}(h:k+j<t.length):aB (eC t k j) k=eC t k (j+1):=by
 unfold aB eC;rw[az1 (by rw[at5];omega),az5,Nat.min_self,aq0,at5,List.drop_of_length_le (by rw[at5];omega),ax5,List.drop_drop];congr 2;omega
theorem sP{t:List Int}{k j:Nat}(h:k+j≤t.length):(eC t k j).length=t.length-j:=by unfold eC;rw[as6,at5,as8];omega
theorem Ct(h:StT B X w q ra most t c)(hTab:BitTab w)(htl:0<B){k n:Nat}{da:Option Addr}{dn dc:Nat}(hkn:k+n≤t.length)(hc:c+n*(t.length+5)+t.length+10≤1000000):
  Calls Tryz.prog 23 #[.pointer (some ⟨q,0,none⟩),bD 2 k n da dn dc] w fun e w'=>e= .returned (.int .i64 0)∧(∃c',c'≤c+n*(t.length+5)∧StT B X w' q ra most (eC t k n) c')∧Chg (exT B X) w w':=by
 have HH:=θ (fun(w':World) (hb:Below w.heap.size w w')=>lJ (h.below hb) k n);have hhas:cN t k n=true:=aH1 E;rw[hhas]at HH;have hb1:Below w.heap.size w (w.alloc (.cells #[.int .i64 2, .int .i64 k, .int .i64 n, .slice da dn dc] 34)):=(am4 _ _).alloc (aA5 _) _;have hbx:=aH5 w (.cells #[.int .i64 2, .int .i64 k, .int .i64 n, .slice da dn dc] 34);have hle:=h.le;have hln:t.length≤100000:=by obtain⟨p,B',pk,pp,mv,R,M,h⟩:=h;exact h.lv.len
 have HTAB:=θ hTab;have h1:=h.less (X':=fun j=>X j∨j=w.heap.size) hb1 (fun j e=>e.imp id (fun e=>by subst e;simp));have hX:=fun j (e:X j)=>(show j<w.heap.size by obtain⟨p,B',pk,pp,mv,R,M,h⟩:=h;exact(aB0 j B').elim (fun e'=>by have :=h.lv.le;omega) (fun e'=>h.lv.lv.e.xlt ⟨e',Ei e⟩));have H1:=θ h1;have HBX:=θ hbx;have hsz:(w.alloc (.cells #[.int .i64 2, .int .i64 k, .int .i64 n, .slice da dn dc] 34)).heap.size=w.heap.size+1:=Es;unfold bD;clear h hTab h1 hbx hhas;go_enter Tryz.func23,Tryz.ntmps23;go_wp2_with fail;refine(HH.o _ hb1).mono ?_;rintro e w' ⟨rfl,rfl⟩;clear HH;go_wp2_with fail;go_quiet (fail);go_wp2_with fail;generalize hw1:w.alloc (.cells #[.int .i64 2, .int .i64 k, .int .i64 n, .slice da dn dc] 34)=w1 at *;generalize hb0:w.heap.size=b0 at *;obtain⟨X1,hX1⟩:∃X1:Nat→Prop,X1=fun j=>X j∨j=b0:=⟨_,rfl⟩;rw[←hX1]at H1;go_loopw [52] (fun i wr=>∃j:Nat,j≤n∧i= .int .i64 j∧(∃c',c'≤c+j*(t.length+5)∧StT B X1 wr q ra most (eC t k j) c')∧Chg (exT B X1) w1 wr) (fun i _=>n-(intOf i).toNat);case atStart=>exact⟨0,aC8 _,rfl,⟨c,E,by rw[Oc];exact H1.o.below (aG4 (am4 _ _) _)⟩,Chg.refl.drewN _⟩
 case round=>as_aux_lemma=>
  obtain⟨j,hj,rfl,⟨c1,hc1,hS⟩,hch⟩:=hrel;by_cases hlt:j<n
  ·obtain⟨p,B',pk,pp,mv,R,M,hE⟩:=hS;have hls:=sP (t:=t) (k:=k) (j:=j) E;have hmul:j*(t.length+5)+(t.length+5)≤n*(t.length+5):=by
    rw[←aC1];exact Nat.mul_le_mul_right _ hlt
   have hCB:BitTab wr:=(HTAB.o.below' (by rw[hb0];exact hb1)).below (eE hch E) htl;have HD:=θ (StE.delete (hE.below (w':=wr.drew) ⟨rfl,rfl,rfl,aA5 _,fun _ _=>rfl⟩) (by exact hCB) htl (k:=k) (by rw[hls];omega) (by rw[hls];omega));rw[Ob E]at HD;have HCL:=θ (And.intro hE.cells.1 (aG7 wr b0 1 _ _ _ (hch.heap HBX.o (fun e=>e.2 (by rw[hX1];exact Ej rfl)))));have HC:=θ hch;have i1:(j:Int)<(n:Int):=E;have i2:IntKind.i64.wrap ((j:Int)+1)=((j+1:Nat):Int):=by rw[ao4 _ E];omega
   have hx0:X1 b0:=by rw[hX1];exact Ej rfl
   clear hE hch hCB H1 HBX HTAB hX1;go_wp2_with fail;refine aE (fun w'=>w'.cell? ⟨q,0,none⟩=some (.pointer (some ⟨p,0,none⟩))∧w'.cell? ⟨b0,1,none⟩=some (.int .i64 k)) Ek (HCL.o) (fun hh=>?_);refine rt 0 hh ?_;refine rt 1 hh ?_;refine rt 2 hh ?_;refine rt 3 hh ?_;refine rt 4 hh ?_;refine rt 5 hh ?_;refine rg 6 fun κ hK=>?_;go_simp;refine HD.o.mono ?_;rintro e w2 ⟨rfl,⟨mv2,R2,c2,M2,hc2,h2⟩,hch2⟩;have hcl2:=And.intro h2.cells.1 (hch2.cell HCL.o.2 (fun e=>e.2 hx0));have H2:=θ h2;have HC2:=θ (HC.o.drew.trans hch2 (fun b e=>Ei e));clear h2 hch2 HD;refine hK.out _ _ (hcl2) ?_;intro hh;try simp only[pt]
   refine rz ?_;go_wp2_with fail;go_roundw;case rel=>exact⟨j+1,E,rfl,⟨c2,by rw[hls]at hc2;rw[aC1];omega,⟨p,B',pk,pp,mv2,R2,M2,H2.o⟩⟩,HC2.o⟩
   case measure=>simp[intOf];omega
  ·obtain rfl:j=n:=E;have i1:¬((j:Int)<(j:Int)):=E;have HS:=θ hS;have HC:=θ hch;clear hS hch;go_wp2_with fail;go_ret;refine⟨rfl,⟨c1,hc1,HS.o.mono (fun j e=>by rw[hX1];exact Ei e)⟩,(Chg.of_below (by rw[hb0];exact hb1)).trans (HC.o.mono (S':=exT B X) (fun j e=>⟨e.1,fun hx=>e.2 (by rw[hX1];exact Ei hx)⟩)) (fun b e=>Ei e)⟩
theorem aa6(t:List Int)(k:Nat):fD t k []=t:=by unfold fD;simp
theorem rE{t d:List Int}{k:Nat}(h:k≤t.length):(fD t k d).length=t.length+d.length:=by unfold fD;rw[as6,as6,at5,as8];omega
theorem Ua{t d:List Int}{k j:Nat}{x:Int}(h:k≤t.length)(hx:d[j]? =some x):inL (fD t k (d.take j)) (k+j) x=fD t k (d.take (j+1)):=by
 have hj:=(ar5.1 hx).1;have hl:(t.take k++d.take j).length=k+j:=by rw[as6,at5,at5];omega
 unfold inL fD;rw[az1 E,az3 E,aq0,hl,List.drop_of_length_le E,ay9,hx];simp
theorem Cv(h:StT B X w q ra most t c)(hTab:BitTab w)(htl:0<B){k dc:Nat}{n:Int}{da:Option Addr}{d:List Int}(hrd:Reads w .u8 da d)(hda:0<d.length→∀ad,da=some ad→¬exT B X ad.block)(hby:aU d)(hkn:k≤t.length)(h0:0≤most)(h9:most≤2147483648)(hroom:(d.length:Int)≤most-t.length)(hl:t.length+d.length≤99999)(hc:c+d.length*(t.length+d.length+5)+t.length+d.length+10≤1000000):
  Calls Tryz.prog 23 #[.pointer (some ⟨q,0,none⟩),bD 1 k n da d.length dc] w fun e w'=>e= .returned (.int .i64 0)∧(∃c',c'≤c+d.length*(t.length+d.length+5)∧StT B X w' q ra most (fD t k d) c')∧Chg (exT B X) w w':=by
 have HH:=θ (fun(w':World) (hb:Below w.heap.size w w')=>lJ (h.below hb) k 0);have hhas:cN t k 0=true:=aH1 E;rw[hhas]at HH;have hb1:Below w.heap.size w (w.alloc (.cells #[.int .i64 1, .int .i64 k, .int .i64 n, .slice da d.length dc] 34)):=(am4 _ _).alloc (aA5 _) _;have hbx:=aH5 w (.cells #[.int .i64 1, .int .i64 k, .int .i64 n, .slice da d.length dc] 34);have hle:=h.le;have hln:t.length≤100000:=by obtain⟨p,B',pk,pp,mv,R,M,h⟩:=h;exact h.lv.len
 have hw:IntKind.i64.wrap (most-(t.length:Int))=most-(t.length:Int):=ao4 _ E;have hd:decide (most-(t.length:Int)<(d.length:Int))=false:=aG9 E;have HLC:=θ (show ∃p,(w.alloc (.cells #[.int .i64 1, .int .i64 k, .int .i64 n, .slice da d.length dc] 34)).cell? ⟨q,0,none⟩=some (.pointer (some ⟨p,0,none⟩))∧(w.alloc (.cells #[.int .i64 1, .int .i64 k, .int .i64 n, .slice da d.length dc] 34)).cell? ⟨q,1,none⟩=some (.int .i64 most)∧∀n',Calls Tryz.prog 24 #[.pointer (some ⟨p,0,none⟩)] ((w.alloc (.cells #[.int .i64 1, .int .i64 k, .int .i64 n, .slice da d.length dc] 34)).drewN n') fun e w'=>e= .returned (.int .i64 t.length)∧w'=((w.alloc (.cells #[.int .i64 1, .int .i64 k, .int .i64 n, .slice da d.length dc] 34)).drewN n') by
  obtain⟨p,B',pk,pp,mv,R,M,h⟩:=h
  exact⟨p,(h.below hb1).cells.1,(h.below hb1).cells.2,fun n'=>(kY (h.below (aG4 hb1 n')).lv).mono (fun e w' h=>And.intro h.1 h.2.symm)⟩)
 have HRD:=θ (Reads.below hrd hb1);have h1:=h.less (X':=fun j=>X j∨j=w.heap.size) hb1 (fun j e=>e.imp id (fun e=>by subst e;simp));have hX:=fun j (e:X j)=>(show j<w.heap.size by obtain⟨p,B',pk,pp,mv,R,M,h⟩:=h;exact(aB0 j B').elim (fun e'=>by have :=h.lv.le;omega) (fun e'=>h.lv.lv.e.xlt ⟨e',Ei e⟩));have H1:=θ h1;have HBX:=θ hbx;have hsz:(w.alloc (.cells #[.int .i64 1, .int .i64 k, .int .i64 n, .slice da d.length dc] 34)).heap.size=w.heap.size+1:=Es;unfold bD;clear h h1 hbx hhas hrd;go_enter Tryz.func23,Tryz.ntmps23;go_wp2_with fail;refine(HH.o _ hb1).mono ?_;rintro e w' ⟨rfl,rfl⟩;clear HH;obtain⟨p,hc0,hc1,hlen⟩:=HLC.o;have HLEN:=θ hlen;clear hlen HLC;go_wp2_with fail;go_quiet ((go_at_call 24;exact Calls.quiet_of_same (HLEN.o _)));go_wp2_with fail;clear hc0 hc1 HLEN;generalize hw1:w.alloc (.cells #[.int .i64 1, .int .i64 k, .int .i64 n, .slice da d.length dc] 34)=w1 at *;generalize hb0:w.heap.size=b0 at *;obtain⟨X1,hX1⟩:∃X1:Nat→Prop,X1=fun j=>X j∨j=b0:=⟨_,rfl⟩;rw[←hX1]at H1;go_loopw [65] (fun i wr=>∃j:Nat,j≤d.length∧i= .int .i64 j∧(∃c',c'≤c+j*(t.length+d.length+5)∧StT B X1 wr q ra most (fD t k (d.take j)) c')∧Chg (exT B X1) w1 wr) (fun i _=>d.length-(intOf i).toNat);case atStart=>exact⟨0,aC8 _,rfl,⟨c,E,by rw[az6,aa6];exact H1.o.below (aG4 (am4 _ _) _)⟩,Chg.refl.drewN _⟩
 case round=>as_aux_lemma=>
  obtain⟨j,hj,rfl,⟨c1,hc1,hS⟩,hch⟩:=hrel;by_cases hlt:j<d.length
  ·obtain⟨p,B',pk,pp,mv,R,M,hE⟩:=hS;have hls:=rE (t:=t) (k:=k) (d:=d.take j) hkn;rw[at5,aB2 hj]at hls;have hmul:j*(t.length+d.length+5)+(t.length+d.length+5)≤d.length*(t.length+d.length+5):=by
    rw[←aC1];exact Nat.mul_le_mul_right _ hlt
   obtain⟨b,hb,hb9⟩:∃b:Nat,d[j]? =some (b:Int)∧b<256:=by
    rw[ar3 hlt];have :=hby _ (as3 hlt);exact⟨(d[j]).toNat,by congr 1;omega,E⟩
   obtain⟨bd,off,rfl,hbd,hcells⟩:=HRD.o.some E;have hcell:=hch.cell (hcells j hlt) (fun e=>hda E _ rfl ⟨e.1,fun hx=>e.2 (by rw[hX1];exact Ei hx)⟩);rw[hb]at hcell;have HD:=θ (StE.insert (hE.below (w':=wr.drew) ⟨rfl,rfl,rfl,aA5 _,fun _ _=>rfl⟩) (k:=k+j) (by rw[hls];omega) hb9 (by rw[hls];omega) (by rw[hls];omega));rw[Ua hkn hb]at HD;have HCL:=θ (And.intro hE.cells.1 (aG7 wr b0 1 _ _ _ (hch.heap HBX.o (fun e=>e.2 (by rw[hX1];exact Ej rfl)))));have hk0:wr.cell? ⟨b0,0,none⟩=some (.int .i64 1):=aG7 wr b0 0 _ _ _ (hch.heap HBX.o (fun e=>e.2 (by rw[hX1];exact Ej rfl)));have HC:=θ hch;have i1:(j:Int)<(d.length:Int):=E;have i2:IntKind.i64.wrap ((j:Int)+1)=((j+1:Nat):Int):=by rw[ao4 _ E];omega
   have i3:IntKind.i64.wrap ((k:Int)+(j:Int))=((k+j:Nat):Int):=by rw[ao4 _ E];omega
   have i4:(0:Int)≤(j:Int):=E;have hx0:X1 b0:=by rw[hX1];exact Ej rfl
   clear hE hch H1 HBX hX1 hcells HRD;go_wp2_with fail;refine aE (fun w'=>w'.cell? ⟨q,0,none⟩=some (.pointer (some ⟨p,0,none⟩))∧w'.cell? ⟨b0,1,none⟩=some (.int .i64 k)) Ek (HCL.o) (fun hh=>?_);refine rt 0 hh ?_;refine rt 1 hh ?_;refine rt 2 hh ?_;refine rt 3 hh ?_;refine rt 4 hh ?_;refine rt 5 hh ?_;refine rt 6 hh ?_;refine rt 7 hh ?_;refine rt 8 hh ?_;refine rg 9 fun κ hK=>?_;go_simp;refine HD.o.mono ?_;rintro e w2 ⟨rfl,⟨mv2,R2,c2,M2,hc2,h2⟩,hch2⟩;have hcl2:=And.intro h2.cells.1 (hch2.cell HCL.o.2 (fun e=>e.2 hx0));have H2:=θ h2;have HC2:=θ (HC.o.drew.trans hch2 (fun b e=>Ei e));clear h2 hch2 HD;refine hK.out _ _ (hcl2) ?_;intro hh;try simp only[pt]
   refine rz ?_;go_wp2_with fail;go_roundw;case rel=>exact⟨j+1,E,rfl,⟨c2,by rw[hls]at hc2;rw[aC1];omega,⟨p,B',pk,pp,mv2,R2,M2,H2.o⟩⟩,HC2.o⟩
   case measure=>simp[intOf];omega
  ·obtain rfl:j=d.length:=E;rw[az2]at hS;have i1:¬((d.length:Int)<(d.length:Int)):=E;have HS:=θ hS;have HC:=θ hch;clear hS hch;go_wp2_with fail;go_ret;refine⟨rfl,⟨c1,hc1,HS.o.mono (fun j e=>by rw[hX1];exact Ei e)⟩,(Chg.of_below (by rw[hb0];exact hb1)).trans (HC.o.mono (S':=exT B X) (fun j e=>⟨e.1,fun hx=>e.2 (by rw[hX1];exact Ei hx)⟩)) (fun b e=>Ei e)⟩
theorem Od(t:List Int)(k:Nat):dD t k []=t:=by unfold dD;simp
theorem rF{t d:List Int}{k:Nat}(h:k+d.length≤t.length):(dD t k d).length=t.length:=by unfold dD;rw[as6,as6,at5,as8];omega
theorem Jb{t d:List Int}{k j:Nat}{x:Int}(h:k+j<t.length)(hx:d[j]? =some x):(dD t k (d.take j)).set (k+j) x=dD t k (d.take (j+1)):=by
 have hj:=(ar5.1 hx).1;have hl:(t.take k++d.take j).length=k+j:=by rw[as6,at5,at5];omega
 unfold dD;rw[at5,at5,aB2 E,aB2 E,List.set_append_right _ _ E,hl,aC0,List.drop_eq_getElem_cons h,List.set_cons_zero,ay9,hx];simp[az7]
theorem Oa(h:StT B X w q ra most t c)(hTab:BitTab w)(htl:0<B){k dc:Nat}{n:Int}{da:Option Addr}{d:List Int}(hrd:Reads w .u8 da d)(hda:0<d.length→∀ad,da=some ad→¬exT B X ad.block)(hby:aU d)(hkn:k+d.length≤t.length)(hc:c+d.length*(t.length+5)+t.length+10≤1000000):
  Calls Tryz.prog 23 #[.pointer (some ⟨q,0,none⟩),bD 3 k n da d.length dc] w fun e w'=>e= .returned (.int .i64 0)∧(∃c',c'≤c+d.length*(t.length+5)∧StT B X w' q ra most (dD t k d) c')∧Chg (exT B X) w w':=by
 have HH:=θ (fun(w':World) (hb:Below w.heap.size w w')=>lJ (h.below hb) k d.length);have hhas:cN t k d.length=true:=aH1 E;rw[hhas]at HH;have hb1:Below w.heap.size w (w.alloc (.cells #[.int .i64 3, .int .i64 k, .int .i64 n, .slice da d.length dc] 34)):=(am4 _ _).alloc (aA5 _) _;have hbx:=aH5 w (.cells #[.int .i64 3, .int .i64 k, .int .i64 n, .slice da d.length dc] 34);have hle:=h.le;have hln:t.length≤100000:=by obtain⟨p,B',pk,pp,mv,R,M,h⟩:=h;exact h.lv.len
 have HTAB:=θ hTab;have HRD:=θ (Reads.below hrd hb1);have h1:=h.less (X':=fun j=>X j∨j=w.heap.size) hb1 (fun j e=>e.imp id (fun e=>by subst e;simp));have hX:=fun j (e:X j)=>(show j<w.heap.size by obtain⟨p,B',pk,pp,mv,R,M,h⟩:=h;exact(aB0 j B').elim (fun e'=>by have :=h.lv.le;omega) (fun e'=>h.lv.lv.e.xlt ⟨e',Ei e⟩));have H1:=θ h1;have HBX:=θ hbx;have hsz:(w.alloc (.cells #[.int .i64 3, .int .i64 k, .int .i64 n, .slice da d.length dc] 34)).heap.size=w.heap.size+1:=Es;unfold bD;clear h h1 hbx hhas hrd;go_enter Tryz.func23,Tryz.ntmps23;go_wp2_with fail;refine(HH.o _ hb1).mono ?_;rintro e w' ⟨rfl,rfl⟩;clear HH;go_wp2_with fail;go_quiet (fail);go_wp2_with fail;generalize hw1:w.alloc (.cells #[.int .i64 3, .int .i64 k, .int .i64 n, .slice da d.length dc] 34)=w1 at *;generalize hb0:w.heap.size=b0 at *;obtain⟨X1,hX1⟩:∃X1:Nat→Prop,X1=fun j=>X j∨j=b0:=⟨_,rfl⟩;rw[←hX1]at H1;go_loopw [65] (fun i wr=>∃j:Nat,j≤d.length∧i= .int .i64 j∧(∃c',c'≤c+j*(t.length+5)∧StT B X1 wr q ra most (dD t k (d.take j)) c')∧Chg (exT B X1) w1 wr) (fun i _=>d.length-(intOf i).toNat);case atStart=>exact⟨0,aC8 _,rfl,⟨c,E,by rw[az6,Od];exact H1.o.below (aG4 (am4 _ _) _)⟩,Chg.refl.drewN _⟩
 case round=>as_aux_lemma=>
  obtain⟨j,hj,rfl,⟨c1,hc1,hS⟩,hch⟩:=hrel;by_cases hlt:j<d.length
  ·obtain⟨p,B',pk,pp,mv,R,M,hE⟩:=hS;have hls:=rF (t:=t) (k:=k) (d:=d.take j) (by rw[at5];omega);have hCB:BitTab wr:=(HTAB.o.below' (by rw[hb0];exact hb1)).below (eE hch E) htl;have hmul:j*(t.length+5)+(t.length+5)≤d.length*(t.length+5):=by
    rw[←aC1];exact Nat.mul_le_mul_right _ hlt
   obtain⟨b,hb,hb9⟩:∃b:Nat,d[j]? =some (b:Int)∧b<256:=by
    rw[ar3 hlt];have :=hby _ (as3 hlt);exact⟨(d[j]).toNat,by congr 1;omega,E⟩
   obtain⟨bd,off,rfl,hbd,hcells⟩:=HRD.o.some E;have hcell:=hch.cell (hcells j hlt) (fun e=>hda E _ rfl ⟨e.1,fun hx=>e.2 (by rw[hX1];exact Ei hx)⟩);rw[hb]at hcell;have HD:=θ (StE.set (hE.below (w':=wr.drew) ⟨rfl,rfl,rfl,aA5 _,fun _ _=>rfl⟩) (by exact hCB) htl (k:=k+j) (by rw[hls];omega) hb9);rw[Jb E hb]at HD;have HCL:=θ (And.intro hE.cells.1 (aG7 wr b0 1 _ _ _ (hch.heap HBX.o (fun e=>e.2 (by rw[hX1];exact Ej rfl)))));have hk0:wr.cell? ⟨b0,0,none⟩=some (.int .i64 3):=aG7 wr b0 0 _ _ _ (hch.heap HBX.o (fun e=>e.2 (by rw[hX1];exact Ej rfl)));have HC:=θ hch;have i1:(j:Int)<(d.length:Int):=E;have i2:IntKind.i64.wrap ((j:Int)+1)=((j+1:Nat):Int):=by rw[ao4 _ E];omega
   have i3:IntKind.i64.wrap ((k:Int)+(j:Int))=((k+j:Nat):Int):=by rw[ao4 _ E];omega
   have i4:(0:Int)≤(j:Int):=E;have hx0:X1 b0:=by rw[hX1];exact Ej rfl
   clear hE hch H1 HBX hX1 hcells HRD;go_wp2_with fail;refine aE (fun w'=>w'.cell? ⟨q,0,none⟩=some (.pointer (some ⟨p,0,none⟩))∧w'.cell? ⟨b0,1,none⟩=some (.int .i64 k)) Ek (HCL.o) (fun hh=>?_);refine rt 0 hh ?_;refine rt 1 hh ?_;refine rt 2 hh ?_;refine rt 3 hh ?_;refine rt 4 hh ?_;refine rt 5 hh ?_;refine rt 6 hh ?_;refine rt 7 hh ?_;refine rt 8 hh ?_;refine rg 9 fun κ hK=>?_;go_simp;refine HD.o.mono ?_;rintro e w2 ⟨rfl,⟨mv2,R2,c2,M2,hc2,h2⟩,hch2⟩;have hcl2:=And.intro h2.cells.1 (hch2.cell HCL.o.2 (fun e=>e.2 hx0));have H2:=θ h2;have HC2:=θ (HC.o.drew.trans hch2 (fun b e=>Ei e));clear h2 hch2 HD;refine hK.out _ _ (hcl2) ?_;intro hh;try simp only[pt]
   refine rz ?_;go_wp2_with fail;go_roundw;case rel=>exact⟨j+1,E,rfl,⟨c2,by rw[hls]at hc2;rw[aC1];omega,⟨p,B',pk,pp,mv2,R2,M2,H2.o⟩⟩,HC2.o⟩
   case measure=>simp[intOf];omega
  ·obtain rfl:j=d.length:=E;rw[az2]at hS;have i1:¬((d.length:Int)<(d.length:Int)):=E;have HS:=θ hS;have HC:=θ hch;clear hS hch;go_wp2_with fail;go_ret;refine⟨rfl,⟨c1,hc1,HS.o.mono (fun j e=>by rw[hX1];exact Ei e)⟩,(Chg.of_below (by rw[hb0];exact hb1)).trans (HC.o.mono (S':=exT B X) (fun j e=>⟨e.1,fun hx=>e.2 (by rw[hX1];exact Ei hx)⟩)) (fun b e=>Ei e)⟩
end
end
end Go.Proofs.YtchinbgemenenaaGreatDoor
