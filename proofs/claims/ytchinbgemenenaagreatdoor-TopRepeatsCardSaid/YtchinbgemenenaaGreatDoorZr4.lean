/- Lemmas and contracts under the claims of this seat. No condition. -/
import Derived.Deep.DeepCutAuto
import Derived.Deep.CutBlock
import Derived.Deep.CutRange
import Derived.Test.YtchinbgemenenaaGreatDoorZr1
import Derived.Test.YtchinbgemenenaaGreatDoorZr3
namespace Go.Proofs.YtchinbgemenenaaGreatDoor
set_option linter.unusedVariables false
set_option linter.unusedSimpArgs false
set_option maxRecDepth 100000
set_option maxHeartbeats 12800000
section
open Go.RowKit
theorem aS{α:Type}{xs:List α}{k:Nat}{x y:α}(h:xs[k]? =some x):(xs.set k y)[k]? =some y:=by
 rw[ar8,aH9 rfl,aH9 (ar5.1 h).1]
theorem aG{α:Type}{xs:List α}{k j:Nat}{y:α}(h:j≠k):(xs.set k y)[j]? =xs[j]? :=by
 rw[ar8,aH8 (fun e=>h e.symm)]
theorem bC{xs:List Nd}{k:Nat}{y:Nd}{T:TT}(hk:k∉T.nums):∀j∈T.nums,(xs.set k y)[j]? =xs[j]? :=fun j hj=>aG (by rintro rfl;exact hk hj)
def Small(t:ST):Prop:=t.bits.length≤8589934592∧t.high≤1000000000
theorem Small.l {a b:ST}(h:Small (.pair a b)):Small a:=by
 obtain⟨h1,h2⟩:=h;simp only[ST.bits,ST.high,as6]at h1 h2;exact⟨E,E⟩
theorem Small.r {a b:ST}(h:Small (.pair a b)):Small b:=by
 obtain⟨h1,h2⟩:=h;simp only[ST.bits,ST.high,as6]at h1 h2;exact⟨E,E⟩
theorem jJ{w:World}{p:Nat}{C:Nat→Prop}{A:Ar}{xs:List Nd}{root vis:Int}(h:Head w p C A xs root vis){k:Nat}{x:Nd}{a b:TT}(hx:xs[k]? =some x)(hb:x.b=none)(hl:x.left=a.num)(hr:x.right=b.num)
  (ha:Sub w xs a) (hbn:Sub w xs b) (s1:Small a.st) (s2:Small b.st):
  Calls Tryz.prog 245 #[.pointer (some ⟨p,0,none⟩), .int .i64 k] w fun e w'=>e= .returned (.tuple #[])∧Head w' p C A (xs.set k (TT.pair k a b).nd) root vis∧Chg (RowB w p) w w':=by
 have c1:=count_le a.st.bits true;have c2:=count_le b.st.bits true;obtain⟨l1,g1⟩:=s1;obtain⟨l2,g2⟩:=s2;refine(Up h hx hb hl hr ha.root hbn.root ?_ ?_ ?_ ?_ ?_ ?_).mono ?_
 ·rw[a.nd_high];omega
 ·rw[b.nd_high];omega
 ·rw[a.nd_n];omega
 ·rw[b.nd_n];omega
 ·rw[a.nd_ones];omega
 ·rw[b.nd_ones];omega
 ·rintro e w' ⟨rfl,h1,h2⟩;refine⟨rfl,?_,h2⟩;rw[a.nd_high,b.nd_high,a.nd_n,b.nd_n,a.nd_ones,b.nd_ones]at h1;have e:(TT.pair k a b).nd=⟨a.num,b.num,max (a.st.high:Int) b.st.high+1,a.st.bits.length+b.st.bits.length,a.st.bits.count true+b.st.bits.count true,a.st.bits.length,a.st.bits.count true,none⟩:=by
   simp only[TT.nd,ST.high];congr 1;omega
  rw[e];exact h1
theorem eG{w:World}{p:Nat}{C:Nat→Prop}{A:Ar}{xs:List Nd}{root v:Int}(h:Head w p C A xs root v)(hv0:0≤v)(hv:v≤1000000000000){k:Nat}{x:Nd}(hx:xs[k]? =some x):
  Calls Tryz.prog 259 #[.pointer (some ⟨p,0,none⟩), .int .i64 k] w fun e w'=>e= .returned (.int .i64 x.height)∧w.setCell ⟨p,3,none⟩ (.int .i64 (v+1))=w':=by
 obtain⟨g,rc,cur,c1,hgp,_⟩:=h.row (by have :=(ar5.1 hx).1;omega);obtain⟨_,_,hkx,_⟩:=h.node c1 hx;obtain⟨_,_,a2,_⟩:=h.eight c1 hx;obtain⟨_,_,cv,fz⟩:=h.cells;have f3:=fz 3;clear h fz hx;go_enter Tryz.func259,Tryz.ntmps259;go_wp2_with fail;go_ret;exact⟨rfl,rfl⟩
theorem rJ{w:World}{p:Nat}{C:Nat→Prop}{A:Ar}{xs:List Nd}{root vis:Int}(h:Head w p C A xs root vis){k l:Nat}{x y:Nd}{a b c:TT}(hx:xs[k]? =some x)(hxb:x.b=none)(hxl:x.left=l)(hxr:x.right=c.num)
  (hy:xs[l]? =some y) (hyb:y.b=none) (hyl:y.left=a.num) (hyr:y.right=b.num) (ha:Sub w xs a) (hb:Sub w xs b) (hc:Sub w xs c) (hkl:k≠l)
  (ka:k∉a.nums) (kb:k∉b.nums) (kc:k∉c.nums) (la:l∉a.nums) (lb:l∉b.nums) (lc:l∉c.nums) (s1:Small a.st) (s2:Small (.pair b.st c.st)):
  Calls Tryz.prog 261 #[.pointer (some ⟨p,0,none⟩), .int .i64 k] w fun e w'=>e= .returned (.int .i64 l)∧∃xs',Head w' p C A xs' root vis∧Chg (RowB w p) w w'∧Sub w' xs' (.pair l a (.pair k b c))∧
   (∀j,j≠k→j≠l→xs'[j]? =xs[j]?)∧xs'.length=xs.length:=by
 obtain⟨m,hm⟩:∃m,b.num=m:=⟨_,rfl⟩;rw[hm]at hyr;obtain⟨g,rc,cur,c1,hgp,_⟩:=h.row (by have :=(ar5.1 hx).1;omega);obtain⟨_,fz,hkx,_⟩:=h.node c1 hx;obtain⟨_,_,hlx,_⟩:=h.node c1 hy;obtain⟨a0,_⟩:=h.eight c1 hx;obtain⟨_,b1,_⟩:=h.eight c1 hy;have f0:=fz (k*8);have f1:=fz (l*8+1);rw[hxl]at a0;rw[hyr]at b1;obtain⟨h1,g1,r1⟩:=h.put c1 hx (i:=0) (v:= .int .i64 m) (x':=⟨m,x.right,x.height,x.n,x.ones,x.ln,x.lones,x.b⟩) E rfl;have hy1:(xs.set k ⟨m,x.right,x.height,x.n,x.ones,x.ln,x.lones,x.b⟩)[l]? =some y:=by rw[aG hkl.symm];exact hy
 obtain⟨h2,g2,r2⟩:=h1.put r1 hy1 (i:=1) (v:= .int .i64 k) (x':=⟨y.left,k,y.height,y.n,y.ones,y.ln,y.lones,y.b⟩) E rfl;generalize hX1:(xs.set k ⟨m,x.right,x.height,x.n,x.ones,x.ln,x.lones,x.b⟩).set l ⟨y.left,k,y.height,y.n,y.ones,y.ln,y.lones,y.b⟩=xs1 at h2;have hx2:xs1[k]? =some ⟨m,x.right,x.height,x.n,x.ones,x.ln,x.lones,x.b⟩:=by rw[←hX1,aG hkl];exact aS hx
 have hy2:xs1[l]? =some ⟨y.left,k,y.height,y.n,y.ones,y.ln,y.lones,y.b⟩:=by rw[←hX1];exact aS hy1
 have keep1:∀j,j≠k→j≠l→xs1[j]? =xs[j]? :=fun j h1 h2=>by rw[←hX1,aG h2,aG h1]
 have len1:xs1.length=xs.length:=by rw[←hX1];simp
 obtain⟨W1,hW1⟩:∃W1,W1=((w.setCell ⟨g,k*8,none⟩ (.int .i64 m)).setCell ⟨g,l*8+1,none⟩ (.int .i64 k)).drew:=⟨_,rfl⟩;have h2':Head W1 p C A xs1 root vis:=by rw[hW1];exact h2.drew
 have hcg:Chg (fun b=>b=g) w W1:=by rw[hW1];exact(g1.trans g2 (fun _ h=>Ei h)).drew
 have hcr:Chg (RowB w p) w W1:=hcg.mono (fun b e=>by subst e;exact⟨_,_,c1⟩);have hcc:=h.chgRow hcr;have hback:∀w2,Chg (RowB W1 p) W1 w2→Chg (RowB w p) w w2:=fun w2 hc=>hcr.trans hc (fun b hb=>Ei (by obtain⟨n,c,hb⟩:=hb;exact⟨n,c,(h.rowKeep hcr 1).symm.trans hb⟩));have HBK:=θ hback;have HKW:Hid (∀b,RowB W1 p b→RowB w p b):=fun b hb=>by obtain⟨n,c,hb⟩:=hb;exact⟨n,c,(h.rowKeep hcr 1).symm.trans hb⟩
 have mk:∀(T:TT),Sub w xs T→k∉T.nums→l∉T.nums→Sub W1 xs1 T:=
  fun T hT e1 e2=>hT.chgC h hcc (fun j hj=>keep1 j (by rintro rfl;exact e1 hj) (by rintro rfl;exact e2 hj))
 have ha2:=mk a ha ka la;have hb2:=mk b hb kb lb;have hc2:=mk c hc kc lc;have HF1:=θ (jJ h2' hx2 hxb (by rw[hm]) hxr hb2 hc2 s2.l s2.r);have HH2:=θ h2';have HCC:=θ hcc;have HA:=θ ha2;have HB:=θ hb2;have HC:=θ hc2;have HX2:=θ hx2;have HY2:=θ hy2;have HK1:=θ keep1;have HL1:=θ len1;have HW1:=θ hW1;have HYY:Hid (y.b=none∧y.left=a.num):=⟨hyb,hyl⟩;have HN:Hid (k≠l∧k∉a.nums∧k∉b.nums∧k∉c.nums∧l∉a.nums∧l∉b.nums∧l∉c.nums):=⟨hkl,ka,kb,kc,la,lb,lc⟩;clear h fz hx hy hxb hxl hxr hyb hyl hyr ha hb hc hkl ka kb kc la lb lc h1 g1 r1 hy1 h2 h2' g2 r2 hX1 hx2 hy2 hcc hcg hcr hback keep1 len1 mk ha2 hb2 hc2 hm hW1;go_enter Tryz.func261,Tryz.ntmps261;go_wp2_with fail;refine aE (fun w'=>w'.cell? ⟨p,1,none⟩=some (.slice (some ⟨g,0,none⟩) xs.length rc)) Ek (c1) (fun hh=>?_);refine rt 0 hh ?_;refine rt 1 hh ?_;refine rt 2 hh ?_;refine rt 3 hh ?_;refine rt 4 hh ?_;refine rt 5 hh ?_;refine rt 6 hh ?_;refine rt 7 hh ?_;refine rt 8 hh ?_;refine rt 9 hh ?_;refine rt 10 hh ?_;refine rt 11 hh ?_;refine rt 12 hh ?_;refine rt 13 hh ?_;refine rt 14 hh ?_;refine rt 15 hh ?_;refine rt 16 hh ?_;refine rt 18 hh ?_;refine rg 17 fun κ hK=>?_;go_simp;refine hK.out _ _ (c1) ?_;intro hh;try simp only[pt]
 refine rt 19 hh ?_;refine rt 20 hh ?_;refine rg 21 fun κ hK=>?_;go_simp;refine hK.out _ _ (by go_simp) ?_;intro hh;try simp only[pt]
 refine rt 22 hh ?_;refine rt 23 hh ?_;refine rg 24 fun κ hK=>?_;go_simp;refine hK.out _ _ (by go_simp) ?_;intro hh;try simp only[pt]
 refine rz ?_;go_wp2_with fail;rw[←HW1.o];refine HF1.o.mono ?_;rintro e w2 ⟨rfl,h3,g3'⟩;have g3:=HH2.o.chgRow g3';obtain⟨n1,n2,n3,n4,n5,n6,n7⟩:=HN.o;have hy3:(xs1.set k (TT.pair k b c).nd)[l]? =some ⟨y.left,k,y.height,y.n,y.ones,y.ln,y.lones,y.b⟩:=by rw[aG n1.symm];exact HY2.o
 have a3:Sub w2 (xs1.set k (TT.pair k b c).nd) a:=HA.o.chgC HH2.o g3 (bC n2);have b3:Sub w2 (xs1.set k (TT.pair k b c).nd) b:=HB.o.chgC HH2.o g3 (bC n3);have c3:Sub w2 (xs1.set k (TT.pair k b c).nd) c:=HC.o.chgC HH2.o g3 (bC n4);have d3:Sub w2 (xs1.set k (TT.pair k b c).nd) (.pair k b c):=⟨aS HX2.o,b3,c3⟩;have HF2:=θ (jJ (b:= .pair k b c) h3 hy3 HYY.o.1 HYY.o.2 rfl a3 d3 s1 s2);have HA3:=θ a3;have HD3:=θ d3;have HH3:=θ h3;have HG3:=θ (HBK.o _ g3');have HK3:Hid (∀b,RowB w2 p b→RowB w p b):=fun b hb=>by obtain⟨n,c,hb⟩:=hb;exact(HKW.o b ⟨n,c,(HH2.o.rowKeep g3' 1).symm.trans hb⟩)
 have HY3:=θ hy3;clear hy3 a3 b3 c3 d3 h3 g3 g3' n1 n2 n3 n4 n5 n6 n7 hh;go_wp2_with fail;refine HF2.o.mono ?_;rintro e w3 ⟨rfl,h4,g4'⟩;have g4:=HH3.o.chgRow g4';have HH4:=θ h4;have HG4:=θ g4;have HG5:=θ (HG3.o.trans g4' (fun b hb=>Ei (HK3.o b hb)));clear h4 g4 g4';go_wp2_with fail;go_ret;obtain⟨n1,n2,n3,n4,n5,n6,n7⟩:=HN.o;refine⟨rfl,_,HH4.o,HG5.o,⟨aS HY3.o,?_,?_⟩,fun j h1 h2=>?_,?_⟩
 ·exact HA3.o.chgC HH3.o HG4.o (bC n5)
 ·refine HD3.o.chgC HH3.o HG4.o (bC ?_);simp only[TT.nums,av9,av8];rintro(hj | hj | hj)
  ·exact n1 hj.symm
  ·exact n6 hj
  ·exact n7 hj
 ·rw[aG h2,aG h1];exact HK1.o j h1 h2
 ·simpa using HL1.o
theorem sU{w:World}{p:Nat}{C:Nat→Prop}{A:Ar}{xs:List Nd}{root vis:Int}(h:Head w p C A xs root vis){k l:Nat}{x y:Nd}{a b c:TT}(hx:xs[k]? =some x)(hxb:x.b=none)(hxl:x.left=a.num)(hxr:x.right=l)
  (hy:xs[l]? =some y) (hyb:y.b=none) (hyl:y.left=b.num) (hyr:y.right=c.num) (ha:Sub w xs a) (hb:Sub w xs b) (hc:Sub w xs c) (hkl:k≠l)
  (ka:k∉a.nums) (kb:k∉b.nums) (kc:k∉c.nums) (la:l∉a.nums) (lb:l∉b.nums) (lc:l∉c.nums) (s1:Small (.pair a.st b.st)) (s2:Small c.st):
  Calls Tryz.prog 260 #[.pointer (some ⟨p,0,none⟩), .int .i64 k] w fun e w'=>e= .returned (.int .i64 l)∧∃xs',Head w' p C A xs' root vis∧Chg (RowB w p) w w'∧Sub w' xs' (.pair l (.pair k a b) c)∧
   (∀j,j≠k→j≠l→xs'[j]? =xs[j]?)∧xs'.length=xs.length:=by
 obtain⟨m,hm⟩:∃m,b.num=m:=⟨_,rfl⟩;rw[hm]at hyl;obtain⟨g,rc,cur,c1,hgp,_⟩:=h.row (by have :=(ar5.1 hx).1;omega);obtain⟨_,fz,hkx,_⟩:=h.node c1 hx;obtain⟨_,_,hlx,_⟩:=h.node c1 hy;obtain⟨_,a0,_⟩:=h.eight c1 hx;obtain⟨b1,_⟩:=h.eight c1 hy;have f0:=fz (k*8+1);have f1:=fz (l*8);rw[hxr]at a0;rw[hyl]at b1;obtain⟨h1,g1,r1⟩:=h.put c1 hx (i:=1) (v:= .int .i64 m) (x':=⟨x.left,m,x.height,x.n,x.ones,x.ln,x.lones,x.b⟩) E rfl;have hy1:(xs.set k ⟨x.left,m,x.height,x.n,x.ones,x.ln,x.lones,x.b⟩)[l]? =some y:=by rw[aG hkl.symm];exact hy
 obtain⟨h2,g2,r2⟩:=h1.put r1 hy1 (i:=0) (v:= .int .i64 k) (x':=⟨k,y.right,y.height,y.n,y.ones,y.ln,y.lones,y.b⟩) E rfl;generalize hX1:(xs.set k ⟨x.left,m,x.height,x.n,x.ones,x.ln,x.lones,x.b⟩).set l ⟨k,y.right,y.height,y.n,y.ones,y.ln,y.lones,y.b⟩=xs1 at h2;have hx2:xs1[k]? =some ⟨x.left,m,x.height,x.n,x.ones,x.ln,x.lones,x.b⟩:=by rw[←hX1,aG hkl];exact aS hx
 have hy2:xs1[l]? =some ⟨k,y.right,y.height,y.n,y.ones,y.ln,y.lones,y.b⟩:=by rw[←hX1];exact aS hy1
 have keep1:∀j,j≠k→j≠l→xs1[j]? =xs[j]? :=fun j h1 h2=>by rw[←hX1,aG h2,aG h1]
 have len1:xs1.length=xs.length:=by rw[←hX1];simp
 obtain⟨W1,hW1⟩:∃W1,W1=((w.setCell ⟨g,k*8+1,none⟩ (.int .i64 m)).setCell ⟨g,l*8,none⟩ (.int .i64 k)).drew:=⟨_,rfl⟩;have h2':Head W1 p C A xs1 root vis:=by rw[hW1];exact h2.drew
 have hcg:Chg (fun b=>b=g) w W1:=by rw[hW1];exact(g1.trans g2 (fun _ h=>Ei h)).drew
 have hcr:Chg (RowB w p) w W1:=hcg.mono (fun b e=>by subst e;exact⟨_,_,c1⟩);have hcc:=h.chgRow hcr;have hback:∀w2,Chg (RowB W1 p) W1 w2→Chg (RowB w p) w w2:=fun w2 hc=>hcr.trans hc (fun b hb=>Ei (by obtain⟨n,c,hb⟩:=hb;exact⟨n,c,(h.rowKeep hcr 1).symm.trans hb⟩));have HBK:=θ hback;have HKW:Hid (∀b,RowB W1 p b→RowB w p b):=fun b hb=>by obtain⟨n,c,hb⟩:=hb;exact⟨n,c,(h.rowKeep hcr 1).symm.trans hb⟩
 have mk:∀(T:TT),Sub w xs T→k∉T.nums→l∉T.nums→Sub W1 xs1 T:=
  fun T hT e1 e2=>hT.chgC h hcc (fun j hj=>keep1 j (by rintro rfl;exact e1 hj) (by rintro rfl;exact e2 hj))
 have ha2:=mk a ha ka la;have hb2:=mk b hb kb lb;have hc2:=mk c hc kc lc;have HF1:=θ (jJ h2' hx2 hxb hxl (by rw[hm]) ha2 hb2 s1.l s1.r);have HH2:=θ h2';have HCC:=θ hcc;have HA:=θ ha2;have HB:=θ hb2;have HC:=θ hc2;have HX2:=θ hx2;have HY2:=θ hy2;have HK1:=θ keep1;have HL1:=θ len1;have HW1:=θ hW1;have HYY:Hid (y.b=none∧y.right=c.num):=⟨hyb,hyr⟩;have HN:Hid (k≠l∧k∉a.nums∧k∉b.nums∧k∉c.nums∧l∉a.nums∧l∉b.nums∧l∉c.nums):=⟨hkl,ka,kb,kc,la,lb,lc⟩;clear h fz hx hy hxb hxl hxr hyb hyl hyr ha hb hc hkl ka kb kc la lb lc h1 g1 r1 hy1 h2 h2' g2 r2 hX1 hx2 hy2 hcc hcg hcr hback keep1 len1 mk ha2 hb2 hc2 hm hW1;go_enter Tryz.func260,Tryz.ntmps260;go_wp2_with fail;refine aE (fun w'=>w'.cell? ⟨p,1,none⟩=some (.slice (some ⟨g,0,none⟩) xs.length rc)) Ek (c1) (fun hh=>?_);refine rt 0 hh ?_;refine rt 1 hh ?_;refine rt 2 hh ?_;refine rt 3 hh ?_;refine rt 4 hh ?_;refine rt 5 hh ?_;refine rt 6 hh ?_;refine rt 7 hh ?_;refine rt 8 hh ?_;refine rt 9 hh ?_;refine rt 10 hh ?_;refine rt 11 hh ?_;refine rt 12 hh ?_;refine rt 13 hh ?_;refine rt 14 hh ?_;refine rt 15 hh ?_;refine rt 16 hh ?_;refine rt 18 hh ?_;refine rg 17 fun κ hK=>?_;go_simp;refine hK.out _ _ (c1) ?_;intro hh;try simp only[pt]
 refine rt 19 hh ?_;refine rt 20 hh ?_;refine rg 21 fun κ hK=>?_;go_simp;refine hK.out _ _ (by go_simp) ?_;intro hh;try simp only[pt]
 refine rt 22 hh ?_;refine rt 23 hh ?_;refine rg 24 fun κ hK=>?_;go_simp;refine hK.out _ _ (by go_simp) ?_;intro hh;try simp only[pt]
 refine rz ?_;go_wp2_with fail;rw[←HW1.o];refine HF1.o.mono ?_;rintro e w2 ⟨rfl,h3,g3'⟩;have g3:=HH2.o.chgRow g3';obtain⟨n1,n2,n3,n4,n5,n6,n7⟩:=HN.o;have hy3:(xs1.set k (TT.pair k a b).nd)[l]? =some ⟨k,y.right,y.height,y.n,y.ones,y.ln,y.lones,y.b⟩:=by rw[aG n1.symm];exact HY2.o
 have a3:Sub w2 (xs1.set k (TT.pair k a b).nd) a:=HA.o.chgC HH2.o g3 (bC n2);have b3:Sub w2 (xs1.set k (TT.pair k a b).nd) b:=HB.o.chgC HH2.o g3 (bC n3);have c3:Sub w2 (xs1.set k (TT.pair k a b).nd) c:=HC.o.chgC HH2.o g3 (bC n4);have d3:Sub w2 (xs1.set k (TT.pair k a b).nd) (.pair k a b):=⟨aS HX2.o,a3,b3⟩;have HF2:=θ (jJ (a:= .pair k a b) h3 hy3 HYY.o.1 rfl HYY.o.2 d3 c3 s1 s2);have HA3:=θ c3;have HD3:=θ d3;have HH3:=θ h3;have HG3:=θ (HBK.o _ g3');have HK3:Hid (∀b,RowB w2 p b→RowB w p b):=fun b hb=>by obtain⟨n,c,hb⟩:=hb;exact(HKW.o b ⟨n,c,(HH2.o.rowKeep g3' 1).symm.trans hb⟩)
 have HY3:=θ hy3;clear hy3 a3 b3 c3 d3 h3 g3 g3' n1 n2 n3 n4 n5 n6 n7 hh;go_wp2_with fail;refine HF2.o.mono ?_;rintro e w3 ⟨rfl,h4,g4'⟩;have g4:=HH3.o.chgRow g4';have HH4:=θ h4;have HG4:=θ g4;have HG5:=θ (HG3.o.trans g4' (fun b hb=>Ei (HK3.o b hb)));clear h4 g4 g4';go_wp2_with fail;go_ret;obtain⟨n1,n2,n3,n4,n5,n6,n7⟩:=HN.o;refine⟨rfl,_,HH4.o,HG5.o,⟨aS HY3.o,?_,?_⟩,fun j h1 h2=>?_,?_⟩
 ·refine HD3.o.chgC HH3.o HG4.o (bC ?_);simp only[TT.nums,av9,av8];rintro(hj | hj | hj)
  ·exact n1 hj.symm
  ·exact n5 hj
  ·exact n6 hj
 ·exact HA3.o.chgC HH3.o HG4.o (bC n7)
 ·rw[aG h2,aG h1];exact HK1.o j h1 h2
 ·simpa using HL1.o
theorem TT.dis {k:Nat}{a b:TT}(h:(TT.pair k a b).nums.Nodup):k∉a.nums∧k∉b.nums∧a.nums.Nodup∧b.nums.Nodup∧(∀j,j∈a.nums→j∉b.nums):=by
 simp only[TT.nums,ax7,av8,aI3,ax6]at h;obtain⟨⟨h1,h2⟩,h3,h4,h5⟩:=h;exact⟨h1,h2,h3,h4,fun j hj hk=>h5 j hj j hk rfl⟩
theorem TT.mem_l {k j:Nat}{a b:TT}(h:j∈a.nums):j∈(TT.pair k a b).nums:=by simp[TT.nums,h]
theorem TT.mem_r {k j:Nat}{a b:TT}(h:j∈b.nums):j∈(TT.pair k a b).nums:=by simp[TT.nums,h]
theorem TT.mem_k {k:Nat}{a b:TT}:k∈(TT.pair k a b).nums:=by simp[TT.nums]
structure BalPost (w w':World) (p:Nat) (C:Nat→Prop) (A:Ar) (xs:List Nd) (root vis:Int) (k:Nat) (a c:TT) (e:Ending):Prop where
 ex:∃(T':TT) (xs':List Nd) (v':Int),e= .returned (.int .i64 T'.num)∧Head w' p C A xs' root v'∧Sub w' xs' T'∧T'.st=bal (.pair a.st c.st)∧T'.nums.Perm (TT.pair k a c).nums∧T'.bl=a.bl++c.bl∧
  (∀j,j∉(TT.pair k a c).nums→xs'[j]? =xs[j]?)∧xs'.length=xs.length∧vis≤v'∧v'≤vis+4
 chg:Chg C w w'
theorem rG{w:World}{p:Nat}{C:Nat→Prop}{A:Ar}{xs:List Nd}{root vis:Int}(h:Head w p C A xs root vis)(hv0:0≤vis)(hv:vis≤100000000000){k:Nat}{x:Nd}{a c:TT}(hx:xs[k]? =some x)(hxb:x.b=none)(hxl:x.left=a.num)(hxr:x.right=c.num)
  (ha:Sub w xs a) (hc:Sub w xs c) (hn:(TT.pair k a c).nums.Nodup) (hs:Small (.pair a.st c.st)):
  Calls Tryz.prog 247 #[.pointer (some ⟨p,0,none⟩), .int .i64 k] w fun e w'=>BalPost w w' p C A xs root vis k a c e:=by
 have hF:=jJ h hx hxb hxl hxr ha hc hs.l hs.r;obtain⟨n1,n2,n3,n4,n5⟩:=TT.dis hn;have HF:=θ hF;have HH:=θ h;have HA:=θ ha;have HC:=θ hc;have HX:=θ hx;have HN:=θ hn;have HND:Hid (k∉a.nums∧k∉c.nums):=⟨n1,n2⟩;have hsm:=hs.2;clear h hx hxb hxl hxr ha hc hn hF n1 n2 n3 n4 n5;go_enter Tryz.func247,Tryz.ntmps247;go_wp2_with fail;refine HF.o.mono ?_;rintro e w1 ⟨rfl,h1,g1⟩;have g1C:=HH.o.chgRow g1;obtain⟨n1,n2⟩:=HND.o;have a1:Sub w1 (xs.set k (TT.pair k a c).nd) a:=HA.o.chgC HH.o g1C (bC n1);have c1:Sub w1 (xs.set k (TT.pair k a c).nd) c:=HC.o.chgC HH.o g1C (bC n2);have t1:Sub w1 (xs.set k (TT.pair k a c).nd) (.pair k a c):=⟨aS HX.o,a1,c1⟩;have kp1:∀j,j≠k→(xs.set k (TT.pair k a c).nd)[j]? =xs[j]? :=fun j hj=>aG hj;have ln1:(xs.set k (TT.pair k a c).nd).length=xs.length:=Es;generalize xs.set k (TT.pair k a c).nd=xs1 at *;have hr:=t1.root;have hra:=a1.root;have hrc:=c1.root;obtain⟨g,rc,cur,r1,hgp,_⟩:=h1.row (by have :=(ar5.1 hr).1;omega);have hkx:=(h1.node r1 hr).2.2.1;obtain⟨l0,l1,_⟩:=h1.eight r1 hr;change w1.cell? ⟨g,k*8,none⟩=some (.int .i64 (a.num:Int))at l0;change w1.cell? ⟨g,k*8+1,none⟩=some (.int .i64 (c.num:Int))at l1;change k<xs1.length at hkx;have HH1:=θ h1;have HG1:=θ g1C;have HT1:=θ t1;have HK1:=θ kp1;have HL1:=θ ln1;have HRA:=θ hra;have HRC:=θ hrc;clear h1 g1 g1C n1 n2 a1 c1 t1 kp1 ln1 hr hra hrc HF HA HC HX HND;obtain⟨na,hna⟩:∃na,a.num=na:=⟨_,rfl⟩;obtain⟨nc,hnc⟩:∃nc,c.num=nc:=⟨_,rfl⟩;rw[hna]at l0 HRA;rw[hnc]at l1 HRC;have HNA:=θ hna;have HNC:=θ hnc;clear hna hnc;go_wp2_with fail;go_quiet (fail);obtain⟨nq1,rfl⟩:∃n1,n1=nq:=⟨_,rfl⟩;go_wp2_with fail;refine(eG (HH1.o.drewN _) hv0 E HRA.o).mono ?_;rintro e w2 ⟨rfl,rfl⟩;have HH2:=θ ((HH1.o.drewN nq1).set3 (vis+1));go_wp2_with fail;refine(eG HH2.o E E HRC.o).mono ?_;rintro e w3 ⟨rfl,rfl⟩;rw[a.nd_high,c.nd_high];have hh3:=HH2.o.set3 (vis+1+1);have hg3:Chg C w (((w1.drewN nq1).setCell ⟨p,3,none⟩ (.int .i64 (vis+1))).setCell ⟨p,3,none⟩ (.int .i64 (vis+1+1))):=((HG1.o.drewN nq1).setCell _ (Ei HH1.o.self) _).setCell _ (Ei HH1.o.self) _;have ht3:Sub (((w1.drewN nq1).setCell ⟨p,3,none⟩ (.int .i64 (vis+1))).setCell ⟨p,3,none⟩ (.int .i64 (vis+1+1))) xs1 (.pair k a c):=
  HT1.o.chgC HH1.o (((Chg.refl.drewN nq1).setCell _ (Ei HH1.o.self) _).setCell _ (Ei HH1.o.self) _) (fun _ _=>rfl)
 have r3:(((w1.drewN nq1).setCell ⟨p,3,none⟩ (.int .i64 (vis+1))).setCell ⟨p,3,none⟩ (.int .i64 (vis+1+1))).cell? ⟨p,1,none⟩=some (.slice (some ⟨g,0,none⟩) xs1.length rc):=by go_simp
 generalize ((w1.drewN nq1).setCell ⟨p,3,none⟩ (.int .i64 (vis+1))).setCell ⟨p,3,none⟩ (.int .i64 (vis+1+1))=W3 at *;obtain⟨v3,hv3⟩:∃v3,v3=vis+1+1:=⟨_,rfl⟩;rw[←hv3]at hh3;have hv30:0≤v3∧v3≤200000000000:=E;obtain⟨hv30,hv31⟩:=hv30;have HV3:=θ hv3;clear hv3;have HH3:=θ hh3;have HG3:=θ hg3;have HT3:=θ ht3;have HN3:=θ (TT.dis HN.o);clear hh3 hg3 ht3 HH1 HG1 HT1 HH2 r1 l0 l1;obtain⟨hta,hhta⟩:∃h,a.st.high=h:=⟨_,rfl⟩;obtain⟨htc,hhtc⟩:∃h,c.st.high=h:=⟨_,rfl⟩;have hsm2:hta≤1000000000∧htc≤1000000000:=by simp only[ST.high]at hsm;omega
 obtain⟨hsma,hsmc⟩:=hsm2;rw[hhta,hhtc];have HTA:=θ hhta;have HTC:=θ hhtc;clear hhta hhtc hsm;by_cases hr:htc+1<hta
 ·have d1:decide ((1:Int)<(hta:Int)-(htc:Int))=true:=aH1 E;cases a with
  | leaf ka q l=>exfalso;have :=HTA.o;simp only[TT.st,ST.high]at this;omega
  | pair l b1 b2=>
   have HNL:Hid (l=na):=HNA.o;obtain rfl:=HNL.o;obtain⟨hk3,⟨hl3,sb1,sb2⟩,sc3⟩:=HT3.o;obtain⟨m0,m1,_⟩:=HH3.o.eight r3 hl3;have hlx:=(HH3.o.node r3 hl3).2.2.1;change W3.cell? ⟨g,l*8,none⟩=some (.int .i64 (b1.num:Int))at m0;change W3.cell? ⟨g,l*8+1,none⟩=some (.int .i64 (b2.num:Int))at m1;have HB1:=θ sb1;have HB2:=θ sb2;have HC3:=θ sc3;have HK3:=θ hk3;have HL3:=θ hl3;clear hk3 hl3 sb1 sb2 sc3;obtain⟨n1,hn1⟩:∃n,b1.num=n:=⟨_,rfl⟩;obtain⟨n2,hn2⟩:∃n,b2.num=n:=⟨_,rfl⟩;rw[hn1]at m0;rw[hn2]at m1;have HR1:Hid (xs1[n1]? =some b1.nd):=by rw[←hn1];exact HB1.o.root
   have HR2:Hid (xs1[n2]? =some b2.nd):=by rw[←hn2];exact HB2.o.root
   have HN1:=θ hn1;have HN2:=θ hn2;obtain⟨t1,ht1⟩:∃h,b1.st.high=h:=⟨_,rfl⟩;obtain⟨t2,ht2⟩:∃h,b2.st.high=h:=⟨_,rfl⟩;have hts:t1≤1000000000∧t2≤1000000000:=by have :=HTA.o;simp only[TT.st,ST.high,ht1,ht2]at this;omega
   obtain⟨hts1,hts2⟩:=hts;have HT1:=θ ht1;have HT2:=θ ht2;clear hn1 hn2 ht1 ht2;by_cases hd:t1<t2
   ·have d3:decide (t1<t2)=true:=aH1 hd;go_wp2_with fail;refine aE (fun w'=>w'.cell? ⟨p,1,none⟩=some (.slice (some ⟨g,0,none⟩) xs1.length rc)∧w'.cell? ⟨g,l*8,none⟩=some (.int .i64 n1)∧w'.cell? ⟨g,l*8+1,none⟩=some (.int .i64 n2)) Ek ?hira (fun hh=>?_);case hira=>(refine⟨?_,?_,?_⟩<;>go_simp)
    refine rt 0 hh ?_;refine rt 1 hh ?_;refine rt 2 hh ?_;refine rt 3 hh ?_;refine rt 4 hh ?_;refine rt 5 hh ?_;refine rt 6 hh ?_;refine rt 7 hh ?_;refine rt 8 hh ?_;refine rt 10 hh ?_;refine rt 11 hh ?_;refine rt 12 hh ?_;refine rt 13 hh ?_;refine rt 14 hh ?_;refine rt 15 hh ?_;refine rt 16 hh ?_;refine rt 17 hh ?_;refine rt 18 hh ?_;refine rg 9 fun κ hK=>?_;go_simp
    ((with_reducible refine(eG HH3.o.drew E E HR1.o).mono ?_))
    rintro e w2 ⟨rfl,rfl⟩;rw[b1.nd_high,HT1.o];refine hK.out _ _ ?kpra9 (fun hNew=>?_);case kpra9=>(refine⟨?_,?_,?_⟩<;>go_simp)
    clear hK κ hh;have hh:=hNew;clear hNew;try simp only[pt]
    refine rg 19 fun κ hK=>?_;go_simp
    ((with_reducible refine(eG (HH3.o.set3 (v3+1)).drew E E HR2.o).mono ?_))
    rintro e w2 ⟨rfl,rfl⟩;rw[b2.nd_high,HT2.o];refine hK.out _ _ ?kpra19 (fun hNew=>?_);case kpra19=>(refine⟨?_,?_,?_⟩<;>go_simp)
    clear hK κ hh;have hh:=hNew;clear hNew;try simp only[pt]
    refine rt 20 hh ?_;refine rz ?_;have hh4:=(HH3.o.set3 (v3+1)).drew.set3 (v3+1+1);have hg4:Chg C w (((W3.setCell ⟨p,3,none⟩ (.int .i64 (v3+1))).drew.setCell ⟨p,3,none⟩ (.int .i64 (v3+1+1)))):=((HG3.o.setCell _ (Ei HH3.o.self) _).drew).setCell _ (Ei HH3.o.self) _;have ht4:Sub (((W3.setCell ⟨p,3,none⟩ (.int .i64 (v3+1))).drew.setCell ⟨p,3,none⟩ (.int .i64 (v3+1+1)))) xs1 (.pair k (.pair l b1 b2) c):=HT3.o.chgC HH3.o (((Chg.refl.setCell _ (Ei HH3.o.self) _).drew).setCell _ (Ei HH3.o.self) _) (fun _ _=>rfl);have r4:=hh.1;clear hh;generalize (((W3.setCell ⟨p,3,none⟩ (.int .i64 (v3+1))).drew.setCell ⟨p,3,none⟩ (.int .i64 (v3+1+1))))=W4 at *;go_wp2_with fail;have HD:=θ hd;cases b2 with
    | leaf kb qb lb=>exfalso;have :=HT2.o;simp only[TT.st,ST.high]at this;omega
    | pair m d1 d2=>
    obtain rfl:m=n2:=HN2.o;have hh4d:=hh4.drew;have ht4d:Sub W4.drew xs1 (.pair k (.pair l b1 (.pair m d1 d2)) c):=ht4.keep (fun _ _=>rfl) (fun _ _=>rfl);obtain⟨q1,q2,q3,q4,q5⟩:=HN3.o;obtain⟨q6,q7,q8,q9,q10⟩:=TT.dis q3;obtain⟨q11,q12,q13,q14,q15⟩:=TT.dis q9;have hkm:k≠m:=by rintro rfl;exact q1 (TT.mem_r TT.mem_k)
    have hkl:k≠l:=by rintro rfl;exact q1 TT.mem_k
    have hlm:l≠m:=by rintro rfl;exact q7 TT.mem_k
    have HTL:=θ (sU hh4d (k:=l) (l:=m) (x:=(TT.pair l b1 (.pair m d1 d2)).nd) (y:=(TT.pair m d1 d2).nd) (a:=b1) (b:=d1) (c:=d2) ht4d.2.1.1 rfl rfl rfl ht4d.2.1.2.2.1 rfl rfl rfl ht4d.2.1.2.1 ht4d.2.1.2.2.2.1 ht4d.2.1.2.2.2.2 hlm
     q6 (fun hj=>q7 (TT.mem_l hj)) (fun hj=>q7 (TT.mem_r hj)) (fun hj=>q10 _ hj TT.mem_k) q11 q12 (by
      obtain⟨g1,g2⟩:=hs;simp only[TT.st,ST.bits,ST.high,as6]at g1 g2;refine⟨?_,?_⟩<;>simp only[ST.bits,ST.high,as6]<;>omega) (by
      obtain⟨g1,g2⟩:=hs;simp only[TT.st,ST.bits,ST.high,as6]at g1 g2;exact⟨E,E⟩))
    have H4D:=θ hh4d;have R4D:Hid (W4.drew.cell? ⟨p,1,none⟩=some (.slice (some ⟨g,0,none⟩) xs1.length rc)):=r4;have HT4:=θ ht4;have HT4D:=θ ht4d;have H4:=θ hh4;have HG4:=θ hg4;have HDD:Hid (k≠m∧k≠l∧l≠m):=⟨hkm,hkl,hlm⟩;have HQ:Hid (k∉(TT.pair l b1 d1).nums∧k∉d2.nums∧k∉c.nums∧m∉(TT.pair l b1 d1).nums∧m∉d2.nums∧m∉c.nums):=by
     refine⟨fun hj=>?_,fun hj=>q1 (TT.mem_r (TT.mem_r hj)),q2,fun hj=>?_,q12,q5 _ (TT.mem_r TT.mem_k)⟩
     ·simp only[TT.nums,av9,av8]at hj;rcases hj with rfl | hj | hj
      ·exact hkl rfl
      ·exact q1 (TT.mem_l hj)
      ·exact q1 (TT.mem_r (TT.mem_l hj))
     ·simp only[TT.nums,av9,av8]at hj;rcases hj with rfl | hj | hj
      ·exact hlm rfl
      ·exact q10 _ hj TT.mem_k
      ·exact q11 hj
    clear hh4 hg4 ht4 hh4d ht4d q1 q2 q3 q4 q5 q6 q7 q8 q9 q10 q11 q12 q13 q14 q15 hkm hkl hlm m0 m1 r3 hd;refine aE (fun w'=>w'.cell? ⟨p,1,none⟩=some (.slice (some ⟨g,0,none⟩) xs1.length rc)) Ek ?hirc (fun hh=>?_);case hirc=>(exact R4D.out)
    refine rt 0 hh ?_;refine rt 1 hh ?_;refine rt 2 hh ?_;refine rt 3 hh ?_;refine rt 4 hh ?_;refine rt 5 hh ?_;refine rt 6 hh ?_;refine rg 7 fun κ hK=>?_;go_simp
    ((with_reducible refine HTL.o.mono ?_))
    rintro e w5 ⟨rfl,xs5,h5,g5,t5,kp5,ln5⟩;have r5:=(H4D.o.rowKeep g5 1).trans R4D.out;have hx5:xs5[k]? =some (TT.pair k (.pair l b1 (.pair m d1 d2)) c).nd:=by rw[kp5 k HDD.o.2.1 HDD.o.1];exact HT4.o.1
    have l5:=(h5.eight r5 hx5).1;have z5:=(h5.node r5 hx5).2.1 (k*8);have HH5:=θ h5;have HG5C:=θ (H4D.o.chgRow g5);have HT5:=θ t5;have HK5:=θ kp5;have HL5:=θ ln5;clear h5 g5 t5 kp5 ln5 hx5;refine hK.out _ _ (r5) ?_;intro hh;try simp only[pt]
    refine rt 8 hh ?_;refine rt 9 hh ?_;refine rg 10 fun κ hK=>?_;go_simp;refine hK.out _ _ ?kprc10 (fun hNew=>?_);case kprc10=>(go_simp)
    clear hK κ hh;have hh:=hNew;clear hNew;try simp only[pt]
    refine rz ?_;go_wp2_with fail;obtain⟨e1,e2,e3⟩:=HDD.o;have hx5:xs5[k]? =some (TT.pair k (.pair l b1 (.pair m d1 d2)) c).nd:=by rw[HK5.o k e2 e1];exact HT4.o.1
    obtain⟨h6,g6,r6⟩:=HH5.o.put r5 hx5 (i:=0) (v:= .int .i64 m) (x':=⟨m,c.num,(TT.pair k (.pair l b1 (.pair m d1 d2)) c).nd.height,(TT.pair k (.pair l b1 (.pair m d1 d2)) c).nd.n,(TT.pair k (.pair l b1 (.pair m d1 d2)) c).nd.ones,(TT.pair k (.pair l b1 (.pair m d1 d2)) c).nd.ln,(TT.pair k (.pair l b1 (.pair m d1 d2)) c).nd.lones,none⟩) E rfl;have g6C:Chg C w5 _:=g6.mono (fun b hb=>by subst hb;exact HH5.o.rowC ⟨_,_,r5⟩);obtain⟨f1,f2,f3,f4,f5,f6⟩:=HQ.o;have t6:=HT5.o.chgC HH5.o g6C (bC (y:=⟨m,c.num,(TT.pair k (.pair l b1 (.pair m d1 d2)) c).nd.height,(TT.pair k (.pair l b1 (.pair m d1 d2)) c).nd.n,(TT.pair k (.pair l b1 (.pair m d1 d2)) c).nd.ones,(TT.pair k (.pair l b1 (.pair m d1 d2)) c).nd.ln,(TT.pair k (.pair l b1 (.pair m d1 d2)) c).nd.lones,none⟩) (k:=k) (fun hj=>by
     simp only[TT.nums,av9,av8]at hj f1
     rcases hj with rfl | (rfl | hj | hj) | hj
     ·exact e1 rfl
     ·exact e2 rfl
     ·exact f1 (Ej (Ei hj))
     ·exact f1 (Ej (Ej hj))
     ·exact f2 hj))
    have c5:Sub w5 xs5 c:=HT4D.o.2.2.chgC H4D.o HG5C.o (fun j hj=>HK5.o j (by rintro rfl;exact HN3.o.2.2.2.2 _ TT.mem_k hj) (by rintro rfl;exact f6 hj));have c6:=c5.chgC HH5.o g6C (bC (y:=⟨m,c.num,(TT.pair k (.pair l b1 (.pair m d1 d2)) c).nd.height,(TT.pair k (.pair l b1 (.pair m d1 d2)) c).nd.n,(TT.pair k (.pair l b1 (.pair m d1 d2)) c).nd.ones,(TT.pair k (.pair l b1 (.pair m d1 d2)) c).nd.ln,(TT.pair k (.pair l b1 (.pair m d1 d2)) c).nd.lones,none⟩) f3);have HTR:=θ (rJ h6 (k:=k) (l:=m) (y:=(TT.pair m (.pair l b1 d1) d2).nd) (a:= .pair l b1 d1) (b:=d2) (c:=c) (aS hx5) rfl rfl rfl t6.1 rfl rfl rfl t6.2.1 t6.2.2 c6 e1 f1 f2 f3 f4 f5 f6 (by
      obtain⟨g1,g2⟩:=hs;simp only[TT.st,ST.bits,ST.high,as6]at g1 g2;refine⟨?_,?_⟩<;>simp only[TT.st,ST.bits,ST.high,as6]<;>omega) (by
      obtain⟨g1,g2⟩:=hs;simp only[TT.st,ST.bits,ST.high,as6]at g1 g2;refine⟨?_,?_⟩<;>simp only[ST.bits,ST.high,as6]<;>omega))
    have H6:=θ h6;have G6:=θ g6C;clear h6 g6 r6 g6C f1 f2 f3 f4 f5 f6 t6 c5 c6 hx5 e1 e2 e3;refine HTR.o.mono ?_;rintro e w7 ⟨rfl,xs7,h7,g7,t7,kp7,ln7⟩;have hb:bal (.pair (TT.pair l b1 (.pair m d1 d2)).st c.st)= .pair (.pair b1.st d1.st) (.pair d2.st c.st):=by
     have e1:(TT.pair l b1 (.pair m d1 d2)).st.high=hta:=HTA.o;have e2:(TT.pair m d1 d2).st.high=t2:=HT2.o;simp only[bal];rw[aH9 (by rw[e1,HTC.o];exact hr),aH9 (by show b1.st.high<(TT.pair m d1 d2).st.high;rw[HT1.o,e2];exact HD.o)];rfl
    have H7:=θ h7;have G7:=θ g7;have T7:=θ t7;have K7:=θ kp7;have L7:=θ ln7;have HB:=θ hb;clear h7 g7 t7 kp7 ln7 hb;go_wp2_with fail;go_ret;refine⟨⟨.pair m (.pair l b1 d1) (.pair k d2 c),xs7,_,rfl,H7.o,T7.out,HB.o.symm,?_,?_,fun j hj=>?_,?_,by have :=HV3.o;omega,by have :=HV3.o;omega⟩,?_⟩
    ·rw[List.perm_iff_count];intro j;simp only[TT.nums,ap8,ap9];omega
    ·simp[TT.bl]
    ·have j1:j≠k:=fun e=>hj (e▸TT.mem_k);have j2:j≠l:=fun e=>hj (e▸TT.mem_l TT.mem_k);have j3:j≠m:=fun e=>hj (e▸TT.mem_l (TT.mem_r TT.mem_k));rw[K7.out j j1 j3,aG j1,HK5.o j j2 j3,HK1.o j j1]
    ·rw[L7.out,at4,HL5.o,HL1.o]
    ·exact(((HG4.o.drew).trans HG5C.o (fun _ h=>Ei h)).trans G6.out (fun _ h=>Ei h)).trans (H6.o.chgRow G7.out) (fun _ h=>Ei h)
   ·have d3:decide (t1<t2)=false:=aG9 hd;go_wp2_with fail;refine aE (fun w'=>w'.cell? ⟨p,1,none⟩=some (.slice (some ⟨g,0,none⟩) xs1.length rc)∧w'.cell? ⟨g,l*8,none⟩=some (.int .i64 n1)∧w'.cell? ⟨g,l*8+1,none⟩=some (.int .i64 n2)) Ek ?hirb (fun hh=>?_);case hirb=>(refine⟨?_,?_,?_⟩<;>go_simp)
    refine rt 0 hh ?_;refine rt 1 hh ?_;refine rt 2 hh ?_;refine rt 3 hh ?_;refine rt 4 hh ?_;refine rt 5 hh ?_;refine rt 6 hh ?_;refine rt 7 hh ?_;refine rt 8 hh ?_;refine rt 10 hh ?_;refine rt 11 hh ?_;refine rt 12 hh ?_;refine rt 13 hh ?_;refine rt 14 hh ?_;refine rt 15 hh ?_;refine rt 16 hh ?_;refine rt 17 hh ?_;refine rt 18 hh ?_;refine rg 9 fun κ hK=>?_;go_simp
    ((with_reducible refine(eG HH3.o.drew E E HR1.o).mono ?_))
    rintro e w2 ⟨rfl,rfl⟩;rw[b1.nd_high,HT1.o];refine hK.out _ _ ?kprb9 (fun hNew=>?_);case kprb9=>(refine⟨?_,?_,?_⟩<;>go_simp)
    clear hK κ hh;have hh:=hNew;clear hNew;try simp only[pt]
    refine rg 19 fun κ hK=>?_;go_simp
    ((with_reducible refine(eG (HH3.o.set3 (v3+1)).drew E E HR2.o).mono ?_))
    rintro e w2 ⟨rfl,rfl⟩;rw[b2.nd_high,HT2.o];refine hK.out _ _ ?kprb19 (fun hNew=>?_);case kprb19=>(refine⟨?_,?_,?_⟩<;>go_simp)
    clear hK κ hh;have hh:=hNew;clear hNew;try simp only[pt]
    refine rt 20 hh ?_;refine rz ?_;have hh4:=(HH3.o.set3 (v3+1)).drew.set3 (v3+1+1);have hg4:Chg C w (((W3.setCell ⟨p,3,none⟩ (.int .i64 (v3+1))).drew.setCell ⟨p,3,none⟩ (.int .i64 (v3+1+1)))):=((HG3.o.setCell _ (Ei HH3.o.self) _).drew).setCell _ (Ei HH3.o.self) _;have ht4:Sub (((W3.setCell ⟨p,3,none⟩ (.int .i64 (v3+1))).drew.setCell ⟨p,3,none⟩ (.int .i64 (v3+1+1)))) xs1 (.pair k (.pair l b1 b2) c):=HT3.o.chgC HH3.o (((Chg.refl.setCell _ (Ei HH3.o.self) _).drew).setCell _ (Ei HH3.o.self) _) (fun _ _=>rfl);have r4:=hh.1;clear hh;generalize (((W3.setCell ⟨p,3,none⟩ (.int .i64 (v3+1))).drew.setCell ⟨p,3,none⟩ (.int .i64 (v3+1+1))))=W4 at *;go_wp2_with fail;obtain⟨q1,q2,q3,q4,q5⟩:=HN3.o;obtain⟨q6,q7,q8,q9,q10⟩:=TT.dis q3;have hkl:k≠l:=by rintro rfl;exact q1 TT.mem_k
    have HTR:=θ (rJ hh4 (k:=k) (l:=l) (x:=(TT.pair k (.pair l b1 b2) c).nd) (y:=(TT.pair l b1 b2).nd) (a:=b1) (b:=b2) (c:=c) ht4.1 rfl rfl rfl ht4.2.1.1 rfl rfl rfl ht4.2.1.2.1 ht4.2.1.2.2 ht4.2.2 hkl (fun hj=>q1 (TT.mem_l hj)) (fun hj=>q1 (TT.mem_r hj)) q2 q6 q7 (q5 _ TT.mem_k) hs.l.l (by
      obtain⟨g1,g2⟩:=hs;simp only[TT.st,ST.bits,ST.high,as6]at g1 g2;refine⟨?_,?_⟩<;>simp only[ST.bits,ST.high,as6]<;>omega))
    have H4:=θ hh4;have HG4:=θ hg4;have HD:=θ hd;clear hh4 hg4 ht4 q1 q2 q3 q4 q5 q6 q7 q8 q9 q10 hkl m0 m1 r3 hd;refine HTR.o.mono ?_;rintro e w7 ⟨rfl,xs7,h7,g7,t7,kp7,ln7⟩;have hb:bal (.pair (TT.pair l b1 b2).st c.st)= .pair b1.st (.pair b2.st c.st):=by
     have e1:(TT.pair l b1 b2).st.high=hta:=HTA.o;simp only[bal];rw[aH9 (by rw[e1,HTC.o];exact hr),aH8 (by show ¬b1.st.high<b2.st.high;rw[HT1.o,HT2.o];exact HD.o)];rfl
    have H7:=θ h7;have G7:=θ g7;have T7:=θ t7;have K7:=θ kp7;have L7:=θ ln7;have HB:=θ hb;clear h7 g7 t7 kp7 ln7 hb;go_wp2_with fail;go_ret;refine⟨⟨.pair l b1 (.pair k b2 c),xs7,_,rfl,H7.o,T7.out,HB.o.symm,?_,?_,fun j hj=>?_,?_,by have :=HV3.o;omega,by have :=HV3.o;omega⟩,?_⟩
    ·rw[List.perm_iff_count];intro j;simp only[TT.nums,ap8,ap9];omega
    ·simp[TT.bl]
    ·have j1:j≠k:=fun e=>hj (e▸TT.mem_k);have j2:j≠l:=fun e=>hj (e▸TT.mem_l TT.mem_k);rw[K7.out j j1 j2,HK1.o j j1]
    ·rw[L7.out,HL1.o]
    ·exact HG4.o.trans (H4.o.chgRow G7.out) (fun _ h=>Ei h)
 ·have d1:decide ((1:Int)<(hta:Int)-(htc:Int))=false:=aG9 E;by_cases hl:hta+1<htc
  ·have d2:decide ((hta:Int)-(htc:Int)< -1)=true:=aH1 E;cases c with
   | leaf ka q l=>exfalso;have :=HTC.o;simp only[TT.st,ST.high]at this;omega
   | pair l b1 b2=>
    have HNL:Hid (l=nc):=HNC.o;obtain rfl:=HNL.o;obtain⟨hk3,sc3,hl3,sb1,sb2⟩:=HT3.o;obtain⟨m0,m1,_⟩:=HH3.o.eight r3 hl3;have hlx:=(HH3.o.node r3 hl3).2.2.1;change W3.cell? ⟨g,l*8,none⟩=some (.int .i64 (b1.num:Int))at m0;change W3.cell? ⟨g,l*8+1,none⟩=some (.int .i64 (b2.num:Int))at m1;have HB1:=θ sb1;have HB2:=θ sb2;have HC3:=θ sc3;have HK3:=θ hk3;have HL3:=θ hl3;clear hk3 hl3 sb1 sb2 sc3;obtain⟨n1,hn1⟩:∃n,b1.num=n:=⟨_,rfl⟩;obtain⟨n2,hn2⟩:∃n,b2.num=n:=⟨_,rfl⟩;rw[hn1]at m0;rw[hn2]at m1;have HR1:Hid (xs1[n1]? =some b1.nd):=by rw[←hn1];exact HB1.o.root
    have HR2:Hid (xs1[n2]? =some b2.nd):=by rw[←hn2];exact HB2.o.root
    have HN1:=θ hn1;have HN2:=θ hn2;obtain⟨t1,ht1⟩:∃h,b1.st.high=h:=⟨_,rfl⟩;obtain⟨t2,ht2⟩:∃h,b2.st.high=h:=⟨_,rfl⟩;have hts:t1≤1000000000∧t2≤1000000000:=by have :=HTC.o;simp only[TT.st,ST.high,ht1,ht2]at this;omega
    obtain⟨hts1,hts2⟩:=hts;have HT1:=θ ht1;have HT2:=θ ht2;clear hn1 hn2 ht1 ht2;by_cases hd:t2<t1
    ·have d3:decide (t2<t1)=true:=aH1 hd;go_wp2_with fail;refine aE (fun w'=>w'.cell? ⟨p,1,none⟩=some (.slice (some ⟨g,0,none⟩) xs1.length rc)∧w'.cell? ⟨g,l*8,none⟩=some (.int .i64 n1)∧w'.cell? ⟨g,l*8+1,none⟩=some (.int .i64 n2)) Ek ?hila (fun hh=>?_);case hila=>(refine⟨?_,?_,?_⟩<;>go_simp)
     refine rt 0 hh ?_;refine rt 1 hh ?_;refine rt 2 hh ?_;refine rt 3 hh ?_;refine rt 4 hh ?_;refine rt 5 hh ?_;refine rt 6 hh ?_;refine rt 7 hh ?_;refine rt 8 hh ?_;refine rt 10 hh ?_;refine rt 11 hh ?_;refine rt 12 hh ?_;refine rt 13 hh ?_;refine rt 14 hh ?_;refine rt 15 hh ?_;refine rt 16 hh ?_;refine rt 17 hh ?_;refine rt 18 hh ?_;refine rg 9 fun κ hK=>?_;go_simp
     ((with_reducible refine(eG HH3.o.drew E E HR2.o).mono ?_))
     rintro e w2 ⟨rfl,rfl⟩;rw[b2.nd_high,HT2.o];refine hK.out _ _ ?kpla9 (fun hNew=>?_);case kpla9=>(refine⟨?_,?_,?_⟩<;>go_simp)
     clear hK κ hh;have hh:=hNew;clear hNew;try simp only[pt]
     refine rg 19 fun κ hK=>?_;go_simp
     ((with_reducible refine(eG (HH3.o.set3 (v3+1)).drew E E HR1.o).mono ?_))
     rintro e w2 ⟨rfl,rfl⟩;rw[b1.nd_high,HT1.o];refine hK.out _ _ ?kpla19 (fun hNew=>?_);case kpla19=>(refine⟨?_,?_,?_⟩<;>go_simp)
     clear hK κ hh;have hh:=hNew;clear hNew;try simp only[pt]
     refine rt 20 hh ?_;refine rz ?_;have hh4:=(HH3.o.set3 (v3+1)).drew.set3 (v3+1+1);have hg4:Chg C w (((W3.setCell ⟨p,3,none⟩ (.int .i64 (v3+1))).drew.setCell ⟨p,3,none⟩ (.int .i64 (v3+1+1)))):=((HG3.o.setCell _ (Ei HH3.o.self) _).drew).setCell _ (Ei HH3.o.self) _;have ht4:Sub (((W3.setCell ⟨p,3,none⟩ (.int .i64 (v3+1))).drew.setCell ⟨p,3,none⟩ (.int .i64 (v3+1+1)))) xs1 (.pair k a (.pair l b1 b2)):=HT3.o.chgC HH3.o (((Chg.refl.setCell _ (Ei HH3.o.self) _).drew).setCell _ (Ei HH3.o.self) _) (fun _ _=>rfl);have r4:=hh.1;clear hh;generalize (((W3.setCell ⟨p,3,none⟩ (.int .i64 (v3+1))).drew.setCell ⟨p,3,none⟩ (.int .i64 (v3+1+1))))=W4 at *;go_wp2_with fail;have HD:=θ hd;cases b1 with
     | leaf kb qb lb=>exfalso;have :=HT1.o;simp only[TT.st,ST.high]at this;omega
     | pair m d1 d2=>
     obtain rfl:m=n1:=HN1.o;have hh4d:=hh4.drew;have ht4d:Sub W4.drew xs1 (.pair k a (.pair l (.pair m d1 d2) b2)):=ht4.keep (fun _ _=>rfl) (fun _ _=>rfl);obtain⟨q2,q1,q4,q3,q5'⟩:=HN3.o;have q5:∀j,j∈(TT.pair l (.pair m d1 d2) b2).nums→j∉a.nums:=fun j h1 h2=>q5' j h2 h1;obtain⟨q7,q6,q9,q8,q10'⟩:=TT.dis q3;have q10:∀j,j∈b2.nums→j∉(TT.pair m d1 d2).nums:=fun j h1 h2=>q10' j h2 h1;obtain⟨q11,q12,q13,q14,q15⟩:=TT.dis q9;have hkm:k≠m:=by rintro rfl;exact q1 (TT.mem_l TT.mem_k)
     have hkl:k≠l:=by rintro rfl;exact q1 TT.mem_k
     have hlm:l≠m:=by rintro rfl;exact q7 TT.mem_k
     have HTL:=θ (rJ hh4d (k:=l) (l:=m) (x:=(TT.pair l (.pair m d1 d2) b2).nd) (y:=(TT.pair m d1 d2).nd) (a:=d1) (b:=d2) (c:=b2) ht4d.2.2.1 rfl rfl rfl ht4d.2.2.2.1.1 rfl rfl rfl ht4d.2.2.2.1.2.1 ht4d.2.2.2.1.2.2 ht4d.2.2.2.2 hlm
      (fun hj=>q7 (TT.mem_l hj)) (fun hj=>q7 (TT.mem_r hj)) q6 q11 q12 (fun hj=>q10 _ hj TT.mem_k) (by
       obtain⟨g1,g2⟩:=hs;simp only[TT.st,ST.bits,ST.high,as6]at g1 g2;exact⟨E,E⟩) (by
       obtain⟨g1,g2⟩:=hs;simp only[TT.st,ST.bits,ST.high,as6]at g1 g2;refine⟨?_,?_⟩<;>simp only[ST.bits,ST.high,as6]<;>omega))
     have H4D:=θ hh4d;have R4D:Hid (W4.drew.cell? ⟨p,1,none⟩=some (.slice (some ⟨g,0,none⟩) xs1.length rc)):=r4;have HT4:=θ ht4;have HT4D:=θ ht4d;have H4:=θ hh4;have HG4:=θ hg4;have HDD:Hid (k≠m∧k≠l∧l≠m):=⟨hkm,hkl,hlm⟩;have HQ:Hid (k∉a.nums∧k∉d1.nums∧k∉(TT.pair l d2 b2).nums∧m∉a.nums∧m∉d1.nums∧m∉(TT.pair l d2 b2).nums):=by
      refine⟨q2,fun hj=>q1 (TT.mem_l (TT.mem_l hj)),fun hj=>?_,q5 _ (TT.mem_l TT.mem_k),q11,fun hj=>?_⟩
      ·simp only[TT.nums,av9,av8]at hj;rcases hj with rfl | hj | hj
       ·exact hkl rfl
       ·exact q1 (TT.mem_l (TT.mem_r hj))
       ·exact q1 (TT.mem_r hj)
      ·simp only[TT.nums,av9,av8]at hj;rcases hj with rfl | hj | hj
       ·exact hlm rfl
       ·exact q12 hj
       ·exact q10 _ hj TT.mem_k
     clear hh4 hg4 ht4 hh4d ht4d q1 q2 q3 q4 q5 q5' q6 q7 q8 q9 q10 q10' q11 q12 q13 q14 q15 hkm hkl hlm m0 m1 r3 hd;refine aE (fun w'=>w'.cell? ⟨p,1,none⟩=some (.slice (some ⟨g,0,none⟩) xs1.length rc)) Ek ?hilc (fun hh=>?_);case hilc=>(exact R4D.out)
     refine rt 0 hh ?_;refine rt 1 hh ?_;refine rt 2 hh ?_;refine rt 3 hh ?_;refine rt 4 hh ?_;refine rt 5 hh ?_;refine rt 6 hh ?_;refine rg 7 fun κ hK=>?_;go_simp
     ((with_reducible refine HTL.o.mono ?_))
     rintro e w5 ⟨rfl,xs5,h5,g5,t5,kp5,ln5⟩;have r5:=(H4D.o.rowKeep g5 1).trans R4D.out;have hx5:xs5[k]? =some (TT.pair k a (.pair l (.pair m d1 d2) b2)).nd:=by rw[kp5 k HDD.o.2.1 HDD.o.1];exact HT4.o.1
     have l5:=(h5.eight r5 hx5).2.1;have z5:=(h5.node r5 hx5).2.1 (k*8+1);have HH5:=θ h5;have HG5C:=θ (H4D.o.chgRow g5);have HT5:=θ t5;have HK5:=θ kp5;have HL5:=θ ln5;clear h5 g5 t5 kp5 ln5 hx5;refine hK.out _ _ (r5) ?_;intro hh;try simp only[pt]
     refine rt 8 hh ?_;refine rt 9 hh ?_;refine rg 10 fun κ hK=>?_;go_simp;refine hK.out _ _ ?kplc10 (fun hNew=>?_);case kplc10=>(go_simp)
     clear hK κ hh;have hh:=hNew;clear hNew;try simp only[pt]
     refine rz ?_;go_wp2_with fail;obtain⟨e1,e2,e3⟩:=HDD.o;have hx5:xs5[k]? =some (TT.pair k a (.pair l (.pair m d1 d2) b2)).nd:=by rw[HK5.o k e2 e1];exact HT4.o.1
     obtain⟨h6,g6,r6⟩:=HH5.o.put r5 hx5 (i:=1) (v:= .int .i64 m) (x':=⟨a.num,m,(TT.pair k a (.pair l (.pair m d1 d2) b2)).nd.height,(TT.pair k a (.pair l (.pair m d1 d2) b2)).nd.n,(TT.pair k a (.pair l (.pair m d1 d2) b2)).nd.ones,(TT.pair k a (.pair l (.pair m d1 d2) b2)).nd.ln,(TT.pair k a (.pair l (.pair m d1 d2) b2)).nd.lones,none⟩) E rfl;have g6C:Chg C w5 _:=g6.mono (fun b hb=>by subst hb;exact HH5.o.rowC ⟨_,_,r5⟩);obtain⟨f1,f2,f3,f4,f5,f6⟩:=HQ.o;have t6:=HT5.o.chgC HH5.o g6C (bC (y:=⟨a.num,m,(TT.pair k a (.pair l (.pair m d1 d2) b2)).nd.height,(TT.pair k a (.pair l (.pair m d1 d2) b2)).nd.n,(TT.pair k a (.pair l (.pair m d1 d2) b2)).nd.ones,(TT.pair k a (.pair l (.pair m d1 d2) b2)).nd.ln,(TT.pair k a (.pair l (.pair m d1 d2) b2)).nd.lones,none⟩) (k:=k) (fun hj=>by
      simp only[TT.nums,av9,av8]at hj f3
      rcases hj with rfl | hj | rfl | hj | hj
      ·exact e1 rfl
      ·exact f2 hj
      ·exact e2 rfl
      ·exact f3 (Ej (Ei hj))
      ·exact f3 (Ej (Ej hj))))
     have c5:Sub w5 xs5 a:=HT4D.o.2.1.chgC H4D.o HG5C.o (fun j hj=>HK5.o j (by rintro rfl;exact HN3.o.2.2.2.2 _ hj TT.mem_k) (by rintro rfl;exact f4 hj));have c6:=c5.chgC HH5.o g6C (bC (y:=⟨a.num,m,(TT.pair k a (.pair l (.pair m d1 d2) b2)).nd.height,(TT.pair k a (.pair l (.pair m d1 d2) b2)).nd.n,(TT.pair k a (.pair l (.pair m d1 d2) b2)).nd.ones,(TT.pair k a (.pair l (.pair m d1 d2) b2)).nd.ln,(TT.pair k a (.pair l (.pair m d1 d2) b2)).nd.lones,none⟩) f1);have HTR:=θ (sU h6 (k:=k) (l:=m) (y:=(TT.pair m d1 (.pair l d2 b2)).nd) (a:=a) (b:=d1) (c:= .pair l d2 b2) (aS hx5) rfl rfl rfl t6.1 rfl rfl rfl c6 t6.2.1 t6.2.2 e1 f1 f2 f3 f4 f5 f6 (by
       obtain⟨g1,g2⟩:=hs;simp only[TT.st,ST.bits,ST.high,as6]at g1 g2;refine⟨?_,?_⟩<;>simp only[ST.bits,ST.high,as6]<;>omega) (by
       obtain⟨g1,g2⟩:=hs;simp only[TT.st,ST.bits,ST.high,as6]at g1 g2;refine⟨?_,?_⟩<;>simp only[TT.st,ST.bits,ST.high,as6]<;>omega))
     have H6:=θ h6;have G6:=θ g6C;clear h6 g6 r6 g6C f1 f2 f3 f4 f5 f6 t6 c5 c6 hx5 e1 e2 e3;refine HTR.o.mono ?_;rintro e w7 ⟨rfl,xs7,h7,g7,t7,kp7,ln7⟩;have hb:bal (.pair a.st (TT.pair l (.pair m d1 d2) b2).st)= .pair (.pair a.st d1.st) (.pair d2.st b2.st):=by
      have e1:(TT.pair l (.pair m d1 d2) b2).st.high=htc:=HTC.o;have e2:(TT.pair m d1 d2).st.high=t1:=HT1.o;simp only[bal];rw[aH8 (by rw[e1,HTA.o];exact hr),aH9 (by rw[e1,HTA.o];exact hl),aH9 (by show b2.st.high<(TT.pair m d1 d2).st.high;rw[HT2.o,e2];exact HD.o)];rfl
     have H7:=θ h7;have G7:=θ g7;have T7:=θ t7;have K7:=θ kp7;have L7:=θ ln7;have HB:=θ hb;clear h7 g7 t7 kp7 ln7 hb;go_wp2_with fail;go_ret;refine⟨⟨.pair m (.pair k a d1) (.pair l d2 b2),xs7,_,rfl,H7.o,T7.out,HB.o.symm,?_,?_,fun j hj=>?_,?_,by have :=HV3.o;omega,by have :=HV3.o;omega⟩,?_⟩
     ·rw[List.perm_iff_count];intro j;simp only[TT.nums,ap8,ap9];omega
     ·simp[TT.bl]
     ·have j1:j≠k:=fun e=>hj (e▸TT.mem_k);have j2:j≠l:=fun e=>hj (e▸TT.mem_r TT.mem_k);have j3:j≠m:=fun e=>hj (e▸TT.mem_r (TT.mem_l TT.mem_k));rw[K7.out j j1 j3,aG j1,HK5.o j j2 j3,HK1.o j j1]
     ·rw[L7.out,at4,HL5.o,HL1.o]
     ·exact(((HG4.o.drew).trans HG5C.o (fun _ h=>Ei h)).trans G6.out (fun _ h=>Ei h)).trans (H6.o.chgRow G7.out) (fun _ h=>Ei h)
    ·have d3:decide (t2<t1)=false:=aG9 hd;go_wp2_with fail;refine aE (fun w'=>w'.cell? ⟨p,1,none⟩=some (.slice (some ⟨g,0,none⟩) xs1.length rc)∧w'.cell? ⟨g,l*8,none⟩=some (.int .i64 n1)∧w'.cell? ⟨g,l*8+1,none⟩=some (.int .i64 n2)) Ek ?hilb (fun hh=>?_);case hilb=>(refine⟨?_,?_,?_⟩<;>go_simp)
     refine rt 0 hh ?_;refine rt 1 hh ?_;refine rt 2 hh ?_;refine rt 3 hh ?_;refine rt 4 hh ?_;refine rt 5 hh ?_;refine rt 6 hh ?_;refine rt 7 hh ?_;refine rt 8 hh ?_;refine rt 10 hh ?_;refine rt 11 hh ?_;refine rt 12 hh ?_;refine rt 13 hh ?_;refine rt 14 hh ?_;refine rt 15 hh ?_;refine rt 16 hh ?_;refine rt 17 hh ?_;refine rt 18 hh ?_;refine rg 9 fun κ hK=>?_;go_simp
     ((with_reducible refine(eG HH3.o.drew E E HR2.o).mono ?_))
     rintro e w2 ⟨rfl,rfl⟩;rw[b2.nd_high,HT2.o];refine hK.out _ _ ?kplb9 (fun hNew=>?_);case kplb9=>(refine⟨?_,?_,?_⟩<;>go_simp)
     clear hK κ hh;have hh:=hNew;clear hNew;try simp only[pt]
     refine rg 19 fun κ hK=>?_;go_simp
     ((with_reducible refine(eG (HH3.o.set3 (v3+1)).drew E E HR1.o).mono ?_))
     rintro e w2 ⟨rfl,rfl⟩;rw[b1.nd_high,HT1.o];refine hK.out _ _ ?kplb19 (fun hNew=>?_);case kplb19=>(refine⟨?_,?_,?_⟩<;>go_simp)
     clear hK κ hh;have hh:=hNew;clear hNew;try simp only[pt]
     refine rt 20 hh ?_;refine rz ?_;have hh4:=(HH3.o.set3 (v3+1)).drew.set3 (v3+1+1);have hg4:Chg C w (((W3.setCell ⟨p,3,none⟩ (.int .i64 (v3+1))).drew.setCell ⟨p,3,none⟩ (.int .i64 (v3+1+1)))):=((HG3.o.setCell _ (Ei HH3.o.self) _).drew).setCell _ (Ei HH3.o.self) _;have ht4:Sub (((W3.setCell ⟨p,3,none⟩ (.int .i64 (v3+1))).drew.setCell ⟨p,3,none⟩ (.int .i64 (v3+1+1)))) xs1 (.pair k a (.pair l b1 b2)):=HT3.o.chgC HH3.o (((Chg.refl.setCell _ (Ei HH3.o.self) _).drew).setCell _ (Ei HH3.o.self) _) (fun _ _=>rfl);have r4:=hh.1;clear hh;generalize (((W3.setCell ⟨p,3,none⟩ (.int .i64 (v3+1))).drew.setCell ⟨p,3,none⟩ (.int .i64 (v3+1+1))))=W4 at *;go_wp2_with fail;obtain⟨q2,q1,q4,q3,q5'⟩:=HN3.o;have q5:∀j,j∈(TT.pair l b1 b2).nums→j∉a.nums:=fun j h1 h2=>q5' j h2 h1;obtain⟨q6,q7,q8,q9,q10⟩:=TT.dis q3;have hkl:k≠l:=by rintro rfl;exact q1 TT.mem_k
     have HTR:=θ (sU hh4 (k:=k) (l:=l) (x:=(TT.pair k a (.pair l b1 b2)).nd) (y:=(TT.pair l b1 b2).nd) (a:=a) (b:=b1) (c:=b2) ht4.1 rfl rfl rfl ht4.2.2.1 rfl rfl rfl ht4.2.1 ht4.2.2.2.1 ht4.2.2.2.2 hkl q2 (fun hj=>q1 (TT.mem_l hj)) (fun hj=>q1 (TT.mem_r hj)) (q5 _ TT.mem_k) q6 q7 (by
       obtain⟨g1,g2⟩:=hs;simp only[TT.st,ST.bits,ST.high,as6]at g1 g2;refine⟨?_,?_⟩<;>simp only[ST.bits,ST.high,as6]<;>omega) hs.r.r)
     have H4:=θ hh4;have HG4:=θ hg4;have HD:=θ hd;clear hh4 hg4 ht4 q1 q2 q3 q4 q5 q5' q6 q7 q8 q9 q10 hkl m0 m1 r3 hd;refine HTR.o.mono ?_;rintro e w7 ⟨rfl,xs7,h7,g7,t7,kp7,ln7⟩;have hb:bal (.pair a.st (TT.pair l b1 b2).st)= .pair (.pair a.st b1.st) b2.st:=by
      have e1:(TT.pair l b1 b2).st.high=htc:=HTC.o;simp only[bal];rw[aH8 (by rw[e1,HTA.o];exact hr),aH9 (by rw[e1,HTA.o];exact hl),aH8 (by show ¬b2.st.high<b1.st.high;rw[HT1.o,HT2.o];exact HD.o)];rfl
     have H7:=θ h7;have G7:=θ g7;have T7:=θ t7;have K7:=θ kp7;have L7:=θ ln7;have HB:=θ hb;clear h7 g7 t7 kp7 ln7 hb;go_wp2_with fail;go_ret;refine⟨⟨.pair l (.pair k a b1) b2,xs7,_,rfl,H7.o,T7.out,HB.o.symm,?_,?_,fun j hj=>?_,?_,by have :=HV3.o;omega,by have :=HV3.o;omega⟩,?_⟩
     ·rw[List.perm_iff_count];intro j;simp only[TT.nums,ap8,ap9];omega
     ·simp[TT.bl]
     ·have j1:j≠k:=fun e=>hj (e▸TT.mem_k);have j2:j≠l:=fun e=>hj (e▸TT.mem_r TT.mem_k);rw[K7.out j j1 j2,HK1.o j j1]
     ·rw[L7.out,HL1.o]
     ·exact HG4.o.trans (H4.o.chgRow G7.out) (fun _ h=>Ei h)
  ·have d2:decide ((hta:Int)-(htc:Int)< -1)=false:=aG9 E;have hb:bal (.pair a.st c.st)= .pair a.st c.st:=by
    simp only[bal];rw[aH8 (by rw[HTA.o,HTC.o];exact hr),aH8 (by rw[HTA.o,HTC.o];exact hl)]
   have HB:=θ hb;clear hb;go_wp2_with fail;go_ret;exact⟨⟨.pair k a c,xs1,_,rfl,HH3.o,HT3.o,HB.o.symm,ao5 _,rfl,fun j hj=>HK1.o j (fun e=>hj (e▸TT.mem_k)),HL1.o,by have :=HV3.o;omega,by have :=HV3.o;omega⟩,HG3.o⟩
theorem Tryz.infoNode:(Tryz.prog.info? 221).map (fun i=>(i.zero,i.size,i.bytes))=some (some (.agg #[.int .i64 0, .int .i64 0, .int .i64 0, .int .i64 0, .int .i64 0, .int .i64 0, .int .i64 0, .pointer none]),8,64):=Ek
theorem Hr{P:Program}{w:World}{o:Oper}{a:Act}{K:Act→World→Prop}{Q:Exit→Act→World→Prop}{e':TypeId}{us:List Value}(s x:Operand)(t:TypeId)
  (ho:o.op= .call {callee:= .builtin .append,args:=#[s,x],argTypes:=#[t,t]})
  (base:Nat) (e:TypeId) {z:Value} {bytes:Nat} (hinfo:(P.info? e).map (fun i=>(i.zero,i.size,i.bytes))=some (some z,8,bytes)) (ht:P.underlying t=some (.slice e)) (hz1:z.cells.size=8)
  (v:Value) (n:Nat) (xs:List Value) (hs:a.eval s=v) (hown:w.ownsRow base e 8 v n xs)
  (hx:a.eval x= .slice (some ⟨w.heap.size,0,none⟩) 1 1) (hu:us.length=8) (h1:∀u∈us,u.oneCell'=true)
  (h63:n+1≤maxLen) (hbytes:(n+1)*bytes≤140737488355328) (hbase:base≤w.heap.size)
  (h:∀g cap w',w'.ownsRow base e 8 (.slice (some ⟨g,0,none⟩) (n+1) cap) (n+1) (xs++us)→w.grownBy w' v.ownBlock→(v.ownBlock=some g∨w.heap.size≤g)→g<w'.heap.size→
   K (a.put o.dst (.slice (some ⟨g,0,none⟩) (n+1) cap)) w'):Oper.wp P o a (w.alloc (.cells us.toArray e')) K Q:=by
 obtain⟨i,hi,hz,hsz,hby⟩:=aI1 hinfo;refine wp_append_lies (w.alloc (.cells us.toArray e')) s x t ho base e i z 8 bytes ht hi hz hsz hby hz1 E v n xs hs (hown.alloc _) ⟨w.heap.size,0,none⟩ 1 1 us hx E ?_ h1 E h63 hbytes ?_ _ rfl ?_
 ·intro j u hj;rw[al5,aC7,aG7 _ _ j _ _ _ (aH5 w _),as0,hj]
 ·simp;omega
 ·intro g cap w' h1 h2 h3 h4;exact h g cap w' h1 ⟨h2.os,h2.tape,h2.output,by have :=h2.size;simp at this;omega,fun k hk hne=>by
   rw[h2.block k (by simp;omega) hne];exact am3 w _ k hk⟩ (h3.imp id (fun h=>by simp at h;omega)) h4
section
variable {w w':World}{p:Nat}{C:Nat→Prop}{A:Ar}{xs:List Nd}{root vis:Int}
theorem HStep.of_below {C:Nat→Prop}(h:Below w.heap.size w w'):HStep w w' C C:=⟨Chg.of_below h,fun k hk=>Ei hk⟩
theorem Head.see1 (h:Head w p C A xs root vis):∃ra rc,w.cell? ⟨p,1,none⟩=some (.slice ra xs.length rc)∧w.ownsRow 0 221 8 (.slice ra xs.length rc) xs.length (cR xs):=by
 obtain⟨ap,SA,ra,rc,hp,ha,ho,hC⟩:=h.ex;exact⟨ra,rc,by rw[aG7 w p 1 _ _ _ hp];rfl,ho⟩
theorem Head.grow (h:Head w p C A xs root vis){ra:Option Addr}{rc:Nat}(h1:w.cell? ⟨p,1,none⟩=some (.slice ra xs.length rc)){g cap:Nat}{x:Nd}
  (hown:w'.ownsRow 0 221 8 (.slice (some ⟨g,0,none⟩) (xs.length+1) cap) (xs.length+1) (cR xs++x.cells)) (hg:w.grownBy w' (Value.slice ra xs.length rc).ownBlock) (hor:(Value.slice ra xs.length rc).ownBlock=some g∨w.heap.size≤g):
  ∃C',Head (w'.setCell ⟨p,1,none⟩ (.slice (some ⟨g,0,none⟩) (xs.length+1) cap)) p C' A (xs++[x]) root vis∧HStep w (w'.setCell ⟨p,1,none⟩ (.slice (some ⟨g,0,none⟩) (xs.length+1) cap)) C C':=by
 obtain⟨ap,SA,ra',rc',hp,ha,ho,hC⟩:=h.ex;have e0:ra'=ra∧rc'=rc:=by
  rw[aG7 w p 1 _ _ _ hp]at h1;have h1:some (Value.slice ra' xs.length rc')=some (.slice ra xs.length rc):=h1;injection h1 with h1
  injection h1 with e1 _ e3
  exact⟨e1,e3⟩
 obtain⟨rfl,rfl⟩:=e0;have hT:TypeAt w p 218:=⟨_,hp⟩;have hob:∀k,(Value.slice ra' xs.length rc').ownBlock=some k↔ra'=some ⟨k,0,none⟩:=fun k=>dT (gK ho);have hne:∀k T,TypeAt w k T→T≠221→(Value.slice ra' xs.length rc').ownBlock≠some k:=by
  intro k T hk hT e;rw[(hob k).1 e]at ho;exact(fC ho).ne hk (fun e=>hT e.symm) rfl
 have hc1:Chg (fun k=>ra'=some ⟨k,0,none⟩) w w':=Chg.refl.grown hg (fun k hk=>Ei ((hob k).1 hk));have hp':=hc1.heap hp (fun e=>hne p _ hT Ed ((hob p).2 e));have ha':IsArena w' ap SA A:=ha.chg hc1 (fun k hk e=>by
  rcases ha.types hk with t | t | t<;>exact hne k _ t Ed ((hob k).2 e))
 have hgp:g≠p:=by
  rcases hor with e | e
  ·rintro rfl;exact hne _ _ hT Ed e
  ·have :=hT.lt;omega
 have hgT:TypeAt w' g 221:=fC hown;have hc2:Chg (fun k=>k=p) w' (w'.setCell ⟨p,1,none⟩ (.slice (some ⟨g,0,none⟩) (xs.length+1) cap)):=Chg.refl.setCell (S:=fun k=>k=p) ⟨p,1,none⟩ (Ei rfl) _;refine⟨fun k=>k=p∨SA k∨(some (⟨g,0,none⟩:Addr))=some ⟨k,0,none⟩,⟨ap,SA,some ⟨g,0,none⟩,cap,?_,ha'.chg hc2 (fun k hk e=>?_),?_,fun k=>Iff.rfl⟩,?_,fun k hk=>?_⟩
 ·have :=aH6 w' p 1 _ _ (.slice (some ⟨g,0,none⟩) (xs.length+1) cap) hp';rw[as6];exact this
 ·subst e;rcases ha.types hk with t | t | t<;>exact t.ne hT Ed rfl
 ·rw[as6,Lx,show cR [x]=x.cells by simp[cR]];exact hc2.own hown (fun k hk e=>by
   simp[Value.ownBlock]at hk
   omega)
 ·refine(hc1.mono (fun k e=>(hC k).2 (Ej (Ej e)))).trans hc2 (fun k e=>Ei (by subst e;exact(hC _).2 (Ei rfl)))
 ·rcases hk with rfl | hk | hk
  ·exact Ei ((hC _).2 (Ei rfl))
  ·exact Ei ((hC _).2 (Ej (Ei hk)))
  ·injection hk with hk
   injection hk with hk _ _
   subst hk;rcases hor with e | e
   ·exact Ei ((hC _).2 (Ej (Ej ((hob _).1 e))))
   ·exact Ej e
end
theorem Nd.one (x:Nd):∀u∈x.cells,u.oneCell'=true:=by
 intro u hu;simp only[Nd.cells,av9,ay0,aI5]at hu;rcases hu with rfl | rfl | rfl | rfl | rfl | rfl | rfl | rfl<;>first | rfl | (unfold eL;rfl)
theorem Head.puts8 {w:World}{p:Nat}{C:Nat→Prop}{A:Ar}{xs:List Nd}{root vis:Int}(h:Head w p C A xs root vis){g n rc:Nat}(hg:w.cell? ⟨p,1,none⟩=some (.slice (some ⟨g,0,none⟩) n rc)){k:Nat}{xk:Nd}(hx:xs[k]? =some xk)(x:Nd){pb:Option Addr}(hpb:eL x.b= .pointer pb):
  Head ((((((((w.setCell ⟨g,k*8,none⟩ (.int .i64 x.left)).setCell ⟨g,k*8+1,none⟩ (.int .i64 x.right)).setCell ⟨g,k*8+2,none⟩ (.int .i64 x.height)).setCell ⟨g,k*8+3,none⟩ (.int .i64 x.n)).setCell ⟨g,k*8+4,none⟩ (.int .i64 x.ones)).setCell ⟨g,k*8+5,none⟩ (.int .i64 x.ln)).setCell ⟨g,k*8+6,none⟩ (.int .i64 x.lones)).setCell ⟨g,k*8+7,none⟩ (.pointer pb)) p C A (xs.set k x) root vis∧Chg (fun b=>b=g) w ((((((((w.setCell ⟨g,k*8,none⟩ (.int .i64 x.left)).setCell ⟨g,k*8+1,none⟩ (.int .i64 x.right)).setCell ⟨g,k*8+2,none⟩ (.int .i64 x.height)).setCell ⟨g,k*8+3,none⟩ (.int .i64 x.n)).setCell ⟨g,k*8+4,none⟩ (.int .i64 x.ones)).setCell ⟨g,k*8+5,none⟩ (.int .i64 x.ln)).setCell ⟨g,k*8+6,none⟩ (.int .i64 x.lones)).setCell ⟨g,k*8+7,none⟩ (.pointer pb)):=by
 rw[←hpb];obtain⟨_,_,hk,_⟩:=h.node hg hx;have key:∀y:Nd,(xs.set k y)[k]? =some y:=fun y=>by rw[ar8,aH9 rfl,aH9 hk]
 obtain⟨h1,c1,g1⟩:=h.put hg hx (i:=0) (v:= .int .i64 x.left) (x':=⟨x.left,xk.right,xk.height,xk.n,xk.ones,xk.ln,xk.lones,xk.b⟩) E rfl;obtain⟨h2,c2,g2⟩:=h1.put g1 (key _) (i:=1) (v:= .int .i64 x.right) (x':=⟨x.left,x.right,xk.height,xk.n,xk.ones,xk.ln,xk.lones,xk.b⟩) E rfl;rw[ay6]at h2;obtain⟨h3,c3,g3⟩:=h2.put g2 (key _) (i:=2) (v:= .int .i64 x.height) (x':=⟨x.left,x.right,x.height,xk.n,xk.ones,xk.ln,xk.lones,xk.b⟩) E rfl;rw[ay6]at h3;obtain⟨h4,c4,g4⟩:=h3.put g3 (key _) (i:=3) (v:= .int .i64 x.n) (x':=⟨x.left,x.right,x.height,x.n,xk.ones,xk.ln,xk.lones,xk.b⟩) E rfl;rw[ay6]at h4;obtain⟨h5,c5,g5⟩:=h4.put g4 (key _) (i:=4) (v:= .int .i64 x.ones) (x':=⟨x.left,x.right,x.height,x.n,x.ones,xk.ln,xk.lones,xk.b⟩) E rfl;rw[ay6]at h5;obtain⟨h6,c6,g6⟩:=h5.put g5 (key _) (i:=5) (v:= .int .i64 x.ln) (x':=⟨x.left,x.right,x.height,x.n,x.ones,x.ln,xk.lones,xk.b⟩) E rfl;rw[ay6]at h6;obtain⟨h7,c7,g7⟩:=h6.put g6 (key _) (i:=6) (v:= .int .i64 x.lones) (x':=⟨x.left,x.right,x.height,x.n,x.ones,x.ln,x.lones,xk.b⟩) E rfl;rw[ay6]at h7;obtain⟨h8,c8,g8⟩:=h7.put g7 (key _) (i:=7) (v:=eL x.b) (x':=x) E rfl;rw[ay6]at h8;exact⟨h8,((((((c1.trans c2 (fun _ h=>Ei h)).trans c3 (fun _ h=>Ei h)).trans c4 (fun _ h=>Ei h)).trans c5 (fun _ h=>Ei h)).trans c6 (fun _ h=>Ei h)).trans c7 (fun _ h=>Ei h)).trans c8 (fun _ h=>Ei h)⟩
structure NodePost (w w':World) (p:Nat) (C:Nat→Prop) (A:Ar) (xs:List Nd) (root vis:Int) (y:Nd) (e:Ending):Prop where
 ex:∃(k:Nat) (C':Nat→Prop) (A':Ar) (xs':List Nd),e= .returned (.int .i64 k)∧Head w' p C' A' xs' root vis∧HStep w w' C C'∧xs'.length=A'.T.length∧xs'[k]? =some y∧A.T[k]? ≠some true∧
  (∀j:Nat,A.T[j]? =some true→xs'[j]? =xs[j]? ∧A'.T[j]? =some true)∧A'.T[k]? =some true∧A'.live=A.live+1∧A'.M=A.M∧(A.F=[]→A'.F=[])
def jO(x:Nd):Obj:= .cells x.cells.toArray 221
theorem Ux{w:World}{p:Nat}{C:Nat→Prop}{A:Ar}{xs:List Nd}{root vis:Int}(h:Head w p C A xs root vis)(hlen:xs.length=A.T.length)(hlive:A.live<A.M)(x y:Nd){k:Nat}(hk:A.F.getLast?=some k)
  (hfix:∀(w1:World) (C1:Nat→Prop) (xs1:List Nd),Head w1 p C1 (A.pop k) xs1 root vis→HStep w w1 C C1→xs1[k]? =some x→(∀j:Nat,A.T[j]? =some true→xs1[j]? =xs[j]?)→
   Calls Tryz.prog 245 #[.pointer (some ⟨p,0,none⟩), .int .i64 k] w1 fun e w'=>e= .returned (.tuple #[])∧Head w' p C1 (A.pop k) (xs1.set k y) root vis∧Chg (RowB w1 p) w1 w'):
  Calls Tryz.prog 248 #[.pointer (some ⟨p,0,none⟩), .agg x.cells.toArray] w fun e w'=>NodePost w w' p C A xs root vis y e:=by
 have h0:=h.below (aN w (jO x));obtain⟨ap,SA,p0,hA,hsub,hstep⟩:=h0.arena;have hok:=hA.ok;have hkT:=hok.last_lt hk;have hkF:A.T[k]? =some false:=(hok.iff k).2 (List.mem_of_getLast? hk);have hTk:=θ (xP hA E hk);have HST:=θ hstep;have hbox:(w.alloc (jO x)).heap[w.heap.size]? =some (jO x):=aH5 w _;have hnb:¬SA w.heap.size:=fun hs=>by have :=h.lt _ (hsub _ hs);omega
 have HBX:Hid (∀w1 A',ArStep (w.alloc (jO x)) w1 ap SA A'→w1.heap[w.heap.size]? =some (jO x)):=fun w1 A' ⟨_,_,hc,_⟩=>hc.heap hbox hnb;have HS0:Hid (HStep w (w.alloc (jO x)) C C):=HStep.of_below (aN w _);have HF:=θ hfix;have HL:=θ hlen;have HKF:=θ hkF;have HOK:=θ hok;have hxk:k<xs.length:=E;have HLV:=θ hlive;have HK:=θ hk;have HLT:Hid (∀j,C j→j<w.heap.size):=h.lt;clear h h0 hA hsub hstep hbox hnb hfix hlen hkT hkF hok hlive hk;unfold jO at *;go_enter Tryz.func248,Tryz.ntmps248;go_wp2_with fail;refine hTk.out.mono ?_;rintro e w1 ⟨rfl,hst⟩;obtain⟨C1,h1,s1⟩:=HST.o _ _ hst;have bx:=HBX.o _ _ hst;clear hst hTk HST HBX p0;obtain⟨g,rc,cur,r1,hgp,hCg,_⟩:=h1.row E;obtain⟨xk,hxk2⟩:∃xk,xs[k]? =some xk:=⟨_,ar3 hxk⟩;obtain⟨e0,e1,e2,e3,e4,e5,e6,e7⟩:=h1.eight r1 hxk2;obtain⟨_,fz,_⟩:=h1.node r1 hxk2;have hs01:=HS0.o.trans s1;have hgB:g≠w.heap.size:=by
  rcases s1.new g hCg with e | e
  ·have :=HLT.o g e;omega
  ·simp at e;omega
 obtain⟨pb,hpb⟩:∃pb,eL x.b= .pointer pb:=⟨_,rfl⟩;obtain⟨pk,hpk⟩:∃pb,eL xk.b= .pointer pb:=⟨_,rfl⟩;have b0:w1.cell? ⟨w.heap.size,0,none⟩=some (.int .i64 x.left):=by rw[aG7 w1 _ 0 _ _ _ bx];rfl
 have b1:w1.cell? ⟨w.heap.size,1,none⟩=some (.int .i64 x.right):=by rw[aG7 w1 _ 1 _ _ _ bx];rfl
 have b2:w1.cell? ⟨w.heap.size,2,none⟩=some (.int .i64 x.height):=by rw[aG7 w1 _ 2 _ _ _ bx];rfl
 have b3:w1.cell? ⟨w.heap.size,3,none⟩=some (.int .i64 x.n):=by rw[aG7 w1 _ 3 _ _ _ bx];rfl
 have b4:w1.cell? ⟨w.heap.size,4,none⟩=some (.int .i64 x.ones):=by rw[aG7 w1 _ 4 _ _ _ bx];rfl
 have b5:w1.cell? ⟨w.heap.size,5,none⟩=some (.int .i64 x.ln):=by rw[aG7 w1 _ 5 _ _ _ bx];rfl
 have b6:w1.cell? ⟨w.heap.size,6,none⟩=some (.int .i64 x.lones):=by rw[aG7 w1 _ 6 _ _ _ bx];rfl
 have b7:w1.cell? ⟨w.heap.size,7,none⟩=some (.pointer pb):=by rw[aG7 w1 _ 7 _ _ _ bx,←hpb];rfl
 rw[hpk]at e7;have z0:=fz (k*8);have z1:=fz (k*8+1);have z2:=fz (k*8+2);have z3:=fz (k*8+3);have z4:=fz (k*8+4);have z5:=fz (k*8+5);have z6:=fz (k*8+6);have z7:=fz (k*8+7);have H1:=θ h1;have S01:=θ hs01;have HX2:=θ hxk2;have HPB:=θ hpb;have dk:((k:Int)==(xs.length:Int))=false:=by rw[aG5];omega
 clear h1 s1 bx hxk2 fz hs01 hpb hpk HS0 HLT hCg;generalize w.heap.size=B0 at *;obtain⟨W2,hW2⟩:∃W2,W2=((((((((w1.setCell ⟨g,k*8,none⟩ (.int .i64 x.left)).setCell ⟨g,k*8+1,none⟩ (.int .i64 x.right)).setCell ⟨g,k*8+2,none⟩ (.int .i64 x.height)).setCell ⟨g,k*8+3,none⟩ (.int .i64 x.n)).setCell ⟨g,k*8+4,none⟩ (.int .i64 x.ones)).setCell ⟨g,k*8+5,none⟩ (.int .i64 x.ln)).setCell ⟨g,k*8+6,none⟩ (.int .i64 x.lones)).setCell ⟨g,k*8+7,none⟩ (.pointer pb)).drew:=⟨_,rfl⟩;have hp8:=H1.o.puts8 r1 HX2.o x HPB.o;have h2:Head W2 p C1 (A.pop k) (xs.set k x) root vis:=by rw[hW2];exact hp8.1.drew
 have c2:Chg C1 w1 W2:=by rw[hW2];exact(hp8.2.mono (fun b e=>by subst e;exact H1.o.rowC ⟨_,_,r1⟩)).drew
 have hs2:=S01.out.trans ⟨c2,fun j hj=>Ei hj⟩;have hTk:∀j:Nat,A.T[j]? =some true→j≠k:=by
  rintro j hj rfl;have :=HKF.o;rw[hj]at this;cases this
 have HFF:=θ (HF.o W2 C1 (xs.set k x) h2 hs2 (aS HX2.o) (fun j hj=>aG (hTk j hj)));have HW2:=θ hW2;have H2:=θ h2;have HS2:=θ hs2;have HTK:=θ hTk;clear hW2 hp8 h2 c2 hs2 hTk HF;go_wp2_with fail;refine aE (fun w'=>w'.cell? ⟨p,1,none⟩=some (.slice (some ⟨g,0,none⟩) xs.length rc)∧w'.cell? ⟨B0,0,none⟩=some (.int .i64 x.left)∧w'.cell? ⟨B0,1,none⟩=some (.int .i64 x.right)∧w'.cell? ⟨B0,2,none⟩=some (.int .i64 x.height)∧w'.cell? ⟨B0,3,none⟩=some (.int .i64 x.n)∧w'.cell? ⟨B0,4,none⟩=some (.int .i64 x.ones)∧w'.cell? ⟨B0,5,none⟩=some (.int .i64 x.ln)∧w'.cell? ⟨B0,6,none⟩=some (.int .i64 x.lones)∧w'.cell? ⟨B0,7,none⟩=some (.pointer pb)) Ek ?hiq (fun hh=>?_);case hiq=>(refine⟨?_,?_,?_,?_,?_,?_,?_,?_,?_⟩<;>go_simp)
 refine rt 0 hh ?_;refine rt 1 hh ?_;refine rt 2 hh ?_;refine rt 3 hh ?_;refine rt 4 hh ?_;refine rt 5 hh ?_;refine rt 6 hh ?_;refine rg 7 fun κ hK=>?_;go_simp;refine hK.out _ _ ?kpq7 (fun hNew=>?_);case kpq7=>(refine⟨?_,?_,?_,?_,?_,?_,?_,?_,?_⟩<;>go_simp)
 clear hK κ hh;have hh:=hNew;clear hNew;try simp only[pt]
 refine rz ?_;go_wp2_with fail;rw[←HW2.o];refine HFF.o.mono ?_;rintro e w3 ⟨rfl,h3,c3⟩;have H3:=θ h3;have C3:=θ c3;clear h3 c3 hh;go_wp2_with fail;go_ret;refine⟨⟨k,C1,A.pop k,_,rfl,H3.o,HS2.o.trans ⟨H2.o.chgRow C3.out,fun j hj=>Ei hj⟩,?_,aS (aS HX2.o),?_,fun j hj=>⟨?_,?_⟩,?_,?_,rfl,fun hF=>by first | exact hF | (show A.F.dropLast=[];rw[hF];rfl)⟩⟩
 ·rw[at4,at4,HL.o];simp[Ar.pop]
 ·rw[HKF.o];simp
 ·rw[aG (HTK.o j hj),aG (HTK.o j hj)]
 ·show (A.T.set k true)[j]? =some true;rw[aG (HTK.o j hj)];exact hj
 ·exact aS HKF.o
 ·have e1:=HOK.o.fle;have e2:0<A.F.length:=List.length_pos_iff.2 (by intro e;have :=HK.o;rw[e]at this;cases this);show (A.T.set k true).length-A.F.dropLast.length=A.T.length-A.F.length+1;rw[at4,List.length_dropLast];omega
theorem Oy{w:World}{p:Nat}{C:Nat→Prop}{A:Ar}{xs:List Nd}{root vis:Int}(h:Head w p C A xs root vis)(hlen:xs.length=A.T.length)(hlive:A.live<A.M)(x y:Nd)(hk:A.F=[])(hlm:A.T.length≤268435456)
  (hfix:∀(w1:World) (C1:Nat→Prop) (xs1:List Nd),Head w1 p C1 (A.more) xs1 root vis→HStep w w1 C C1→xs1[xs.length]? =some x→(∀j:Nat,A.T[j]? =some true→xs1[j]? =xs[j]?)→
   Calls Tryz.prog 245 #[.pointer (some ⟨p,0,none⟩), .int .i64 xs.length] w1 fun e w'=>e= .returned (.tuple #[])∧Head w' p C1 (A.more) (xs1.set xs.length y) root vis∧Chg (RowB w1 p) w1 w'):
  Calls Tryz.prog 248 #[.pointer (some ⟨p,0,none⟩), .agg x.cells.toArray] w fun e w'=>NodePost w w' p C A xs root vis y e:=by
 have h0:=h.below (aN w (jO x));obtain⟨ap,SA,p0,hA,hsub,hstep⟩:=h0.arena;have hok:=hA.ok;have hTk0:=tP hA E hk;rw[←hlen]at hTk0;have hTk:=θ hTk0;have HST:=θ hstep;have hbox:(w.alloc (jO x)).heap[w.heap.size]? =some (jO x):=aH5 w _;have hnb:¬SA w.heap.size:=fun hs=>by have :=h.lt _ (hsub _ hs);omega
 have HBX:Hid (∀w1 A',ArStep (w.alloc (jO x)) w1 ap SA A'→w1.heap[w.heap.size]? =some (jO x)):=fun w1 A' ⟨_,_,hc,_⟩=>hc.heap hbox hnb;have HS0:Hid (HStep w (w.alloc (jO x)) C C):=HStep.of_below (aN w _);have HF:=θ hfix;have HL:=θ hlen;have HOK:=θ hok;have HLV:=θ hlive;have HK:=θ hk;have HLT:Hid (∀j,C j→j<w.heap.size):=h.lt;rw[←hlen]at hlm;clear h h0 hA hsub hstep hbox hnb hfix hlen hok hlive hk hTk0;unfold jO at *;go_enter Tryz.func248,Tryz.ntmps248;go_wp2_with fail;refine hTk.out.mono ?_;rintro e w1 ⟨rfl,hst⟩;obtain⟨C1,h1,s1⟩:=HST.o _ _ hst;have bx:=HBX.o _ _ hst;clear hst hTk HST HBX p0;obtain⟨ra,rc,r1,hown⟩:=h1.see1;have hs01:=HS0.o.trans s1;have hB1:w.heap.size<w1.heap.size:=(am0.1 bx).1;have hp:=h1.lt p h1.self;have fz:=(h1.cells).2.2.2 1;obtain⟨pb,hpb⟩:∃pb,eL x.b= .pointer pb:=⟨_,rfl⟩;have b0:w1.cell? ⟨w.heap.size,0,none⟩=some (.int .i64 x.left):=by rw[aG7 w1 _ 0 _ _ _ bx];rfl
 have b1:w1.cell? ⟨w.heap.size,1,none⟩=some (.int .i64 x.right):=by rw[aG7 w1 _ 1 _ _ _ bx];rfl
 have b2:w1.cell? ⟨w.heap.size,2,none⟩=some (.int .i64 x.height):=by rw[aG7 w1 _ 2 _ _ _ bx];rfl
 have b3:w1.cell? ⟨w.heap.size,3,none⟩=some (.int .i64 x.n):=by rw[aG7 w1 _ 3 _ _ _ bx];rfl
 have b4:w1.cell? ⟨w.heap.size,4,none⟩=some (.int .i64 x.ones):=by rw[aG7 w1 _ 4 _ _ _ bx];rfl
 have b5:w1.cell? ⟨w.heap.size,5,none⟩=some (.int .i64 x.ln):=by rw[aG7 w1 _ 5 _ _ _ bx];rfl
 have b6:w1.cell? ⟨w.heap.size,6,none⟩=some (.int .i64 x.lones):=by rw[aG7 w1 _ 6 _ _ _ bx];rfl
 have b7:w1.cell? ⟨w.heap.size,7,none⟩=some (.pointer pb):=by rw[aG7 w1 _ 7 _ _ _ bx,←hpb];rfl
 have H1:=θ h1;have S01:=θ hs01;have HPB:=θ hpb;have HO:Hid (w1.drew.ownsRow 0 221 8 (.slice ra xs.length rc) xs.length (cR xs)):=hown;have HONE:Hid (∀u∈[Value.int .i64 x.left, .int .i64 x.right, .int .i64 x.height, .int .i64 x.n, .int .i64 x.ones, .int .i64 x.ln, .int .i64 x.lones, .pointer pb],u.oneCell'=true):=by
  have h:=x.one;simp only[Nd.cells,hpb]at h;exact h
 have HNP:Hid (some p≠(Value.slice ra xs.length rc).ownBlock∧some w.heap.size≠(Value.slice ra xs.length rc).ownBlock):=by
  refine⟨fun e=>?_,fun e=>?_⟩
  ·exact h1.rowNe ⟨_,_,by rw[r1,(dT (gK hown)).1 e.symm]⟩
  ·have :=h1.rowC ⟨_,_,by rw[r1,(dT (gK hown)).1 e.symm]⟩;rcases s1.new _ this with e | e
   ·have :=HLT.o _ e;omega
   ·simp at e;omega
 have hpB:¬p=w.heap.size:=by
  rcases s1.new p h1.self with e | e
  ·have :=HLT.o p e;omega
  ·simp at e;omega
 clear h1 s1 bx hs01 hpb HS0 HLT hown;generalize w.heap.size=B0 at *;go_upto_region 3 with fail
 go_cut [5] (fun v wx=>v= .int .i64 xs.length∧∃C2,Head wx p C2 A.more (xs++[x]) root vis∧HStep w1 wx C1 C2);case first=>
  refine aE (fun w'=>w'.cell? ⟨B0,0,none⟩=some (.int .i64 x.left)∧w'.cell? ⟨B0,1,none⟩=some (.int .i64 x.right)∧w'.cell? ⟨B0,2,none⟩=some (.int .i64 x.height)∧w'.cell? ⟨B0,3,none⟩=some (.int .i64 x.n)∧w'.cell? ⟨B0,4,none⟩=some (.int .i64 x.ones)∧w'.cell? ⟨B0,5,none⟩=some (.int .i64 x.ln)∧w'.cell? ⟨B0,6,none⟩=some (.int .i64 x.lones)∧w'.cell? ⟨B0,7,none⟩=some (.pointer pb)) Ek ?hia (fun hh=>?_);case hia=>(refine⟨?_,?_,?_,?_,?_,?_,?_,?_⟩<;>go_simp)
  refine rt 0 hh ?_;refine rt 1 hh ?_;refine rt 2 hh ?_;refine rt 3 hh ?_;refine rt 5 hh ?_;refine aJ0 (rs:=[4,6]) Ek Es (qH rfl rfl (fun κ hK=>?_) (qH rfl rfl (fun κ hK=>?_) al7))
  ·go_simp;refine hK.out _ _ ?k1p (fun hNew=>?_);case k1p=>(refine⟨?_,?_,?_,?_,?_,?_,?_,?_⟩<;>go_simp)
   clear hK κ hh;have hh:=hNew;clear hNew;try simp only[pt]
   refine rg 6 fun κ hK=>?_;go_simp;refine hK.out _ _ ?k2p (fun hNew=>?_);case k2p=>(refine⟨?_,?_,?_,?_,?_,?_,?_,?_⟩<;>go_simp)
   clear hK κ hh;have hh:=hNew;clear hNew;try simp only[pt]
   refine rg 7 fun κ hK=>?_;refine Hr (w:=w1.drew) _ _ 216 rfl 0 221 Tryz.infoNode Tryz.underlying216 rfl _ _ _ rfl HO.o rfl rfl HONE.o (by unfold maxLen;omega) E (aC8 _) ?_;intro g cap w2 hown2 hgrow hor hgl;have u1:w2.cell? ⟨p,1,none⟩=some (.slice ra xs.length rc):=hgrow.cell (w:=w1.drew) r1 HNP.o.1;have u2:w2.frozen? ⟨p,1,none⟩=false:=(World.frozen?_of_block (hgrow.block p hp HNP.o.1)).trans fz;have v0:=hgrow.cell (w:=w1.drew) b0 HNP.o.2;have v1:=hgrow.cell (w:=w1.drew) b1 HNP.o.2;have v2:=hgrow.cell (w:=w1.drew) b2 HNP.o.2;have v3:=hgrow.cell (w:=w1.drew) b3 HNP.o.2;have v4:=hgrow.cell (w:=w1.drew) b4 HNP.o.2;have v5:=hgrow.cell (w:=w1.drew) b5 HNP.o.2;have v6:=hgrow.cell (w:=w1.drew) b6 HNP.o.2;have v7:=hgrow.cell (w:=w1.drew) b7 HNP.o.2;have hgr:∃C2,Head (w2.setCell ⟨p,1,none⟩ (.slice (some ⟨g,0,none⟩) (xs.length+1) cap)) p C2 A.more (xs++[x]) root vis∧HStep w1 (w2.setCell ⟨p,1,none⟩ (.slice (some ⟨g,0,none⟩) (xs.length+1) cap)) C1 C2:=by
    obtain⟨C2,q1,q2⟩:=H1.o.drew.grow (x:=x) (w':=w2) (g:=g) (cap:=cap) r1 (by rw[show x.cells=[Value.int .i64 x.left, .int .i64 x.right, .int .i64 x.height, .int .i64 x.n, .int .i64 x.ones, .int .i64 x.ln, .int .i64 x.lones, .pointer pb] by simp only[Nd.cells,HPB.o]];exact hown2) hgrow hor;exact⟨C2,q1,⟨(Chg.refl.drew).trans q2.chg (fun b hb=>Ei hb),q2.new⟩⟩
   have HGR:=θ hgr;clear hgr hown2 hgrow hor hgl;refine hK.out _ _ ?k3p (fun hNew=>?_);case k3p=>exact⟨v0,v1,v2,v3,v4,v5,v6,v7⟩
   clear hK κ hh;have hh:=hNew;clear hNew;try simp only[pt]
   refine rt 8 hh ?_;refine rt 9 hh ?_;refine rg 10 fun κ hK=>?_;go_simp;refine hK.out _ _ ?k4p (fun hNew=>?_);case k4p=>(refine⟨?_,?_,?_,?_,?_,?_,?_,?_⟩<;>go_simp)
   clear hK κ hh;have hh:=hNew;clear hNew;try simp only[pt]
   refine rz ?_;go_wp2_with fail;go_meet;case rel=>exact⟨rfl,HGR.o⟩
  ·go_simp;refine hK.out _ _ ?k1q (fun hNew=>?_);case k1q=>(refine⟨?_,?_,?_,?_,?_,?_,?_,?_⟩<;>go_simp)
   clear hK κ hh;have hh:=hNew;clear hNew;try simp only[pt]
   refine rg 4 fun κ hK=>?_;go_simp;refine hK.out _ _ ?k2q (fun hNew=>?_);case k2q=>(refine⟨?_,?_,?_,?_,?_,?_,?_,?_⟩<;>go_simp)
   clear hK κ hh;have hh:=hNew;clear hNew;try simp only[pt]
   refine rg 7 fun κ hK=>?_;refine Hr (w:=w1.drew) _ _ 216 rfl 0 221 Tryz.infoNode Tryz.underlying216 rfl _ _ _ rfl HO.o rfl rfl HONE.o (by unfold maxLen;omega) E (aC8 _) ?_;intro g cap w2 hown2 hgrow hor hgl;have u1:w2.cell? ⟨p,1,none⟩=some (.slice ra xs.length rc):=hgrow.cell (w:=w1.drew) r1 HNP.o.1;have u2:w2.frozen? ⟨p,1,none⟩=false:=(World.frozen?_of_block (hgrow.block p hp HNP.o.1)).trans fz;have v0:=hgrow.cell (w:=w1.drew) b0 HNP.o.2;have v1:=hgrow.cell (w:=w1.drew) b1 HNP.o.2;have v2:=hgrow.cell (w:=w1.drew) b2 HNP.o.2;have v3:=hgrow.cell (w:=w1.drew) b3 HNP.o.2;have v4:=hgrow.cell (w:=w1.drew) b4 HNP.o.2;have v5:=hgrow.cell (w:=w1.drew) b5 HNP.o.2;have v6:=hgrow.cell (w:=w1.drew) b6 HNP.o.2;have v7:=hgrow.cell (w:=w1.drew) b7 HNP.o.2;have hgr:∃C2,Head (w2.setCell ⟨p,1,none⟩ (.slice (some ⟨g,0,none⟩) (xs.length+1) cap)) p C2 A.more (xs++[x]) root vis∧HStep w1 (w2.setCell ⟨p,1,none⟩ (.slice (some ⟨g,0,none⟩) (xs.length+1) cap)) C1 C2:=by
    obtain⟨C2,q1,q2⟩:=H1.o.drew.grow (x:=x) (w':=w2) (g:=g) (cap:=cap) r1 (by rw[show x.cells=[Value.int .i64 x.left, .int .i64 x.right, .int .i64 x.height, .int .i64 x.n, .int .i64 x.ones, .int .i64 x.ln, .int .i64 x.lones, .pointer pb] by simp only[Nd.cells,HPB.o]];exact hown2) hgrow hor;exact⟨C2,q1,⟨(Chg.refl.drew).trans q2.chg (fun b hb=>Ei hb),q2.new⟩⟩
   have HGR:=θ hgr;clear hgr hown2 hgrow hor hgl;refine hK.out _ _ ?k3q (fun hNew=>?_);case k3q=>exact⟨v0,v1,v2,v3,v4,v5,v6,v7⟩
   clear hK κ hh;have hh:=hNew;clear hNew;try simp only[pt]
   refine rt 8 hh ?_;refine rt 9 hh ?_;refine rg 10 fun κ hK=>?_;go_simp;refine hK.out _ _ ?k4q (fun hNew=>?_);case k4q=>(refine⟨?_,?_,?_,?_,?_,?_,?_,?_⟩<;>go_simp)
   clear hK κ hh;have hh:=hNew;clear hNew;try simp only[pt]
   refine rz ?_;go_wp2_with fail;go_meet;case rel=>exact⟨rfl,HGR.o⟩
 case rest=>
  obtain⟨rfl,C2,h2,s2⟩:=hcut;have hs2:=S01.out.trans s2;have hlt:∀j:Nat,A.T[j]? =some true→j<xs.length:=fun j hj=>by rw[HL.o];exact(ar5.1 hj).1
  have HLT:=θ hlt;have HFF:=θ (HF.o wc C2 (xs++[x]) h2 hs2 Es (fun j hj=>aq9 (hlt j hj)));have H2:=θ h2;have HS2:=θ hs2;clear h2 s2 hs2 HF hlt b0 b1 b2 b3 b4 b5 b6 b7 hB1 hpB r1 hp fz;go_wp2_with fail;refine HFF.o.mono ?_;rintro e w3 ⟨rfl,h3,c3⟩;have H3:=θ h3;have C3:=θ c3;clear h3 c3;go_wp2_with fail;go_ret;refine⟨⟨xs.length,C2,A.more,_,rfl,H3.o,HS2.o.trans ⟨H2.o.chgRow C3.out,fun j hj=>Ei hj⟩,?_,aS (x:=x) Es,?_,fun j hj=>⟨?_,?_⟩,?_,?_,rfl,fun hF=>by first | exact hF | (show A.F.dropLast=[];rw[hF];rfl)⟩⟩
  ·rw[at4,as6,HL.o];simp[Ar.more]
  ·rw[ar4 (by rw[HL.o];exact aA5 _)];simp
  ·rw[aG (by have :=HLT.o j hj;omega),aq9 (HLT.o j hj)]
  ·show (A.T++[true])[j]? =some true;rw[aq9 (ar5.1 hj).1];exact hj
  ·show (A.T++[true])[xs.length]? =some true;rw[HL.o];simp
  ·have e2:=HK.o;show (A.T++[true]).length-A.F.length=A.T.length-A.F.length+1;rw[e2];simp
theorem Ar.Ok.live_len {a:Ar}(h:a.Ok):a.T.length≤268435456:=aA6 h.le h.max
theorem Head.arOk {w:World}{p:Nat}{C:Nat→Prop}{A:Ar}{xs:List Nd}{root vis:Int}(h:Head w p C A xs root vis):A.Ok:=by
 obtain⟨ap,SA,_,hA,_,_⟩:=h.arena;exact hA.ok
theorem Cj{w:World}{p:Nat}{C:Nat→Prop}{A:Ar}{xs:List Nd}{root vis:Int}(h:Head w p C A xs root vis)(hlen:xs.length=A.T.length)(hlive:A.live<A.M)(x y:Nd)
  (hfix:∀(w1:World) (C1:Nat→Prop) (A1:Ar) (xs1:List Nd) (k:Nat),Head w1 p C1 A1 xs1 root vis→HStep w w1 C C1→xs1[k]? =some x→(∀j:Nat,A.T[j]? =some true→xs1[j]? =xs[j]?)→
   Calls Tryz.prog 245 #[.pointer (some ⟨p,0,none⟩), .int .i64 k] w1 fun e w'=>e= .returned (.tuple #[])∧Head w' p C1 A1 (xs1.set k y) root vis∧Chg (RowB w1 p) w1 w'):
  Calls Tryz.prog 248 #[.pointer (some ⟨p,0,none⟩), .agg x.cells.toArray] w fun e w'=>NodePost w w' p C A xs root vis y e:=by
 cases hF:A.F.getLast? with
 | some k=>exact Ux h hlen hlive x y hF (fun w1 C1 xs1 a b c d=>hfix w1 C1 _ xs1 k a b c d)
 | none=>exact Oy h hlen hlive x y (List.getLast?_eq_none_iff.1 hF) h.arOk.live_len (fun w1 C1 xs1 a b c d=>hfix w1 C1 _ xs1 xs.length a b c d)
theorem oX{w:World}{p:Nat}{C:Nat→Prop}{A:Ar}{xs:List Nd}{root vis:Int}(h:Head w p C A xs root vis)(hlen:xs.length=A.T.length)(hlive:A.live<A.M){q:Nat}{l:List Bool}(hq:IsBlock w q l):
  Calls Tryz.prog 236 #[.pointer (some ⟨p,0,none⟩), .pointer (some ⟨q,0,none⟩)] w fun e w'=>NodePost w w' p C A xs root vis (TT.leaf 0 q l).nd e:=by
 have HN:=θ (Cj h hlen hlive ⟨-1,-1,0,0,0,0,0,some q⟩ (TT.leaf 0 q l).nd (fun w1 C1 A1 xs1 k h1 s1 hk _=>by
  have hq1:IsBlock w1 q l:=hq.chg s1.chg (h.notBlk hq.type)
  exact fP h1 hk rfl hq1))
 clear h hlen hlive hq;go_enter Tryz.func236,Tryz.ntmps236;go_wp2_with fail;refine HN.o.mono ?_;rintro e w' hP;obtain⟨k,C',A',xs',rfl,rest⟩:=hP.ex;have HR:=θ rest;clear rest hP;go_wp2_with fail;go_ret;exact⟨⟨k,C',A',xs',rfl,HR.o⟩⟩
theorem sT{w:World}{p:Nat}{C:Nat→Prop}{A:Ar}{xs:List Nd}{root vis:Int}(h:Head w p C A xs root vis)(hlen:xs.length=A.T.length)(hlive:A.live<A.M){a b:TT}(ha:Sub w xs a)(hb:Sub w xs b)
  (ta:∀j∈a.nums,A.T[j]? =some true) (tb:∀j∈b.nums,A.T[j]? =some true) (s1:Small a.st) (s2:Small b.st):
  Calls Tryz.prog 241 #[.pointer (some ⟨p,0,none⟩), .int .i64 a.num, .int .i64 b.num] w fun e w'=>NodePost w w' p C A xs root vis (TT.pair 0 a b).nd e:=by
 have HN:=θ (Cj h hlen hlive ⟨a.num,b.num,0,0,0,0,0,none⟩ (TT.pair 0 a b).nd (fun w1 C1 A1 xs1 k h1 g1 hk hkeep=>
  jJ (k:=k) h1 hk rfl rfl rfl (ha.chgC h g1.chg (fun j hj=>hkeep j (ta j hj))) (hb.chgC h g1.chg (fun j hj=>hkeep j (tb j hj))) s1 s2))
 obtain⟨na,hna⟩:∃na,a.num=na:=⟨_,rfl⟩;obtain⟨nb,hnb⟩:∃nb,b.num=nb:=⟨_,rfl⟩;have HP:Hid ((⟨a.num,b.num,0,0,0,0,0,none⟩:Nd)=⟨na,nb,0,0,0,0,0,none⟩):=by rw[hna,hnb];rfl
 rw[HP.o]at HN;rw[hna,hnb];clear h hlen hlive ha hb ta tb s1 s2 hna hnb HP;go_enter Tryz.func241,Tryz.ntmps241;go_wp2_with fail;refine HN.o.mono ?_;rintro e w' hP;obtain⟨k,C',A',xs',rfl,rest⟩:=hP.ex;have HR:=θ rest;clear rest hP;go_wp2_with fail;go_ret;exact⟨⟨k,C',A',xs',rfl,HR.o⟩⟩
structure Own (A:Ar) (T:TT):Prop where
 nn:T.nums.Nodup
 bn:T.bl.Nodup
 tk:∀j∈T.nums,A.T[j]? =some true
theorem Own.l {A:Ar}{k:Nat}{a b:TT}(h:Own A (.pair k a b)):Own A a:=by
 obtain⟨_,_,h3,_,_⟩:=TT.dis h.nn;have :=h.bn;simp only[TT.bl,ax6]at this;exact⟨h3,this.1,fun j hj=>h.tk j (TT.mem_l hj)⟩
theorem Own.r {A:Ar}{k:Nat}{a b:TT}(h:Own A (.pair k a b)):Own A b:=by
 obtain⟨_,_,_,h4,_⟩:=TT.dis h.nn;have :=h.bn;simp only[TT.bl,ax6]at this;exact⟨h4,this.2.1,fun j hj=>h.tk j (TT.mem_r hj)⟩
structure SubPost (w w':World) (p:Nat) (C:Nat→Prop) (A:Ar) (xs:List Nd) (root vis:Int) (T T':TT) (C':Nat→Prop) (A':Ar) (xs':List Nd) (v':Int):Prop where
 head:Head w' p C' A' xs' root v'
 sub:Sub w' xs' T'
 own:Own A' T'
 len:xs'.length=A'.T.length
 newC:∀j,C' j→C j∨w.heap.size≤j
 newB:∀q∈T'.bl,q∈T.bl∨w.heap.size≤q
 keep:∀j:Nat,A.T[j]? =some true→j∉T.nums→xs'[j]? =xs[j]? ∧A'.T[j]? =some true∧j∉T'.nums
 live:A'.live+T.st.size=A.live+T'.st.size
 max:A'.M=A.M
 vis:vis≤v'∧v'≤vis+7*T.st.high+2
 chg:Chg (fun j=>C j∨j∈T.bl) w w'
def sZ(w w':World)(p:Nat)(C:Nat→Prop)(A:Ar)(xs:List Nd)(root vis:Int)(T:TT)(k:Nat)(b:Bool)(e:Ending):Prop:=
 ∃T' C' A' xs' v',e= .returned (.int .i64 T'.num)∧SubPost w w' p C A xs root vis T T' C' A' xs' v'∧T'.st=cT T.st k b
theorem Ur{w:World}{p:Nat}{C:Nat→Prop}{A:Ar}{xs:List Nd}{root vis:Int}(h:Head w p C A xs root vis)(hlen:xs.length=A.T.length)(hv0:0≤vis)(hv:vis≤100000000000){kn q:Nat}{l:List Bool}(hS:Sub w xs (.leaf kn q l))
  (hO:Own A (.leaf kn q l)) (hl:l.length<128) (k:Nat) (hk:k≤l.length) (b:Bool):
  Calls Tryz.prog 237 #[.pointer (some ⟨p,0,none⟩), .int .i64 kn, .int .i64 k, .bool b] w fun e w'=>sZ w w' p C A xs root vis (.leaf kn q l) k b e:=by
 have hx:=hS.root;change xs[kn]? =some (TT.leaf kn q l).nd at hx;obtain⟨g,rc,cur,c1,hgp,_⟩:=h.row (by have :=(ar5.1 hx).1;omega);obtain⟨_,_,hkx,_⟩:=h.node c1 hx;obtain⟨a0,a1,a2,a3,a4,a5,a6,a7⟩:=h.eight c1 hx;obtain⟨_,_,cv,fz⟩:=h.cells;have f3:=fz 3;have hp:=h.lt p h.self;have hg:=aF8 w _ a0;simp only[TT.nd,eL,aD3]at a0 a1 a2 a3 a4 a5 a6 a7;have hq:=hS.2;have hqC:¬C q:=h.notBlk hq.type;have HW:Hid (∀v o,IsBlock ((w.setCell ⟨p,3,none⟩ v).alloc o) q l):=fun v o=>hq.chg ((Chg.refl.setCell ⟨p,3,none⟩ (Ei h.self) v).alloc o) hqC;have HH3:Hid (∀o,Head ((w.setCell ⟨p,3,none⟩ (.int .i64 (vis+1))).alloc o) p C A xs root (vis+1)):=fun o=>(h.set3 (vis+1)).below (aN _ _);have HG:Hid (∀o,Chg C w ((w.setCell ⟨p,3,none⟩ (.int .i64 (vis+1))).alloc o)):=fun o=>(h.chg3 _ 3).alloc o;have d1:((l.length:Int)==128)=false:=by rw[aG5];omega
 have HX:=θ hx;have HQC:=θ hqC;have HO:=θ hO;have HL:=θ hlen;clear h fz hx hS hq hqC hO hlen;go_enter Tryz.func237,Tryz.ntmps237;go_wp2_with fail;refine(xS (HW.o _ _)).mono ?_;rintro e w2 ⟨rfl,rfl⟩;go_wp2_with fail;refine(rS (HW.o _ _) hl k hk b).mono ?_;rintro e w3 ⟨rfl,hb3,c3⟩;have h3:=(HH3.o _).chg c3 (fun j hj e=>HQC.o (e▸hj));have g3:Chg (fun j=>C j∨j∈(TT.leaf kn q l).bl) w w3:=((HG.o _).mono (fun j hj=>Ei hj)).trans c3 (fun j e=>Ei (Ej (by simp[TT.bl,e])));have HF:=θ (fP h3 HX.o rfl hb3);have H3:=θ h3;have G3:=θ g3;have HB3:=θ hb3;clear h3 g3 hb3 c3;go_wp2_with fail;refine HF.o.mono ?_;rintro e w4 ⟨rfl,h4,g4⟩;have H4:=θ h4;have G4:=θ g4;clear h4 g4;go_wp2_with fail;go_ret;refine⟨.leaf kn q (inL l k b),C,A,_,_,rfl,⟨H4.o,⟨aS HX.o,?_⟩,⟨HO.o.nn,HO.o.bn,HO.o.tk⟩,?_,fun j hj=>Ei hj,fun j hj=>Ei hj,fun j h1 h2=>⟨?_,h1,h2⟩,rfl,rfl,?_,?_⟩,?_⟩
 ·exact HB3.o.chg (H3.o.chgRow G4.out) (H3.o.notBlk HB3.o.type)
 ·rw[at4];exact HL.o
 ·exact aG (by rintro rfl;exact h2 (by simp[TT.nums]))
 ·exact⟨E,by simp only[TT.st,ST.high];omega⟩
 ·exact G3.out.trans (H3.o.chgRow G4.out) (fun j hj=>Ei (Ei hj))
 ·simp only[TT.st,cT];rw[aH8 E]
end
end Go.Proofs.YtchinbgemenenaaGreatDoor
