/- Lemmas and contracts under the claims of this seat. No condition. -/
import Derived.Shelf.Small.Bits
import Derived.Shelf.Small.Wraps
import Derived.Shelf.Strconv.Itoa0
import Derived.Shelf.Sort.Plain
import Derived.Shelf.Slices.Reverse
import Derived.Shelf.Slices.Equal
import Derived.Ground.Names2Prog
import Derived.Shelf.Slices.Clone
import Derived.Shelf.Slices.SearchI
import Derived.Shelf.Slices.Delete
import Derived.Shelf.Slices.Cells
import Derived.Shelf.Slices.In.SortNone
import Derived.Shelf.Slices.Empties
import Derived.Shelf.Slices.Empties2
import Derived.Shelf.Bytes.SlSearch0
import Derived.Ground.SlgfProg
import Derived.Shelf.SlicesE.IndexFunc
import Derived.Ground.SlsfProg
import Derived.Shelf.SlSortCmp.Insertion
import Derived.Shelf.SlSortCmp.SiftDown1
import Derived.Shelf.SlSortCmp.HeapSort1
import Derived.Shelf.SlSortCmp.Insertion1
import Derived.Shelf.SlSortCmp.Median1
import Derived.Shelf.SlSortCmp.Pivot1
import Derived.Shelf.SlSortCmp.ReverseRange1
import Derived.Shelf.SlSortCmp.PartialInsertion1
import Derived.Shelf.SlSortCmp.PartitionEqual1
import Derived.Shelf.SlSortCmp.Partition1
import Derived.Shelf.SlSortCmp.Pdq1
import Derived.Shelf.SlSortCmp.Whole1
import Derived.Shelf.SlSortCmp.NoneTotal
import Derived.Shelf.Bytes.SlEqualAll
import Derived.Shelf.Bytes.Small
import Derived.Test.YtchinbgemenenaaGreatDoorProg
import Derived.WalkKit
import Derived.WalkLawsBesides
import Derived.Lib.Hide
import Derived.Lib.RabinKarpLaws
import Derived.Deep.MidRow
import Derived.IntWalk
import Derived.Test.YtchinbgemenenaaGreatDoorZr1
import Derived.Test.YtchinbgemenenaaGreatDoorZr2
import Derived.Test.YtchinbgemenenaaGreatDoorZr7
namespace Go.Proofs.YtchinbgemenenaaGreatDoor
set_option linter.unusedVariables false
set_option linter.unusedSimpArgs false
set_option maxRecDepth 100000
set_option maxHeartbeats 12800000
section
open Go.Shelf
def Tryz.lays122_ren:Go.Shelf.Ren:=⟨fun | 122=>150 | 215=>204 | n=>n,fun | 3=>3 | 4=>4 | n=>n,fun | n=>n⟩
theorem Tryz.lays122:Go.Proofs.Lays.n122 Tryz.prog Tryz.lays122_ren:={
 mixed:=Ek
 f122:=Tryz.func150.trans (aG8 some Ek)
 f215:=Tryz.func204.trans (aG8 some Ek)
 t3:=aE8
 a3:=aD9
 z3:=aE3
 v3:=aF5
 t4:=aF1
 a4:=aE0
 z4:=aE5
 v4:=aF7}
open Go.RowKit in
theorem Tryz.cmp_Compare_int (x y:Int)(w:World):
  Calls Tryz.prog 150 #[.int .i64 x, .int .i64 y] w fun e w'=>e= .returned (.int .i64 (Lib.compareInt x y))∧w'=w:=Any.cmp_Compare_int Tryz.lays122 x y w
open Go.RowKit Go.Lib Go.Sort in
open Go.RowKit Go.Lib Go.Sort in
open Go.RowKit Go.Lib Go.Sort in
open Go.RowKit Go.Lib in
open Go.RowKit Go.Lib in
def Tryz.laysNm215_ren:Go.Shelf.Ren:=⟨fun | 15=>92 | n=>n,fun | 22=>36 | 3=>3 | 4=>4 | n=>n,fun | n=>n⟩
theorem Tryz.laysNm215:Go.Proofs.Lays2.n15 Tryz.prog Tryz.laysNm215_ren:={
 mixed:=Ek
 f15:=Tryz.func92.trans (aG8 some Ek)
 t3:=aE8
 a3:=aD9
 z3:=aE3
 v3:=aF5
 t4:=aF1
 a4:=aE0
 z4:=aE5
 v4:=aF7
 t22:=aF0
 a22:=Tryz.isAgg36
 z22:=aE4
 v22:=aF6
 i3:=by kernel_rfl}
open Go.RowKit Go.Lib in
theorem Tryz.slices_Clone_int (b off n c:Nat)(zs:List Int)(w:World)(hz:n≤zs.length)(hbig:n*8≤140737488355328)(hc:∀j,j<zs.length→w.cell? ⟨b,off+j,none⟩=some (.int .i64 (zs.getD j 0))):
  Calls Tryz.prog 92 #[.slice (some ⟨b,off,none⟩) n c] w fun e w'=>∃v',e= .returned v'∧w'.ownsRow w.heap.size 3 1 v' n ((zs.take n).map (Value.int .i64))∧v'≠ .slice none 0 0∧Below w.heap.size w w':=Any.slices_Clone_int Tryz.laysNm215 b off n c zs w hz hbig hc
open Go.RowKit Go.Lib in
open Go.RowKit Go.Lib in
def Tryz.laysNm223_ren:Go.Shelf.Ren:=⟨fun | 23=>214 | n=>n,fun | 22=>36 | 3=>3 | 4=>4 | 0=>0 | n=>n,fun | n=>n⟩
theorem Tryz.laysNm223:Go.Proofs.Lays2.n23 Tryz.prog Tryz.laysNm223_ren:={
 mixed:=Ek
 f23:=Tryz.func214.trans (aG8 some Ek)
 t0:=aE6
 a0:=Tryz.isAgg0
 z0:=Tryz.sizeOf0
 v0:=aF4
 t3:=aE8
 a3:=aD9
 z3:=aE3
 v3:=aF5
 t4:=aF1
 a4:=aE0
 z4:=aE5
 v4:=aF7
 t22:=aF0
 a22:=Tryz.isAgg36
 z22:=aE4
 v22:=aF6
 i3:=by kernel_rfl}
open Go.RowKit Go.Lib Go.Sort in
open Go.RowKit Go.Lib Go.Sort in
open Go.RowKit Go.Lib Go.Sort in
open Go.RowKit Go.Lib Go.Sort in
theorem Tryz.slices_Delete_int_cells (b off n c i j:Nat)(zs:List Int)(w:World)(hz:n≤zs.length)(hcap:n≤c)(hm:c≤9223372036854775807)(hij:i≤j)(hj:j≤n)(hc:∀j,j<zs.length→w.cell? ⟨b,off+j,none⟩=some (.int .i64 (zs.getD j 0)))(hf:∀j,j<n→w.frozen? ⟨b,off+j,none⟩=false):
  Calls Tryz.prog 214 #[.slice (some ⟨b,off,none⟩) n c, .int .i64 i, .int .i64 j] w fun e w'=>e= .returned (.slice (some ⟨b,off,none⟩) (n-(j-i)) c)∧∃q,w'=(w.drewN q).setCells b off (((zs.take n).take i++(zs.take n).drop j++List.replicate (j-i) 0).map (Value.int .i64)):=Any.slices_Delete_int_cells Tryz.laysNm223 b off n c i j zs w hz hcap hm hij hj hc hf
open Go.RowKit Go.Lib in
open Go.RowKit Go.Lib in
open Go.Proofs Go.RowKit Go.Lib in
def Tryz.laysSlF6_f95_ren:Go.Shelf.Ren:=⟨fun | 6=>95 | 15=>131 | 14=>147 | 28=>190 | 29=>191 | 20=>196 | 21=>197 | 22=>198 | 23=>199 | 24=>200 | 25=>201 | 26=>202 | 27=>203 | 46=>227 | 47=>221 | 48=>222 | 49=>228 | 50=>229 | 57=>242 | n=>n,fun | 22=>36 | 24=>3 | 25=>98 | 3=>3 | 39=>23 | 0=>0 | 53=>74 | 55=>69 | 4=>4 | 46=>207 | 45=>206 | 50=>149 | 5=>5 | 9=>9 | 66=>231 | 70=>235 | 76=>249 | 77=>104 | n=>n,fun | n=>n⟩
theorem Tryz.laysSlF6_f95:Go.Proofs.SlLaysF.n6 Tryz.prog Tryz.laysSlF6_f95_ren:={
 mixed:=Ek
 f6:=⟨Tryz.f95.name,Ed,Tryz.func95.trans (aG8 some Ek)⟩
 f14:=⟨Tryz.f147.name,Ed,Tryz.func147.trans (aG8 some Ek)⟩
 f15:=Tryz.func131.trans (aG8 some Ek)
 f20:=⟨Tryz.f196.name,Ed,Tryz.func196.trans (aG8 some Ek)⟩
 f21:=⟨Tryz.f197.name,Ed,Tryz.func197.trans (aG8 some Ek)⟩
 f22:=⟨Tryz.f198.name,Ed,Tryz.func198.trans (aG8 some Ek)⟩
 f23:=⟨Tryz.f199.name,Ed,Tryz.func199.trans (aG8 some Ek)⟩
 f24:=⟨Tryz.f200.name,Ed,Tryz.func200.trans (aG8 some Ek)⟩
 f25:=⟨Tryz.f201.name,Ed,Tryz.func201.trans (aG8 some Ek)⟩
 f26:=⟨Tryz.f202.name,Ed,Tryz.func202.trans (aG8 some Ek)⟩
 f27:=⟨Tryz.f203.name,Ed,Tryz.func203.trans (aG8 some Ek)⟩
 f28:=Tryz.func190.trans (aG8 some Ek)
 f29:=Tryz.func191.trans (aG8 some Ek)
 f46:=⟨Tryz.f227.name,Ed,Tryz.func227.trans (aG8 some Ek)⟩
 f47:=Tryz.func221.trans (aG8 some Ek)
 f48:=Tryz.func222.trans (aG8 some Ek)
 f49:=⟨Tryz.f228.name,Ed,Tryz.func228.trans (aG8 some Ek)⟩
 f50:=⟨Tryz.f229.name,Ed,Tryz.func229.trans (aG8 some Ek)⟩
 f57:=⟨Tryz.f242.name,Ed,Tryz.func242.trans (aG8 some Ek)⟩
 t0:=aE6
 a0:=Tryz.isAgg0
 z0:=Tryz.sizeOf0
 v0:=aF4
 t3:=aE8
 a3:=aD9
 z3:=aE3
 v3:=aF5
 t4:=aF1
 a4:=aE0
 z4:=aE5
 v4:=aF7
 t5:=aF2
 a5:=Tryz.isAgg5
 z5:=Tryz.sizeOf5
 v5:=Tryz.zeroValue5
 t9:=aF3
 a9:=Tryz.isAgg9
 z9:=Tryz.sizeOf9
 v9:=Tryz.zeroValue9
 t22:=aF0
 a22:=Tryz.isAgg36
 z22:=aE4
 v22:=aF6
 a24:=aD9
 z24:=aE3
 t25:=Tryz.underlying98
 a25:=Tryz.isAgg98
 z25:=Tryz.sizeOf98
 v25:=Tryz.zeroValue98
 t39:=Tryz.underlying23
 a39:=Tryz.isAgg23
 z39:=Tryz.sizeOf23
 v39:=Tryz.zeroValue23
 t45:=Tryz.underlying206
 a45:=Tryz.isAgg206
 z45:=Tryz.sizeOf206
 v45:=Tryz.zeroValue206
 t46:=Tryz.underlying207
 a46:=Tryz.isAgg207
 z46:=Tryz.sizeOf207
 v46:=Tryz.zeroValue207
 t50:=Tryz.underlying149
 a50:=Tryz.isAgg149
 z50:=Tryz.sizeOf149
 v50:=Tryz.zeroValue149
 t53:=Tryz.underlying74
 a53:=Tryz.isAgg74
 z53:=Tryz.sizeOf74
 v53:=Tryz.zeroValue74
 t55:=Tryz.underlying69
 a55:=Tryz.isAgg69
 z55:=Tryz.sizeOf69
 v55:=Tryz.zeroValue69
 t66:=Tryz.underlying231
 a66:=Tryz.isAgg231
 z66:=Tryz.sizeOf231
 v66:=Tryz.zeroValue231
 t70:=Tryz.underlying235
 a70:=Tryz.isAgg235
 z70:=Tryz.sizeOf235
 v70:=Tryz.zeroValue235
 t76:=Tryz.underlying249
 a76:=Tryz.isAgg249
 z76:=Tryz.sizeOf249
 v76:=Tryz.zeroValue249
 t77:=Tryz.underlying104
 a77:=Tryz.isAgg104
 z77:=Tryz.sizeOf104
 v77:=Tryz.zeroValue104}
open Go.RowKit Go.Lib Go.Sort in
open Go.RowKit Go.Lib Go.Sort in
theorem Tryz.slices_SortFunc {α:Type}[Inhabited α](enc:α→Value)(h1:OneCell enc)(cf:α→α→Int)(hO:SWO (ltOf cf))(g:Nat)(cb:Array Value)(blk off cap:Nat)(d:Array α)(w:World)(eg:∀args w,(callFunc g args).run Tryz.prog w= .ok (.enter g args) w)(hcmp:CmpLays1 Tryz.prog g cb enc cf blk off d.size w)(hH:Holds enc w blk off d)(hblk:blk<w.heap.size)(hsz:d.size<4611686018427387904):
  Calls Tryz.prog 95 #[.slice (some ⟨blk,off,none⟩) d.size cap, .func (.func g) #[] cb] w fun e w'=>
   e= .returned (.tuple #[])∧∃d' n os,PermIn 0 d.size d d'∧SortedIn (ltOf cf) 0 d.size d'∧w'=sortWorld enc w blk off n d' os:=Any.slices_SortFunc Tryz.laysSlF6_f95 enc h1 cf hO g cb blk off cap d w eg hcmp hH hblk hsz
open Go.RowKit Go.Lib Go.Sort in
open Go.RowKit Go.Lib Go.Sort in
end
section
open Go.RowKit
theorem dX{α:Type}[Inhabited α](enc:α→Value)(w:World)(blk m:Nat)(dk:Array α)(os:Array Obj):Chg (fun b=>b=blk) w (sortWorld enc w blk 0 m dk os):=by
 refine⟨rfl,rfl,rfl,?_,fun k hk hn=>?_⟩
 ·show w.heap.size≤((w.heap.modify blk _)++os).size;simp
 ·show ((w.heap.modify blk _)++os)[k]? =w.heap[k]?;rw[Array.getElem?_append_left (by simpa using hk),Array.getElem?_modify,if_neg (fun e=>hn e.symm)]
theorem iM{α:Type}[Inhabited α](enc:α→Value){w:World}{blk n cap base:Nat}{e:TypeId}{xs:List Value}(h:w.ownsRow base e 1 (.slice (some ⟨blk,0,none⟩) n cap) n xs)(m:Nat)(dk:Array α)(os:Array Obj)(hd:dk.size=n):
  (sortWorld enc w blk 0 m dk os).ownsRow base e 1 (.slice (some ⟨blk,0,none⟩) n cap) n (dk.toList.map enc):=by
 obtain⟨h1,h2⟩:=h;refine⟨by simp[hd],?_⟩;rcases h2 with ⟨h,_⟩ | ⟨g',cap',cur,hv,hb,hg,hc,hm,hs,ht⟩
 ·cases h
 ·injection hv with e1 e2 e3
  simp only[aD4,Addr.mk.injEq,and_true]at e1;subst e1;subst e3;refine .inr ⟨blk,cap,Go.Sort.putCells enc 0 dk cur,rfl,hb,?_,hc,hm,by simpa[Go.Sort.putCells]using hs,?_⟩
  ·show ((w.heap.modify blk _)++os)[blk]? =_;have hlt:=(am0.1 hg).1;rw[Array.getElem?_append_left (by simpa using hlt),Array.getElem?_modify,if_pos rfl,hg];rfl
  ·apply aq3;intro i;rw[ar9];by_cases hi:i<n
   ·rw[aH9 E,am1,Go.Sort.putCells,Array.getElem?_mapIdx,Array.getElem?_eq_getElem E];simp[hd,hi,show i<dk.size by omega]
   ·rw[aH8 E,ar4 (by simp;omega)]
def bG(x:Nat):Value:= .int .i64 (x:Int)
theorem RkAt.chg {w w':World}{S:Nat→Prop}{bw bn br g cap wide:Nat}{rk:List Int}(h:RkAt w bw bn br g cap wide rk)(hc:Chg S w w')(h1:¬S bw)(h2:¬S bn)(h3:¬S br)(h4:¬S g):RkAt w' bw bn br g cap wide rk:=
 ⟨hc.cell h.wide h1,hc.cell h.n h2,hc.cell h.row h3,fun i hi=>hc.cell (h.rd i hi) h4⟩
theorem Ty{B:Nat}{w:World}{bw bn br bf g cap wide qr capr:Nat}{l rk:List Int}{r:List Nat}(h:RkAt w bw bn br g cap wide rk)
  (hf:w.cell? ⟨bf,0,none⟩=some (.func (.func 93) #[] #[.pointer (some ⟨bw,0,none⟩), .pointer (some ⟨bn,0,none⟩), .pointer (some ⟨br,0,none⟩)]))
  (hrk:RankOf l wide rk) (hp:r.Perm (List.range l.length)) (hown:w.ownsRow B 3 1 (.slice (some ⟨qr,0,none⟩) r.length capr) r.length (r.map bG))
  (hq:bw≠qr∧bn≠qr∧br≠qr∧bf≠qr∧g≠qr) (h0:0<l.length) (hl:l.length≤1000000000) (hw:wide≤1000000000) (hr:∀i,-1≤sy rk i∧sy rk i≤1000000000):
  Calls Tryz.prog 95 #[.slice (some ⟨qr,0,none⟩) r.length capr, .func (.func 94) #[] #[.pointer (some ⟨br,0,none⟩), .pointer (some ⟨bf,0,none⟩)]] w
   fun e w'=>e= .returned (.tuple #[])∧∃r':List Nat,mG l (wide+wide) r'∧r'.length=r.length∧w'.ownsRow B 3 1 (.slice (some ⟨qr,0,none⟩) r.length capr) r.length (r'.map bG)∧Chg (fun b=>b=qr) w w':=by
 have hrl:r.length=l.length:=by have :=hp.length_eq;simpa using this
 have hin:∀x∈r,x<l.length:=fun x hx=>ax4.1 (hp.mem_iff.1 hx)
 letI:Inhabited (Fin l.length):=⟨⟨0,h0⟩⟩
 let d:Array (Fin l.length):=(r.attach.map fun x=>⟨x.1,hin x.1 x.2⟩).toArray
 have hdv:d.toList.map Fin.val=r:=by
  show (r.attach.map _).map _=r;rw[av0];exact ao9 r
 have hds:d.size=r.length:=by rw[←Array.length_toList,←at1 (f:=Fin.val),hdv]
 have henc:d.toList.map (fun x:Fin l.length=>bG x.1)=r.map bG:=by
  have e:=aG8 (List.map bG) hdv;rw[av0]at e;exact e
 have hqlt:=(bX hown (k:=qr) rfl).2;have hH:Go.Sort.Holds (fun x:Fin l.length=>bG x.1) w qr 0 d:=by
  intro j hj;obtain⟨g',cap',hv,_,_,_,_,hcell,hfr⟩:=cL hown E;injection hv with e1 _ _
  injection e1 with e1
  injection e1 with e1 _ _
  subst e1;refine⟨?_,hfr _⟩;rw[aC7,hcell j E,←henc,ar6];simp[hj]
 have hcmp:CmpLays1 Tryz.prog 94 #[.pointer (some ⟨br,0,none⟩), .pointer (some ⟨bf,0,none⟩)] (fun x:Fin l.length=>bG x.1) (fun x y=>fR rk wide x.1 y.1) qr 0 d.size w:=by
  intro m os dk _ x y;have hc:=dX (fun x:Fin l.length=>bG x.1) w qr m dk os;have hx:x.1<rk.length:=by have :=x.2;have :=hrk.len;omega
  have hy:y.1<rk.length:=by have :=y.2;have :=hrk.len;omega
  refine(Bo (h.chg hc hq.1 hq.2.1 hq.2.2.1 hq.2.2.2.2) (hc.cell hf hq.2.2.2.1) x.1 y.1 hx hy (by rw[hrk.len];exact hl) hw hr).mono ?_;rintro e w' ⟨rfl,n,rfl⟩;exact⟨rfl,n,#[],by rw[Go.Sort.grow_empty]⟩
 have hlt:∀x y:Fin l.length,ltOf (fun x y:Fin l.length=>fR rk wide x.1 y.1) x y=true↔ltK l (wide+wide) x.1 y.1:=fun x y=>by
  unfold ltOf;rw[aH2,af8 hrk]
 have hltf:∀x y:Fin l.length,ltOf (fun x y:Fin l.length=>fR rk wide x.1 y.1) x y=false↔¬ltK l (wide+wide) x.1 y.1:=fun x y=>by
  rw[←hlt,am7]
 have hO:Go.Sort.SWO (ltOf (fun x y:Fin l.length=>fR rk wide x.1 y.1)):=
  ⟨fun x=>(hltf x x).2 iB,fun x y z a b=>(hlt x z).2 (lI ((hlt x y).1 a) ((hlt y z).1 b)),fun x y z a b=>(hltf x z).2 (fun k=>by
   rcases tD l (wide+wide) x.1 y.1 with q | q | q
   ·exact(hltf x y).1 a q
   ·exact(hltf y z).1 b (Qf q.symm k)
   ·exact(hltf y z).1 b (lI q k))⟩
 have eg:∀args w,(callFunc 94 args).run Tryz.prog w= .ok (.enter 94 args) w:=enters_of Tryz.func94 Ek rfl;have hcon:=Tryz.slices_SortFunc (fun x:Fin l.length=>bG x.1) (fun _=>rfl) (fun x y=>fR rk wide x.1 y.1) hO 94 #[.pointer (some ⟨br,0,none⟩), .pointer (some ⟨bf,0,none⟩)] qr 0 capr d w eg hcmp hH hqlt (by rw[hds];omega);rw[hds]at hcon;refine hcon.mono ?_;rintro e w' ⟨rfl,d',n,os,hpi,hsi,rfl⟩;have hd's:d'.size=r.length:=by have :=hpi.1;omega
 have hperm:(d'.toList.map Fin.val).Perm r:=by
  have :=hpi.2.2;rw[al8 E,al8 E]at this;rw[←hdv];exact this.map _
 refine⟨rfl,d'.toList.map Fin.val,⟨hperm.trans hp,ay2.2 (fun i j hi hj hij=>?_)⟩,by simp[hd's],?_,dX _ _ _ _ _ _⟩
 ·have hj':j<d'.size:=by simpa using hj
  have :=hsi i j (aC8 _) hij E;rw[hltf,aH4 d' i E,aH4 d' j hj']at this;simpa using this
 ·have :=iM (fun x:Fin l.length=>bG x.1) hown n d' os hd's;rw[av0];exact this
def dP(s:Int):Bool:=decide (0≤s∧s<257)
def kR(s l:Int):Int:=if 0≤s∧s<257∧0≤l∧l≤9 then s/2^(9-l).toNat else -1
def lL(s l:Int):Bool:=decide (0≤s∧s<257∧0≤l∧l<9∧s/2^(8-l).toNat%2=1)
theorem dE{s:Int}(h0:0≤s)(h1:s<257):dP s=true:=by simp[dP,h0,h1]
theorem gB{s:Int}(h:¬(0≤s∧s<257)):dP s=false:=by simp only[dP];exact aG9 h
theorem Hv(x:Int)(h0:0≤x)(h1:x<9223372036854775808):bits BinOp.and IntKind.i64 x 1=x%2:=by
 have h:=Go.Proofs.and_one x.toNat E;rw[Int.toNat_of_nonneg h0]at h;rw[h];omega
theorem shr_bd(s:Int)(n:Nat)(h0:0≤s)(h1:s<257):0≤s/2^n∧s/2^n<257:=by
 have h2:(0:Int)<2^n:=Int.pow_pos E;refine⟨Int.ediv_nonneg h0 E,?_⟩;have :=Int.ediv_le_self (2^n) h0;omega
theorem bU(s:Int)(w:World):Calls Tryz.prog 122 #[.int .i64 s] w fun e w'=>e= .returned (.bool (dP s))∧w=w':=by
 by_cases h0:0≤s
 ·by_cases h1:s<257
  ·have e:dP s=true:=dE h0 h1;rw[e];go_enter Tryz.func122,Tryz.ntmps122;go_wp2;go_ret;exact⟨rfl,rfl⟩
  ·have e:dP s=false:=gB E;rw[e];go_enter Tryz.func122,Tryz.ntmps122;go_wp2;go_ret;exact⟨rfl,rfl⟩
 ·have e:dP s=false:=gB E;rw[e];go_enter Tryz.func122,Tryz.ntmps122;go_wp2;go_ret;exact⟨rfl,rfl⟩
theorem oV(b:Int)(w:World)(h0:0≤b)(h1:b<256):Calls Tryz.prog 111 #[.int .u8 b] w fun e w'=>e= .returned (.int .i64 (b+1))∧w=w':=by
 go_enter Tryz.func111,Tryz.ntmps111;go_wp2;go_ret;exact⟨rfl,rfl⟩
theorem Je(s:Int)(w:World)(h0:1≤s)(h1:s<257):Calls Tryz.prog 58 #[.int .i64 s] w fun e w'=>e= .returned (.tuple #[.int .u8 (s-1), .bool true])∧w=w':=by
 have e:dP s=true:=dE E h1;have hd:(s==0)=false:=by simp;omega
 go_enter Tryz.func58,Tryz.ntmps58;go_wp2_with (go_at_call 122;refine(bU _ _).mono ?_;rintro e w' ⟨rfl,rfl⟩);go_ret2;exact⟨rfl,rfl⟩
theorem Jf(s l:Int)(w:World):Calls Tryz.prog 176 #[.int .i64 s, .int .i64 l] w fun e w'=>e= .returned (.int .i64 (kR s l))∧w=w':=by
 by_cases hs:0≤s∧s<257
 ·have e:dP s=true:=dE hs.1 hs.2;obtain⟨hs0,hs1⟩:=hs;by_cases h2:0≤l
  ·have hd:decide (l<0)=false:=by simp;omega
   by_cases h3:l≤9
   ·have hp:kR s l=s/2^(9-l).toNat:=aH9 ⟨hs0,hs1,h2,h3⟩;rw[hp];clear hp;have hd2:decide (9<l)=false:=by simp;omega
    go_enter Tryz.func176,Tryz.ntmps176;go_wp2_with (go_at_call 122;refine(bU _ _).mono ?_;rintro e w' ⟨rfl,rfl⟩);go_ret;exact⟨rfl,rfl⟩
   ·have hp:kR s l= -1:=aH8 E;rw[hp];clear hp;have hd2:decide (9<l)=true:=by simp;omega
    go_enter Tryz.func176,Tryz.ntmps176;go_wp2_with (go_at_call 122;refine(bU _ _).mono ?_;rintro e w' ⟨rfl,rfl⟩);go_ret;exact⟨rfl,rfl⟩
  ·have hp:kR s l= -1:=aH8 E;rw[hp];clear hp;have hd:decide (l<0)=true:=by simp;omega
   go_enter Tryz.func176,Tryz.ntmps176;go_wp2_with (go_at_call 122;refine(bU _ _).mono ?_;rintro e w' ⟨rfl,rfl⟩);go_ret;exact⟨rfl,rfl⟩
 ·have e:dP s=false:=gB hs;have hp:kR s l= -1:=aH8 E;rw[hp];clear hp;go_enter Tryz.func176,Tryz.ntmps176;go_wp2_with (go_at_call 122;refine(bU _ _).mono ?_;rintro e w' ⟨rfl,rfl⟩);go_ret;exact⟨rfl,rfl⟩
theorem Ug{s l:Int}(h0:0≤s)(h1:s<257)(h2:0≤l)(h3:l<9):(bits BinOp.and IntKind.i64 (s/2^(8-l).toNat) 1==1)=lL s l:=by
 have hb:=shr_bd s (8-l).toNat h0 h1;rw[Hv _ hb.1 E];simp only[lL,h0,h1,h2,h3,true_and];rfl
theorem Oi(s l:Int)(w:World):Calls Tryz.prog 179 #[.int .i64 s, .int .i64 l] w fun e w'=>e= .returned (.bool (lL s l))∧w=w':=by
 by_cases hs:0≤s∧s<257
 ·have e:dP s=true:=dE hs.1 hs.2;obtain⟨hs0,hs1⟩:=hs;by_cases h2:0≤l
  ·have hd:decide (l<0)=false:=by simp;omega
   by_cases h3:l<9
   ·rw[←Ug hs0 hs1 h2 h3];have hd2:decide (9≤l)=false:=by simp;omega
    go_enter Tryz.func179,Tryz.ntmps179;go_wp2_with (go_at_call 122;refine(bU _ _).mono ?_;rintro e w' ⟨rfl,rfl⟩);go_ret;exact⟨rfl,rfl⟩
   ·have hp:lL s l=false:=aG9 E;rw[hp];clear hp;have hd2:decide (9≤l)=true:=by simp;omega
    go_enter Tryz.func179,Tryz.ntmps179;go_wp2_with (go_at_call 122;refine(bU _ _).mono ?_;rintro e w' ⟨rfl,rfl⟩);go_ret;exact⟨rfl,rfl⟩
  ·have hp:lL s l=false:=aG9 E;rw[hp];clear hp;have hd:decide (l<0)=true:=by simp;omega
   go_enter Tryz.func179,Tryz.ntmps179;go_wp2_with (go_at_call 122;refine(bU _ _).mono ?_;rintro e w' ⟨rfl,rfl⟩);go_ret;exact⟨rfl,rfl⟩
 ·have e:dP s=false:=gB hs;have hp:lL s l=false:=aG9 (fun h=>hs ⟨h.1,h.2.1⟩);rw[hp];clear hp;go_enter Tryz.func179,Tryz.ntmps179;go_wp2_with (go_at_call 122;refine(bU _ _).mono ?_;rintro e w' ⟨rfl,rfl⟩);go_ret;exact⟨rfl,rfl⟩
def cat(px:Nat→List Int):Nat→List Int
 | 0=>[]
 | j+1=>cat px j++px j
theorem cat_le(px:Nat→List Int){j m:Nat}(h:j≤m):(cat px j).length≤(cat px m).length:=by
 induction m with
 | zero=>
      have :j=0:=E;subst this;exact aA5 _
 | succ m ih=>
  by_cases e:j=m+1
  ·subst e;exact aA5 _
  ·have :=ih E;simp only[cat,as6];omega
def lT(x:Int):Value:= .int .i64 (x+1)
theorem Tryz.infoInt:(Tryz.prog.info? 3).map (fun i=>(i.zero,i.size,i.bytes))=some (some (.int .i64 0),1,8):=Ek
theorem Og(pb m c:Nat)(pa:Nat→Option Addr)(pc:Nat→Nat)(px:Nat→List Int)(w:World)
  (hm:m≤9223372036854775807)
  (hcell:∀j,j<m→w.cell? ⟨pb,j,none⟩=some (.slice (pa j) (px j).length (pc j))) (hpb:pb<w.heap.size)
  (hread:∀j,j<m→Reads w .u8 (pa j) (px j)) (hbyte:∀j,j<m→∀i,i<(px j).length→0≤(px j)[i]?.getD 0∧(px j)[i]?.getD 0<256)
  (htot:(cat px m).length≤1000000000):
  Calls Tryz.prog 91 #[.slice (some ⟨pb,0,none⟩) m c] w fun e w'=>
   ∃v,e= .returned v∧w'.ownsRow w.heap.size 3 1 v ((cat px m).length+1) ((cat px m).map lT++[.int .i64 0])∧Below w.heap.size w w':=by
 go_enter Tryz.func91,Tryz.ntmps91;go_wp2;go_loopw [3,10] (fun v i wr=>∃k:Nat,k≤m∧i= .int .i64 k∧wr.ownsRow w.heap.size 3 1 v (cat px k).length ((cat px k).map lT)∧Below w.heap.size w wr)
  (fun _ i _=>m-(intOf i).toNat)
 case atStart=>exact⟨0,aC8 _,rfl,aG2 _ _ _ _,am4 _ _⟩
 case round=>
  obtain⟨k,hk,rfl,hown,hnx⟩:=hrel;obtain⟨wo,rfl⟩:∃wo:World,wo=wr:=⟨_,rfl⟩;have hs0:=hnx.size;by_cases hlt:k<m
  ·have hc:=(hnx.cell (p:=⟨pb,k,none⟩) hpb).trans (hcell k hlt);have hr:=hread k hlt;have hb:=hbyte k hlt;have hcl:(cat px (k+1)).length≤1000000000:=aA6 (cat_le px E) htot;have hcl2:(cat px k).length+(px k).length≤1000000000:=by simpa[cat]using hcl
   have HC:Hid (cat px (k+1)=cat px k++px k):=rfl;clear hcell hread hbyte;generalize hX:px k=xs at *;generalize pa k=pk at *;have HX:=θ hX;clear hX;go_wp2_with fail;go_loopw [3,16] (fun v i wr=>∃n:Nat,n≤xs.length∧i= .int .i64 n∧wr.ownsRow w.heap.size 3 1 v ((cat px k).length+n) ((cat px k++xs.take n).map lT)∧Below w.heap.size w wr)
    (fun _ i _=>xs.length-(intOf i).toNat)
   case atStart=>exact⟨0,Nat.zero_le _,rfl,by simpa using hown,hnx⟩
   case round=>
    obtain⟨n,hn,rfl,hown,hnx⟩:=hrel;have hs1:=hnx.size;by_cases hln:n<xs.length
    ·obtain⟨b,off,rfl,hlt2,hcells⟩:=hr.some E;have hcx:=(hnx.cell (p:=⟨b,off+n,none⟩) hlt2).trans (hcells n hln);obtain⟨hb0,hb1⟩:=hb n hln;have htake:(cat px k++xs.take (n+1)).map lT=(cat px k++xs.take n).map lT++[lT (xs[n]?.getD 0)]:=by
      rw[ay9,ar3 hln];simp only[at6,ao7,aD5,aD0,at8,av5]
     clear hcells hr hb;generalize xs[n]?.getD 0=x at *;have HT:=θ htake;clear htake;go_wp2_with (first
      | (go_at_call 111;refine(oV _ _ hb0 hb1).mono ?_;rintro e w' ⟨rfl,rfl⟩)
      | (at_builtin;refine lC rfl _ _ 36 rfl w.heap.size 3 Tryz.infoInt aF0 rfl _ _ _ rfl hown rfl rfl ?c1 ?c2 ?c3 ?_))
     case c1=>unfold maxLen;omega
     case c2=>omega
     case c3=>omega
     intro v' w1 hown' hgrow;have hnx':Below w.heap.size w w1:=hnx.grown hgrow hs1 (fun j hj=>(hown.lt j hj).1);go_wp2;go_roundw;case rel=>exact⟨n+1,E,Es,by rw[HT.o];simpa only[List.map_append,List.map_take,List.append_assoc,Nat.add_assoc,lT]using hown',hnx'⟩
     case measure=>simp[intOf];omega
    ·have he:n=xs.length:=E;subst he;rw[az2]at hown;go_wp2;go_roundw;case rel=>exact⟨k+1,E,Es,by rw[HC.o,as6];exact hown,hnx⟩
     case measure=>simp[intOf];omega
  ·have he:k=m:=E;subst he;go_wp2_with (at_builtin;refine lC rfl _ _ 36 rfl w.heap.size 3 Tryz.infoInt aF0 rfl _ _ _ rfl hown rfl rfl ?c1 ?c2 ?c3 ?_);case c1=>unfold maxLen;omega
   case c2=>omega
   case c3=>omega
   intro v' w1 hown' hgrow;have hnx':Below w.heap.size w w1:=hnx.grown hgrow hs0 (fun j hj=>(hown.lt j hj).1);go_wp2;go_ret;exact⟨_,rfl,hown',hnx'⟩
theorem Lp(pb c:Nat)(a0:Option Addr)(c0:Nat)(x0:List Int)(w:World)(hpb:pb<w.heap.size)
  (h0:w.cell? ⟨pb,0,none⟩=some (.slice a0 x0.length c0)) (r0:Reads w .u8 a0 x0) (b0:oJ x0) (ht:x0.length≤1000000000):
  Calls Tryz.prog 91 #[.slice (some ⟨pb,0,none⟩) 1 c] w fun e w'=>
   ∃v,e= .returned v∧w'.ownsRow w.heap.size 3 1 v (x0.length+1) (x0.map lT++[.int .i64 0])∧Below w.heap.size w w':=by
 have h:=Og pb 1 c (fun _=>a0) (fun _=>c0) (fun _=>x0) w E (fun j hj=>by
                                                   obtain rfl:j=0:=E
                                                   exact h0) hpb (fun _ _=>r0) (fun _ _=>b0) (by simpa[cat]using ht)
 simpa[cat]using h
def ofV(N:Nat→Int):List Value:=(List.range 257).map fun s=>Value.int .i64 (N s)
def tlV(t:Tl):Array Value:=(ofV t.N++[Value.int .i64 t.all]).toArray
theorem fH(N:Nat→Int):(ofV N).length=257:=by simp[ofV]
theorem mJ(N:Nat→Int){s:Nat}(h:s<257):(ofV N)[s]? =some (.int .i64 (N s)):=by simp[ofV,h]
theorem tN(t:Tl){s:Nat}(h:s<257):(tlV t)[s]? =some (.int .i64 (t.N s)):=by
 unfold tlV;rw[as0,aq9 (by rw[fH];exact h),mJ _ h]
theorem Lq(t:Tl):(tlV t)[257]? =some (.int .i64 t.all):=by
 unfold tlV;rw[as0,ar0 (by rw[fH];omega),fH];rfl
theorem af7(N:Nat→Int){s:Nat}(h:s<257)(v:Int):(ofV N).set s (.int .i64 v)=ofV (upd N s v):=by
 apply aq3;intro j;rw[ar8,fH];by_cases e:s=j
 ·subst e;rw[aH9 rfl,aH9 h,mJ _ h];simp[upd]
 ·rw[aH8 e];by_cases hj:j<257
  ·have e2:¬j=s:=fun h=>e h.symm;rw[mJ _ hj,mJ _ hj];simp[upd,e2]
  ·rw[ar4 (by rw[fH];omega),ar4 (by rw[fH];omega)]
theorem ak5(t:Tl){s:Nat}(h:s<257)(n:Int):((tlV t).setIfInBounds s (.int .i64 (t.N s+n))).setIfInBounds 257 (.int .i64 (t.all+n))=tlV (t.add s n):=by
 unfold tlV;rw[ay5,ay5,List.set_append,aH9 (by rw[fH];exact h),af7 _ h,List.set_append,aH8 (by rw[fH];omega),fH,aC0,List.set_cons_zero];unfold Tl.add;rfl
theorem tzero(w:World):(zeroValue 202).run Tryz.prog w= .ok (.agg (tlV Tl.zero)) w:=Ek
structure IsTally (w:World) (p:Nat) (t:Tl):Prop where
 ok:t.Ok
 at_:w.heap[p]? =some (.cells (tlV t) 202 (0,0))
theorem IsTally.chg {w w':World}{p:Nat}{S:Nat→Prop}{t:Tl}(h:IsTally w p t)(hc:Chg S w w')(hS:¬S p):IsTally w' p t:=⟨h.ok,hc.heap h.at_ hS⟩
theorem IsTally.lt {w:World}{p:Nat}{t:Tl}(h:IsTally w p t):p<w.heap.size:=(am0.1 h.at_).1
def tOf(t:Tl)(s:Int):Int:=if 0≤s∧s<257 then t.N s.toNat else 0
theorem ak4{w:World}{p:Nat}{t:Tl}(h:IsTally w p t)(s:Int):Calls Tryz.prog 137 #[.pointer (some ⟨p,0,none⟩), .int .i64 s] w fun e w'=>e= .returned (.int .i64 (tOf t s))∧w=w':=by
 by_cases hs:0≤s∧s<257
 ·have HR:Hid (t.N s.toNat=tOf t s):=(aH9 hs).symm;have e:dP s=true:=dE hs.1 hs.2;obtain⟨hs0,hs1⟩:=hs;have hc:w.cell? ⟨p,s.toNat,none⟩=some (.int .i64 (t.N s.toNat)):=by rw[aG7 w p s.toNat _ _ _ h.at_,tN t E]
  go_enter Tryz.func137,Tryz.ntmps137;go_wp2_with (go_at_call 122;refine(bU _ _).mono ?_;rintro e w' ⟨rfl,rfl⟩);go_ret;exact⟨aT HR.o,rfl⟩
 ·have HR:Hid (0=tOf t s):=(aH8 hs).symm;have e:dP s=false:=gB hs;go_enter Tryz.func137,Tryz.ntmps137;go_wp2_with (go_at_call 122;refine(bU _ _).mono ?_;rintro e w' ⟨rfl,rfl⟩);go_ret;exact⟨aT HR.o,rfl⟩
theorem tAdd_bad{w:World}{p:Nat}{s n:Int}(hs:¬(0≤s∧s<257)):Calls Tryz.prog 162 #[.pointer (some ⟨p,0,none⟩), .int .i64 s, .int .i64 n] w fun e w'=>e= .returned (.int .i64 1)∧w=w':=by
 have e:dP s=false:=gB hs;go_enter Tryz.func162,Tryz.ntmps162;go_wp2_with (go_at_call 122;refine(bU _ _).mono ?_;rintro e w' ⟨rfl,rfl⟩);go_ret;exact⟨rfl,rfl⟩
theorem al4{w:World}{p:Nat}{t:Tl}(h:IsTally w p t){s n:Int}(hs0:0≤s)(hs1:s<257)(hn:n< -t.N s.toNat∨2147483648-t.all<n):
  Calls Tryz.prog 162 #[.pointer (some ⟨p,0,none⟩), .int .i64 s, .int .i64 n] w fun e w'=>e= .returned (.int .i64 2)∧w=w':=by
 have e:dP s=true:=dE hs0 hs1;have hc:w.cell? ⟨p,s.toNat,none⟩=some (.int .i64 (t.N s.toNat)):=by rw[aG7 w p s.toNat _ _ _ h.at_,tN t E]
 have hc2:w.cell? ⟨p,257,none⟩=some (.int .i64 t.all):=by rw[aG7 w p 257 _ _ _ h.at_,Lq]
 have b1:=h.ok.pos s.toNat E;have b2:=h.ok.le (s:=s.toNat) E;have b3:=h.ok.max;have b4:=h.ok.all_pos;generalize t.N s.toNat=N at *;generalize t.all=all at *;clear h;by_cases h1:n< -N
 ·have d1:decide (n< -N)=true:=by simpa using h1
  clear hn;go_enter Tryz.func162,Tryz.ntmps162;go_wp2_with (go_at_call 122;refine(bU _ _).mono ?_;rintro e w' ⟨rfl,rfl⟩);go_ret;exact⟨rfl,rfl⟩
 ·have h2:2147483648-all<n:=E;have d1:decide (n< -N)=false:=by simpa using h1
  have d2:decide (2147483648-all<n)=true:=by simpa using h2
  clear hn;go_enter Tryz.func162,Tryz.ntmps162;go_wp2_with (go_at_call 122;refine(bU _ _).mono ?_;rintro e w' ⟨rfl,rfl⟩);go_ret;exact⟨rfl,rfl⟩
theorem Cf{w:World}{p:Nat}{t:Tl}(h:IsTally w p t){s n:Int}(hs0:0≤s)(hs1:s<257)(hn1: -t.N s.toNat≤n)(hn2:n≤2147483648-t.all):
  Calls Tryz.prog 162 #[.pointer (some ⟨p,0,none⟩), .int .i64 s, .int .i64 n] w fun e w'=>e= .returned (.int .i64 0)∧IsTally w' p (t.add s.toNat n)∧Chg (fun k=>k=p) w w':=by
 have e:dP s=true:=dE hs0 hs1;have hc:w.cell? ⟨p,s.toNat,none⟩=some (.int .i64 (t.N s.toNat)):=by rw[aG7 w p s.toNat _ _ _ h.at_,tN t E]
 have hc2:w.cell? ⟨p,257,none⟩=some (.int .i64 t.all):=by rw[aG7 w p 257 _ _ _ h.at_,Lq]
 have hf:w.frozen? ⟨p,s.toNat,none⟩=false:=aH3 w p _ _ _ h.at_;have hf2:w.frozen? ⟨p,257,none⟩=false:=aH3 w p _ _ _ h.at_;have b1:=h.ok.pos s.toNat E;have b2:=h.ok.le (s:=s.toNat) E;have b3:=h.ok.max;have b4:=h.ok.all_pos;have hok:=Tl.add_ok h.ok (s:=s.toNat) E hn1 hn2;have HOK:=θ hok;have HAT:=θ h.at_;have HV:=θ (ak5 t (s:=s.toNat) E n);generalize t.N s.toNat=N at *;generalize hall:t.all=all at *;have d1:decide (n< -N)=false:=by simp;omega
 have d2:decide (2147483648-all<n)=false:=by simp;omega
 have hne:s.toNat≠257:=E;have HALL:=θ hall;clear h hok hall;go_enter Tryz.func162,Tryz.ntmps162;go_wp2_with (go_at_call 122;refine(bU _ _).mono ?_;rintro e w' ⟨rfl,rfl⟩);go_region;go_wp2;go_ret;refine⟨rfl,⟨HOK.o,?_⟩,?_⟩
 ·have h1:=aH6 _ p 257 _ _ (.int .i64 (all+n)) (aH6 w p s.toNat _ _ (.int .i64 (N+n)) HAT.o);rw[HV.o]at h1;exact h1
 ·exact(((Chg.refl (S:=fun k=>k=p)).setCell ⟨p,s.toNat,none⟩ (Ei rfl) _).setCell ⟨p,257,none⟩ (Ei rfl) _).drew
theorem Ut{w:World}{a:Option Addr}{c:Nat}{l:List Int}(hl:Reads w .i64 a l)(hs:∀x∈l,0≤x∧x<257)(hlen:l.length≤2147483648):
  Calls Tryz.prog 136 #[.slice a l.length c] w fun e w'=>e= .returned (.tuple #[.pointer (some ⟨w.heap.size,0,none⟩), .int .i64 0])∧IsTally w' w.heap.size (Tl.of l)∧Below w.heap.size w w':=by
 have hz:=tzero;have h0:IsTally (w.alloc (.cells (tlV Tl.zero) 202)) w.heap.size Tl.zero:=⟨Tl.zero_ok,aH5 w _⟩;generalize hV:tlV Tl.zero=V at *;have H0:=θ h0;clear h0 hV;go_enter Tryz.func136,Tryz.ntmps136;go_wp2_with fail;go_loopw [12] (fun i wr=>∃k:Nat,k≤l.length∧i= .int .i64 k∧IsTally wr w.heap.size (Tl.of (l.take k))∧Below w.heap.size w wr) (fun i _=>l.length-(intOf i).toNat);case atStart=>exact⟨0,E,rfl,H0.o,(am4 _ _).alloc (aA5 _) _⟩
 case round=>
  obtain⟨k,hk,rfl,hT,hb⟩:=hrel;have hs1:=hb.size;by_cases hlt:k<l.length
  ·obtain⟨b,off,rfl,hbl,hcells⟩:=hl.some E;have hcx:=(hb.cell (p:=⟨b,off+k,none⟩) hbl).trans (hcells k hlt);have hx:=hs l[k] (as3 _);have e:l.take (k+1)=l.take k++[((l[k].toNat:Nat):Int)]:=by
    rw[List.take_succ_eq_append_getElem hlt,Int.toNat_of_nonneg hx.1]
   have e2:Tl.of (l.take (k+1))=(Tl.of (l.take k)).add l[k].toNat 1:=by rw[e,Tl.of_snoc]
   have h1:=hT.ok.pos l[k].toNat E;have h2:(1:Int)≤2147483648-(Tl.of (l.take k)).all:=by
    show (1:Int)≤2147483648-((l.take k).length:Int);rw[at5];omega
   rw[ar3 hlt,aD0]at hcx;have hadd:=Cf hT hx.1 hx.2 (n:=1) E h2;rw[←e2]at hadd;have HADD:=θ hadd;generalize l[k]=x at *;clear hcells e e2 h1 h2 hadd;go_wp2_with fail;refine HADD.o.mono ?_;rintro e w2 ⟨rfl,hT2,hc2⟩;have hb2:Below w.heap.size w w2:=hb.trans (hc2.below (fun b hb=>by subst hb;exact aA5 _) hs1);clear hT;go_wp2_with fail;go_roundw;case rel=>exact⟨k+1,E,Es,hT2,hb2⟩
   case measure=>simp[intOf];omega
  ·have hkl:k=l.length:=E;rw[hkl,az2]at hT;clear hkl;go_wp2_with fail;go_ret2;exact⟨rfl,hT,hb⟩
def bR(t:Tl)(s:Int):Int:=bl t.N (gX s)
theorem Om{w:World}{p:Nat}{t:Tl}(h:IsTally w p t)(s:Int):Calls Tryz.prog 138 #[.pointer (some ⟨p,0,none⟩), .int .i64 s] w fun e w'=>e= .returned (.int .i64 (bR t s))∧w=w':=by
 go_enter Tryz.func138,Tryz.ntmps138;go_wp2_with fail;have hcl:min (max s 0) 257=(gX s:Int):=by unfold gX;omega
 have hc7:=vN s;rw[hcl];clear hcl;have HR:Hid (bR t s=bl t.N (gX s)):=rfl;generalize gX s=c at *;go_loop [5,10] (fun n i=>∃k:Nat,k≤c∧i= .int .i64 k∧n= .int .i64 (bl t.N k)) (fun _ i=>c-(intOf i).toNat);case atStart=>exact⟨0,E,rfl,rfl⟩
 case round=>
  obtain⟨k,hk,rfl,rfl⟩:=hrel;by_cases hlt:k<c
  ·have h0:=rQ h.ok.pos (show k≤257 by omega);have h1:=kF h.ok.pos (show k+1≤257 by omega) (aA5 _);rw[h.ok.sum]at h1;have h2:=h.ok.max;have h3:bl t.N (k+1)=bl t.N k+t.N k:=rfl;have h4:=h.ok.pos k E;have ho:tOf t (k:Int)=t.N k:=by unfold tOf;rw[aH9 E];simp
   have H3:=θ h3;have h5:bl t.N k+t.N k≤2147483648:=E;have HO:=θ ho;clear h1 h2 h3 ho;go_wp2_with fail;refine(ak4 h _).mono ?_;rintro e w' ⟨rfl,rfl⟩;rw[HO.o];go_wp2_with fail;go_round;case rel=>exact⟨k+1,E,Es,by rw[H3.o]⟩
   case measure=>simp[intOf];omega
  ·obtain rfl:k=c:=E;go_wp2_with fail;go_ret;exact⟨aT HR.o.symm,rfl⟩
theorem Tryz.info257:(Tryz.prog.info? 174).map (·.size)=some 257:=Ek
theorem Tryz.infoI:(Tryz.prog.info? 3).map (·.size)=some 1:=Ek
theorem Cs(N:Nat→Int)(k:Nat)(hk:k<257)(w:World):(Instr.index 174 (.agg (ofV N).toArray) (.int .i64 k)).run Tryz.prog w= .ok (.int .i64 (N k)) w:=by
 have hi:=Tryz.infoI;obtain⟨i,hi1,hi2⟩:=aD1.1 hi;have h1:(0:Int)≤(k:Int)∧(k:Int)<257:=E;have hg:=mJ N hk;simp[Instr.index,asIntOf,aI7 Tryz.underlying174,aI7 aE8,h1,sizeOf,typeInfo,hi1,hi2,part,isAgg,hg,hk]
theorem Pd{w:World}{p:Nat}{t:Tl}(h:IsTally w p t)(k:Int)(hk: -9223372036854775808≤k)(hk2:k≤9223372036854775807):
  Calls Tryz.prog 124 #[.pointer (some ⟨p,0,none⟩), .int .i64 k] w fun e w'=>(∃r,e= .returned (.int .i64 r)∧IsWhich t k r)∧w=w':=by
 by_cases hk0:0≤k
 ·have d0:decide (k<0)=false:=by simp;omega
  have hrg:w.rangeAt p 0 (ofV t.N):=by
   intro j v hj;have hjl:j<257:=by
    rcases aB0 j 257 with h | h
    ·exact h
    ·rw[ar4 (by rw[fH];exact h)]at hj;cases hj
   rw[aC7,aG7 w p j _ _ _ h.at_,tN t hjl,←mJ _ hjl];exact hj
  have hix:=fun(k:Nat) (hk:k<257) (w:World)=>Cs t.N k hk w;have HIX:=θ hix;have hlen:(Tryz.prog.info? 174).map (·.size)=some (ofV t.N).length:=by rw[fH];exact Tryz.info257
  clear hix;go_enter Tryz.func124,Tryz.ntmps124;go_wp2_with (refine wpList_load_mid rfl 174 _ rfl p 0 rfl (ofV t.N) _ hrg Tryz.underlying174 rfl hlen ?_);clear hlen;go_loop [1,17] (fun kk i=>∃s:Nat,s≤257∧i= .int .i64 s∧kk= .int .i64 (k-bl t.N s)∧0≤k-bl t.N s) (fun _ i=>257-(intOf i).toNat);case atStart=>exact⟨0,E,rfl,by simp[bl],by simp[bl];exact hk0⟩
  case round=>
   obtain⟨s,hs,rfl,rfl,hk1⟩:=hrel;have hb0:=rQ h.ok.pos (show s≤257 by omega);by_cases hlt:s<257
   ·have hixs:=HIX.o s hlt;have hst:bl t.N (s+1)=bl t.N s+t.N s:=rfl;have HST:=θ hst;have hpos:=h.ok.pos s hlt;have hle:=h.ok.le hlt;have hmx:=h.ok.max;by_cases hin:k-bl t.N s<t.N s
    ·have HW:Hid (IsWhich t k s):=⟨fun h2=>by
       exfalso
       have h3:=kF h.ok.pos (show s+1≤257 by omega) (aA5 _)
       rw[h.ok.sum]at h3
       rcases h2 with h2 | h2<;>omega,fun _=>⟨s,hlt,rfl,E,E⟩⟩
     clear hst;go_wp2_with fail;go_ret;exact⟨⟨s,rfl,HW.o⟩,rfl⟩
    ·have hk3:0≤k-bl t.N (s+1):=E;have hk4:0≤k-bl t.N s-t.N s:=E;have HK3:=θ hk3;clear hst hk3;go_wp2_with fail;go_round;case rel=>exact⟨s+1,E,Es,by rw[HST.o];congr 1;omega,HK3.o⟩
     case measure=>simp[intOf];omega
   ·obtain rfl:s=257:=E;have hsum:=h.ok.sum;have HW:Hid (IsWhich t k (-1)):=⟨fun _=>rfl,fun h2=>by exfalso;omega⟩;clear hsum;go_wp2_with fail;go_ret;exact⟨⟨-1,rfl,HW.o⟩,rfl⟩
 ·have d0:decide (k<0)=true:=by simp;omega
  go_enter Tryz.func124,Tryz.ntmps124;go_wp2;go_ret;exact⟨⟨-1,rfl,fun _=>rfl,fun h=>E⟩,rfl⟩
end
theorem Jg{s l:Nat}(hs:s<257)(hl:l≤9):kR (s:Int) (l:Int)=(pth s l:Nat):=by
 unfold kR pth;rw[aH9 ⟨E,E,E,E⟩,show (9-(l:Int)).toNat=9-l by omega,Int.natCast_ediv,Int.natCast_pow];rfl
theorem Oj{s l:Nat}(hs:s<257)(hl:l<9):lL (s:Int) (l:Int)=cV s l:=by
 unfold lL cV;rw[show (8-(l:Int)).toNat=8-l by omega];congr 1;have h:(s:Int)/2^(8-l)=((s/2^(8-l):Nat):Int):=by rw[Int.natCast_ediv,Int.natCast_pow];rfl
 rw[h];apply propext;constructor
 ·rintro⟨_,_,_,_,h⟩;omega
 ·intro h;exact⟨E,E,E,E,E⟩
theorem qW{s l:Nat}(hs:s<257)(hl:l≤9)(w:World):Calls Tryz.prog 176 #[.int .i64 s, .int .i64 l] w fun e w'=>e= .returned (.int .i64 (pth s l:Nat))∧w=w':=by
 have :=Jf s l w;rwa[Jg hs hl]at this
theorem tA{s l:Nat}(hs:s<257)(hl:l<9)(w:World):Calls Tryz.prog 179 #[.int .i64 s, .int .i64 l] w fun e w'=>e= .returned (.bool (cV s l))∧w=w':=by
 have :=Oi s l w;rwa[Oj hs hl]at this
section
open Go.RowKit
theorem bS{B:Nat}{X Y:Nat→Prop}(h:∀k,X k→Y k){k:Nat}(hk:exT B Y k):exT B X k:=⟨hk.1,fun hx=>hk.2 (h k hx)⟩
def mN(B:Nat)(X Y:Nat→Prop)(w w':World)(p:Nat)(D:WD)(O':Nat→Nat→Option ST)(n:Nat)(vis:Int)(l k M:Nat):Prop:=
 WaveE B X w' p D O' n vis (fun l' k' v=>l'=l→k'=k→0≤v∧v≤M)∧Chg (fun j=>exT B X j∨Y j) w w'
theorem Kr{B:Nat}{X Y:Nat→Prop}{w W w1:World}{p n b:Nat}{D:WD}{O':Nat→Nat→Option ST}{vis:Int}{M v1:Nat}{R:World→Prop}(hE:WaveE B (fun j=>X j∨j=b) w1 p D O' n vis bA)(hc:Chg (fun j=>exT B (fun j=>X j∨j=b) j∨Y j) W w1)(hr:R w1)
  (hR:∀w1 w2,R w1→Chg (fun j=>j=p) w1 w2→R w2) (hvM:v1≤M) (hb:Below w.heap.size w W) (hX:∀k,X k→k<w.heap.size) (hY:∀j,Y j→X j) (hle:B≤w.heap.size) (m:Nat):
  Ending.returned (.tuple #[])=Ending.returned (.tuple #[])∧∃v:Nat,v≤M∧WaveE B X ((w1.drewN m).setCell ⟨p,10,none⟩ (.int .i64 (vis+v1))) p D O' n (vis+v) bA∧Chg (fun j=>exT B X j∨Y j) w ((w1.drewN m).setCell ⟨p,10,none⟩ (.int .i64 (vis+v1)))∧R ((w1.drewN m).setCell ⟨p,10,none⟩ (.int .i64 (vis+v1))):=by
 have h1:=((hE.mono (Y:=X) (fun k hk=>Ei hk)).drewN m).setVis (vis+v1);have h2:Chg (fun j=>exT B X j∨Y j) W w1:=hc.mono (fun j hj=>hj.imp (fun h=>bS (fun k hk=>Ei hk) h) id);refine⟨rfl,v1,hvM,h1.1,?_,hR _ _ hr ((Chg.refl.drewN m).setCell (S:=fun j=>j=p) ⟨p,10,none⟩ (Ei rfl) _)⟩;exact((Chg.of_below (S:=fun j=>exT B X j∨Y j) hb).trans (h2.drewN m) (fun j hj=>Ei hj)).trans (h1.2.mono (fun j hj=>Ei hj)) (fun j hj=>Ei hj)
theorem zI{B:Nat}{X Y:Nat→Prop}{w:World}{p n:Nat}{D:WD}{O:Nat→Nat→Option ST}{vis:Int}(h:WaveE B X w p D O n vis bA){l k:Nat}(hl:l<9)(hk:k<pw l)(hvis:0≤vis∧vis≤1000000000000){M:Nat}(hM:M≤1000000000000)
  (hY:∀j,Y j→X j) (O':Nat→Nat→Option ST) (g:Nat) (lb:Array Value) (eg:∀args w,(callFunc g args).run Tryz.prog w= .ok (.enter g args) w) (R:World→Prop) (hR:∀w1 w2,R w1→Chg (fun j=>j=p) w1 w2→R w2)
  (hcall:∀(w0:World) (Z:Nat→Prop),(∀j,X j→Z j)→Below w.heap.size w w0→WaveE B Z w0 p D O n vis bA→Calls Tryz.prog g (#[bQ D l k]++lb) w0 fun e w1=>e= .returned (.tuple #[])∧mN B Z Y w0 w1 p D O' n vis l k M∧R w1):
  Calls Tryz.prog 156 #[.pointer (some ⟨p,0,none⟩),bQ D l k, .func (.func g) #[] lb] w fun e w'=>
   e= .returned (.tuple #[])∧∃v:Nat,v≤M∧WaveE B X w' p D O' n (vis+v) bA∧Chg (fun j=>exT B X j∨Y j) w w'∧R w':=by
 have hb0:=aC w (.cells #[.pointer (some ⟨D.Q l k,0,none⟩), .int .i64 l, .int .i64 k] 181);have hbx:=aH5 w (.cells #[.pointer (some ⟨D.Q l k,0,none⟩), .int .i64 l, .int .i64 k] 181);obtain⟨W,hW⟩:∃W,W=w.alloc (.cells #[.pointer (some ⟨D.Q l k,0,none⟩), .int .i64 l, .int .i64 k] 181):=⟨_,rfl⟩;have hCALL:Hid (∀j,Calls Tryz.prog g (#[bQ D l k]++lb) (W.drewN j) fun e w1=>e= .returned (.tuple #[])∧mN B (fun j=>X j∨j=w.heap.size) Y (W.drewN j) w1 p D O' n vis l k M∧R w1):=by
  intro j;rw[←hW]at hb0 hbx;refine hcall (W.drewN j) _ (fun j h=>Ei h) ⟨hb0.os,hb0.tape,hb0.output,hb0.size,hb0.block⟩ ((h.less hb0 (Y:=fun j=>X j∨j=w.heap.size) (fun j hj=>hj.elim Ei (fun e=>Ej E)) (fun j hj=>hj.elim (fun hx=>aA9 (h.x j hx) hb0.size) (fun e=>by subst e;exact(am0.1 hbx).1))).drewN j)
 have hXl:=θ h.x;have hle:=θ h.le;have c0:W.cell? ⟨w.heap.size,0,none⟩=some (.pointer (some ⟨D.Q l k,0,none⟩))∧W.cell? ⟨w.heap.size,1,none⟩=some (.int .i64 l)∧W.cell? ⟨w.heap.size,2,none⟩=some (.int .i64 k):=by
  rw[hW];exact⟨by rw[aG7 _ w.heap.size 0 _ _ _ hbx];rfl,by rw[aG7 _ w.heap.size 1 _ _ _ hbx];rfl,by rw[aG7 _ w.heap.size 2 _ _ _ hbx];rfl⟩
 obtain⟨c0,c1,c2⟩:=c0;have hHX:=θ hbx;have hHB:=θ hb0;have hYX:=θ hY;have hRR:=θ hR;have hKL:Hid (l<9∧k<pw l):=⟨hl,hk⟩;have hpw:=θ h.cells.2.2.2.2;clear h hcall hbx hb0 hY hR hl hk;unfold bQ at hCALL⊢;obtain⟨q,hq⟩:∃q,D.Q l k=q:=⟨_,rfl⟩;rw[hq]at c0 hCALL hHX hHB hW⊢;have hQ:=θ hq;clear hq;go_enter Tryz.func156,Tryz.ntmps156;go_wp2_with fail;rw[←hW]at hHX hHB⊢;have HWC:Hid (W=W.drewN 0):=rfl;refine(hCALL.out 0).mono ?_;rintro e w1 ⟨rfl,⟨hE1,hc1⟩,hr1⟩;have hc1:Chg (fun j=>exT B (fun j=>X j∨j=w.heap.size) j∨Y j) W w1:=hc1;have hnb:¬(exT B (fun j=>X j∨j=w.heap.size) w.heap.size∨Y w.heap.size):=by
  rintro(hx | hx)
  ·exact hx.2 (Ej rfl)
  ·have :=hXl.out _ (hYX.out _ hx);omega
 have b0:w1.cell? ⟨w.heap.size,0,none⟩=some (.pointer (some ⟨q,0,none⟩)):=hc1.cell (p:=⟨w.heap.size,0,none⟩) c0 hnb;obtain⟨_,_,v10,fz,hp1⟩:=hE1.cells;have z10:=fz 10;obtain⟨S1,made1,x1,hx1,ht1,_,_⟩:=hE1.step hKL.out.1 hKL.out.2;obtain⟨hx0,hxM⟩:=hx1 rfl rfl;obtain⟨v1,rfl⟩:=am8 hx0;rw[hQ.out]at ht1;have hvM:v1≤M:=by exact_mod_cast hxM
 have HVI:Hid (∀j,Calls Tryz.prog 206 #[.pointer (some ⟨q,0,none⟩)] (w1.drewN j) fun e w''=>e= .returned (.int .i64 (v1:Int))∧w1.drewN j=w''):=fun j=>Pc (ht1.drewN j);have HE1:=θ (hE1.any);have HC1:=θ hc1;have HR1:=θ hr1;have hnp:p≠w.heap.size:=by have :=hpw.out;omega
 have hwr:IntKind.i64.wrap (vis+(v1:Int))=vis+(v1:Int):=ao4 _ E;clear hE1 hc1 hr1 hnb c0 c1 c2 ht1 hx1 hx0 hxM fz hCALL;go_wp2_with fail;refine aE (fun w'=>w'.cell? ⟨w.heap.size,0,none⟩=some (.pointer (some ⟨q,0,none⟩))) Ek ?hilk (fun hh=>?_);case hilk=>(go_simp)
 refine rt 0 hh ?_;refine rt 1 hh ?_;refine rt 2 hh ?_;refine rt 4 hh ?_;refine rt 5 hh ?_;refine dA (i:=3) (j:=6) rfl rfl Ek rfl rfl (fun κ hK=>?blk3) (fun κ hK=>?blk6);case blk3=>
  go_simp;refine hK.out _ _ ?kplka3 (fun hNew=>?_);case kplka3=>(go_simp)
  clear hK κ hh;have hh:=hNew;clear hNew;try simp only[pt]
  refine rg 6 fun κ hK=>?_;go_simp
  ((refine(HVI.o _).mono ?_))
  rintro e w2 ⟨rfl,rfl⟩;refine hK.out _ _ ?kplka6 (fun hNew=>?_);case kplka6=>(go_simp)
  clear hK κ hh;have hh:=hNew;clear hNew;try simp only[pt]
  refine rt 7 hh ?_;refine rt 8 hh ?_;refine rt 9 hh ?_;refine rg 10 fun κ hK=>?_;go_simp;refine hK.out _ _ ?kplka10 (fun hNew=>?_);case kplka10=>(go_simp)
  clear hK κ hh;have hh:=hNew;clear hNew;try simp only[pt]
  refine rz ?_;clear hh;go_wp2_with fail;go_end0;exact Kr HE1.o HC1.o HR1.o hRR.out hvM hHB.out hXl.out hYX.out hle.out _
 case blk6=>
  go_simp
  ((refine(HVI.o _).mono ?_))
  rintro e w2 ⟨rfl,rfl⟩;refine hK.out _ _ ?kplkb6 (fun hNew=>?_);case kplkb6=>(go_simp)
  clear hK κ hh;have hh:=hNew;clear hNew;try simp only[pt]
  refine rg 3 fun κ hK=>?_;go_simp;refine hK.out _ _ ?kplkb3 (fun hNew=>?_);case kplkb3=>(go_simp)
  clear hK κ hh;have hh:=hNew;clear hNew;try simp only[pt]
  refine rt 7 hh ?_;refine rt 8 hh ?_;refine rt 9 hh ?_;refine rg 10 fun κ hK=>?_;go_simp;refine hK.out _ _ ?kplkb10 (fun hNew=>?_);case kplkb10=>(go_simp)
  clear hK κ hh;have hh:=hNew;clear hNew;try simp only[pt]
  refine rz ?_;clear hh;go_wp2_with fail;go_end0;exact Kr HE1.o HC1.o HR1.o hRR.out hvM hHB.out hXl.out hYX.out hle.out _
def Box1(w:World)(b:Nat)(v:Value)(T:TypeId):Prop:=w.heap[b]? =some (.cells #[v] T (0,0))
section
variable {w w':World}{b:Nat}{v:Value}{T:TypeId}
theorem Box1.cell (h:Box1 w b v T):w.cell? ⟨b,0,none⟩=some v:=by rw[aG7 w b 0 _ _ _ h];rfl
theorem Box1.frz (h:Box1 w b v T):w.frozen? ⟨b,0,none⟩=false:=aH3 w b 0 _ _ h
theorem Box1.lt (h:Box1 w b v T):b<w.heap.size:=(am0.1 h).1
theorem Box1.chg {S:Nat→Prop}(h:Box1 w b v T)(hc:Chg S w w')(hn:¬S b):Box1 w' b v T:=hc.heap h hn
theorem Box1.below (h:Box1 w b v T)(hb:Below w.heap.size w w'):Box1 w' b v T:=(Chg.of_below (S:=fun _=>False) hb).heap h id
theorem Box1.set (h:Box1 w b v T)(u:Value):Box1 (w.setCell ⟨b,0,none⟩ u) b u T:=aH6 w b 0 _ _ u h
theorem Box1.new (w:World)(v:Value)(T:TypeId):Box1 (w.alloc (.cells #[v] T)) w.heap.size v T:=aH5 w _
end
theorem WaveE.setBox {B:Nat}{Z:Nat→Prop}{w:World}{p n:Nat}{D:WD}{O:Nat→Nat→Option ST}{vis:Int}{Vb:Nat→Nat→Int→Prop}(h:WaveE B Z w p D O n vis Vb){b:Nat}(hb:Z b)(u:Value):WaveE B Z (w.setCell ⟨b,0,none⟩ u) p D O n vis Vb:=
 h.chg (Z:=fun j=>j=b) (Chg.refl.setCell (S:=fun j=>j=b) ⟨b,0,none⟩ (Ei rfl) u) (fun k hk _ e=>hk.2 (by subst e;exact hb))
theorem wRank1{B:Nat}{Z:Nat→Prop}{w:World}{p n:Nat}{D:WD}{O:Nat→Nat→Option ST}{vis:Int}(h:WaveE B Z w p D O n vis bA){l k:Nat}(hl:l<9)(hk:k<pw l){b1 b2 b3:Nat}(z1:Z b1)(z2:Z b2)(z3:Z b3){j:Int}{x:Bool}{v0:Value}
  (h1:Box1 w b1 (.int .i64 j) 3) (h2:Box1 w b2 (.bool x) 4) (h3:Box1 w b3 v0 3):
  Calls Tryz.prog 209 #[bQ D l k, .pointer (some ⟨b1,0,none⟩), .pointer (some ⟨b2,0,none⟩), .pointer (some ⟨b3,0,none⟩)] w fun e w'=>e= .returned (.tuple #[])∧mN B Z (fun i=>i=b3) w w' p D O n vis l k (aO (O l k)+1)∧Box1 w' b3 (.int .i64 (aJ (aF (O l k)) j.toNat x)) 3:=by
 have hb0:=aC w (.cells #[.pointer (some ⟨D.Q l k,0,none⟩), .int .i64 l, .int .i64 k] 181);obtain⟨W,hW⟩:∃W,W=w.alloc (.cells #[.pointer (some ⟨D.Q l k,0,none⟩), .int .i64 l, .int .i64 k] 181):=⟨_,rfl⟩;have hbx:=aH5 w (.cells #[.pointer (some ⟨D.Q l k,0,none⟩), .int .i64 l, .int .i64 k] 181);rw[←hW]at hb0 hbx;have c0:W.cell? ⟨w.heap.size,0,none⟩=some (.pointer (some ⟨D.Q l k,0,none⟩)):=by rw[aG7 _ w.heap.size 0 _ _ _ hbx];rfl
 have c1:=(h1.below hb0).cell;have c2:=(h2.below hb0).cell;have HE:=θ (h.below hb0);have HRK:=θ ((h.below hb0).tRank hl hk j x);have HB3:=θ (h3.below hb0);have HB0:=θ hb0;have HZ3:=θ z3;clear h h1 h2 h3 hb0 hbx z1 z2 z3 hl hk;unfold bQ;obtain⟨r,hr⟩:∃r,aJ (aF (O l k)) j.toNat x=r:=⟨_,rfl⟩;rw[hr]at HRK⊢;clear hr;obtain⟨q,hq⟩:∃q,D.Q l k=q:=⟨_,rfl⟩;rw[hq]at c0 HRK hW⊢;clear hq;subst hW;go_enter Tryz.func209,Tryz.ntmps209;go_wp2_with fail;refine HRK.o.mono ?_;rintro e w1 ⟨rfl,hE1,hC1⟩;have hb3:=HB3.o.chg hC1 (fun hk=>hk.2 HZ3.o);have HB3':=θ hb3;have c3:=hb3.cell;have f3:=hb3.frz;have HE1:=θ hE1;have HC1:=θ hC1;clear hE1 hC1 hb3 HRK;go_wp2_with fail;go_end0;refine⟨rfl,⟨HE1.o.setBox HZ3.o _,?_⟩,HB3'.out.set _⟩;exact((Chg.of_below (S:=fun j=>exT B Z j∨j=b3) HB0.o).trans (HC1.o.mono (fun j hj=>Ei hj)) (fun j hj=>Ei hj)).setCell _ (Ei (Ej rfl)) _
theorem zJ{B:Nat}{X:Nat→Prop}{w:World}{p n:Nat}{D:WD}{O:Nat→Nat→Option ST}{vis:Int}(h:WaveE B X w p D O n vis bA){l k:Nat}(hl:l<9)(hk:k<pw l)(hvis:0≤vis∧vis≤1000000000000)(hM:aO (O l k)+1≤1000000000000)(j:Int)(x:Bool):
  Calls Tryz.prog 159 #[.pointer (some ⟨p,0,none⟩),bQ D l k, .int .i64 j, .bool x] w fun e w'=>
   e= .returned (.int .i64 (aJ (aF (O l k)) j.toNat x))∧∃v:Nat,v≤aO (O l k)+1∧WaveE B X w' p D O n (vis+v) bA∧Chg (exT B X) w w':=by
 obtain⟨r,hr⟩:∃r,aJ (aF (O l k)) j.toNat x=r:=⟨_,rfl⟩;obtain⟨wa,hwa⟩:∃wa,wa=w.alloc (.cells #[.pointer (some ⟨D.Q l k,0,none⟩), .int .i64 l, .int .i64 k] 181):=⟨_,rfl⟩;obtain⟨wb,hwb⟩:∃wb,wb=wa.alloc (.cells #[.int .i64 j] 3):=⟨_,rfl⟩;obtain⟨wc,hwc⟩:∃wc,wc=wb.alloc (.cells #[.bool x] 4):=⟨_,rfl⟩;obtain⟨wd,hwd⟩:∃wd,wd=wc.alloc (.cells #[.int .i64 0] 3):=⟨_,rfl⟩;have sa:wa.heap.size=w.heap.size+1:=by rw[hwa];simp
 have sb:wb.heap.size=w.heap.size+2:=by rw[hwb];simp[sa]
 have sc:wc.heap.size=w.heap.size+3:=by rw[hwc];simp[sb]
 have ba:Below w.heap.size w wa:=by rw[hwa];exact aC w _
 have bb:Below wa.heap.size wa wb:=by rw[hwb];exact aC wa _
 have bc:Below wb.heap.size wb wc:=by rw[hwc];exact aC wb _
 have bd:Below wc.heap.size wc wd:=by rw[hwd];exact aC wc _
 have bx0:wa.heap[w.heap.size]? =some (.cells #[.pointer (some ⟨D.Q l k,0,none⟩), .int .i64 l, .int .i64 k] 181 (0,0)):=by rw[hwa];exact aH5 w _
 have bx1:Box1 wb (w.heap.size+1) (.int .i64 j) 3:=by rw[hwb,←sa];exact Box1.new wa _ _
 have bx2:Box1 wc (w.heap.size+2) (.bool x) 4:=by rw[hwc,←sb];exact Box1.new wb _ _
 have bx3:Box1 wd (w.heap.size+3) (.int .i64 0) 3:=by rw[hwd,←sc];exact Box1.new wc _ _
 have ball:Below w.heap.size w wd:=ba.trans ((bb.trans ((bc.trans (bd.mono E)).mono E)).mono E);have d0:wd.heap[w.heap.size]? =some (.cells #[.pointer (some ⟨D.Q l k,0,none⟩), .int .i64 l, .int .i64 k] 181 (0,0)):=by
  have h2:Below (w.heap.size+1) wa wd:=(bb.trans ((bc.trans (bd.mono E)).mono E)).mono E;exact(Chg.of_below (S:=fun _=>False) (h2.mono E)).heap bx0 id
 have d1:Box1 wd (w.heap.size+1) (.int .i64 j) 3:=(bx1.below bc).below bd;have d2:Box1 wd (w.heap.size+2) (.bool x) 4:=bx2.below bd;have hX4:WaveE B (fun i=>X i∨(w.heap.size≤i∧i<w.heap.size+4)) wd p D O n vis bA:=h.less ball (fun i hi=>hi.elim Ei (fun g=>Ej g.1)) (fun i hi=>hi.elim (fun g=>aA9 (h.x i g) ball.size) (fun g=>by have :=bx3.lt;omega));have HLOOK:=θ (zI hX4 hl hk hvis hM (Y:=fun i=>i=w.heap.size+3) (fun i e=>Ej E) O 209 #[.pointer (some ⟨w.heap.size+1,0,none⟩), .pointer (some ⟨w.heap.size+2,0,none⟩), .pointer (some ⟨w.heap.size+3,0,none⟩)]
  (enters_of Tryz.func209 Ek rfl) (fun w'=>Box1 w' (w.heap.size+3) (.int .i64 r) 3) (fun w1 w2 hb hc=>hb.chg hc (fun e=>by have :=h.cells.2.2.2.2;omega))
  (fun w0 Z hXZ hb hE=>by
   rw[←hr]
   exact wRank1 hE hl hk (hXZ _ (Ej E)) (hXZ _ (Ej E)) (hXZ _ (Ej E)) (d1.below hb) (d2.below hb) (bx3.below hb)))
 have c0:wd.cell? ⟨w.heap.size,0,none⟩=some (.pointer (some ⟨D.Q l k,0,none⟩)):=by rw[aG7 _ w.heap.size 0 _ _ _ d0];rfl
 have c1:wd.cell? ⟨w.heap.size,1,none⟩=some (.int .i64 l):=by rw[aG7 _ w.heap.size 1 _ _ _ d0];rfl
 have c2:wd.cell? ⟨w.heap.size,2,none⟩=some (.int .i64 k):=by rw[aG7 _ w.heap.size 2 _ _ _ d0];rfl
 have HBA:=θ ball;have HLE:=θ h.le;have HXL:=θ h.x;rw[hr];clear hr h ba bb bc bd bx0 bx1 bx2 bx3 ball d0 d1 d2 hX4 hl hk sa sb sc;unfold bQ at HLOOK⊢;obtain⟨q,hq⟩:∃q,D.Q l k=q:=⟨_,rfl⟩;rw[hq]at c0 HLOOK hwa⊢;clear hq;subst hwa hwb hwc;go_enter Tryz.func159,Tryz.ntmps159;go_wp2_with fail;rw[←hwd];refine HLOOK.o.mono ?_;rintro e w1 ⟨rfl,v,hv,hE,hC,hR⟩;have c3:=hR.cell;have HE:=θ hE;have HC:=θ hC;clear hE hC hR HLOOK c0 c1 c2 hwd;go_wp2_with fail;go_ret;refine⟨rfl,v,hv,HE.o.mono (fun i hi=>Ei hi),(Chg.of_below (S:=exT B X) HBA.o).trans HC.o (fun i hi=>?_)⟩;rcases hi with hi | hi
 ·exact Ei (bS (fun i hi=>Ei hi) hi)
 ·right;omega
def jM(O:Nat→Nat→Option ST)(L:List Nat):Prop:=∀l k,l<9→k<pw l→aF (O l k)=lvl L l k
def HiO(O:Nat→Nat→Option ST)(H:Nat):Prop:=∀l k,l<9→k<pw l→aO (O l k)≤H
def Syms(L:List Nat):Prop:=∀s∈L,s<257
theorem Syms.lt {L:List Nat}(h:Syms L):∀s∈L,s<512:=fun s hs=>by have :=h s hs;omega
theorem pX{s l:Nat}(hs:s<257)(h:l<9):pth s l<pw l:=yS E E
set_option maxRecDepth 1000000 in
theorem pQ(D:WD){l:Nat}(h:l<9)(w:World):(Instr.index 176 (rowsV D) (.int .i64 (l:Int))).run Tryz.prog w= .ok (.slice (some ⟨D.G l,0,none⟩) (pw l) (D.C l)) w:=by
 have :l=0∨l=1∨l=2∨l=3∨l=4∨l=5∨l=6∨l=7∨l=8:=E;rcases this with rfl | rfl | rfl | rfl | rfl | rfl | rfl | rfl | rfl<;>rfl
theorem Ck{B:Nat}{X:Nat→Prop}{w:World}{p:Nat}{D:WD}{O:Nat→Nat→Option ST}{L:List Nat}{vis:Int}(h:WaveE B X w p D O L.length vis bA)(hO:jM O L)(hL:Syms L)(hn:L.length≤1000000000){H:Nat}(hH:HiO O H)(hHm:H≤1000000000)(k:Int)(s:Nat)(hs:s<257):
  Calls Tryz.prog 175 #[.pointer (some ⟨p,0,none⟩), .int .i64 k, .int .i64 s] w fun e w'=>
   e= .returned (.int .i64 (aV L k.toNat s))∧∃vis':Int,0≤vis'∧vis'≤9*(H+1)∧WaveE B X w' p D O L.length vis' bA∧Chg (exT B X) w w':=by
 obtain⟨kk,hkk⟩:∃kk:Nat,kk=min k.toNat L.length:=⟨_,rfl⟩;have hkL:kk≤L.length:=E;have hrs:aV L k.toNat s=bE L 9 (pth s 9) kk:=by
  rw[mZ,Ap];unfold aV;by_cases hc:k.toNat≤L.length
  ·rw[hkk,aB2 hc]
  ·rw[hkk,Nat.min_eq_right E,az3 E,az3 (aA5 _)]
 rw[hrs];have hmm:max k 0≤(L.length:Int)→max k 0=(kk:Int):=fun h=>E;have hmx:¬max k 0≤(L.length:Int)→(L.length:Int)=(kk:Int):=fun h=>E;have hmm0:min (max k 0) (L.length:Int)=(kk:Int):=E;obtain⟨hc0,c9,c10,fz,hp⟩:=h.cells;have z10:=fz 10;have HW:=θ h;have HST:=θ (h.setVis 0);have x0:=hc0 0 E;have x1:=hc0 1 E;have x2:=hc0 2 E;have x3:=hc0 3 E;have x4:=hc0 4 E;have x5:=hc0 5 E;have x6:=hc0 6 E;have x7:=hc0 7 E;have x8:=hc0 8 E;have his:dP (s:Int)=true:=dE E E;have HIS:Hid (∀w,Calls Tryz.prog 122 #[.int .i64 s] w fun e w'=>e= .returned (.bool true)∧w=w'):=fun w=>by rw[←his];exact bU s w
 have HO:=θ hO;have HHi:=θ hH;have HLS:=θ hL;have HKL:=θ hkL;have HLEN:=θ hn;clear h hc0 fz hrs his hO hH hL hkk hmm hmx hn;go_enter Tryz.func175,Tryz.ntmps175;go_wp2_with fail;refine(HIS.o _).mono ?_;rintro e w' ⟨rfl,rfl⟩;go_wp2_with fail;clear hmm0 x0 x1 x2 x3 x4 x5 x6 x7 x8 c9 c10 z10;go_loopw [1,28] (fun v x wr=>∃l:Nat,l≤9∧x= .int .i64 l∧v= .int .i64 (bE L l (pth s l) kk:Nat)∧∃vis':Int,0≤vis'∧vis'≤l*(H+1)∧WaveE B X wr p D O L.length vis' bA∧Chg (exT B X) w wr) (fun _ x _=>9-(intOf x).toNat);case atStart=>exact⟨0,E,rfl,by rw[fS E,lE HLS.o.lt kk hkL],0,E,Es,HST.o.1,HST.o.2⟩
 case round=>as_aux_lemma=>
  clear HST HW;obtain⟨l,hl,rfl,rfl,vis',hv0,hv1,hE,hC⟩:=hrel;have HE:=θ hE;have HC:=θ hC;clear hE hC;by_cases hlt:l<9
  ·have hix:∀w:World,(Instr.index 176 (.agg #[D.row 0,D.row 1,D.row 2,D.row 3,D.row 4,D.row 5,D.row 6,D.row 7,D.row 8]) (.int .i64 (l:Int))).run Tryz.prog w= .ok (.slice (some ⟨D.G l,0,none⟩) (pw l) (D.C l)) w:=pQ D hlt;have hpp:=pX hs hlt;obtain⟨r0,r1,r2⟩:=HE.o.shelf hlt hpp;have HSF:Hid (∀(w':World) (v:Int),WaveE B X w' p D O L.length v bA→w'.cell? ⟨D.G l,pth s l*3,none⟩=some (.pointer (some ⟨D.Q l (pth s l),0,none⟩))∧w'.cell? ⟨D.G l,pth s l*3+1,none⟩=some (.int .i64 l)∧w'.cell? ⟨D.G l,pth s l*3+2,none⟩=some (.int .i64 (pth s l:Nat))):=fun w' v h=>h.shelf hlt hpp;have HPA:=θ (fun w=>qW hs hl w);have HBI:=θ (fun w=>tA hs hlt w);have hHl:=HHi.o l (pth s l) hlt hpp;have hv1':vis'≤9*((H:Int)+1):=by
    have h1:(l:Int)*((H:Int)+1)≤9*((H:Int)+1):=am9 E E;omega
   have HRK:=θ (fun(w':World) (h:WaveE B X w' p D O L.length vis' bA)=>zJ h hlt hpp ⟨hv0,E⟩ E (bE L l (pth s l) kk:Nat) (cV s l));have HNX:Hid (aJ (aF (O l (pth s l))) (((bE L l (pth s l) kk:Nat):Int)).toNat (cV s l)=bE L (l+1) (pth s (l+1)) kk):=by
    show _=_;rw[HO.o l _ hlt hpp,ao2,kC L hlt,gP hlt]
   have HVB:Hid (∀v:Nat,v≤aO (O l (pth s l))+1→0≤vis'+(v:Int)∧vis'+(v:Int)≤((l+1:Nat):Int)*((H:Int)+1)):=fun v hv=>by
    have e:((l+1:Nat):Int)*((H:Int)+1)=(l:Int)*((H:Int)+1)+((H:Int)+1):=by push_cast;rw[Int.add_mul];omega
    rw[e];constructor<;>omega
   rw[HNX.o]at HRK;clear hHl hv1' HNX hv0 hv1;generalize pth s l=π at *;generalize cV s l=bt at *;have i0:(0:Int)≤(π:Int):=E;have i1:(π:Int)<((pw l:Nat):Int):=E;unfold bQ at HRK;generalize D.Q l π=q at *;generalize D.G l=g at *;generalize D.C l=gc at *;go_wp2_with fail;refine aE (fun w'=>w'.cell? ⟨g,π*3,none⟩=some (.pointer (some ⟨q,0,none⟩))∧w'.cell? ⟨g,π*3+1,none⟩=some (.int .i64 l)∧w'.cell? ⟨g,π*3+2,none⟩=some (.int .i64 π)) Ek ?hirk (fun hh=>?_);case hirk=>(refine⟨?_,?_,?_⟩<;>go_simp)
   refine rt 0 hh ?_;refine rt 1 hh ?_;refine rt 2 hh ?_;refine rt 3 hh ?_;refine rt 7 hh ?_;refine rt 8 hh ?_;refine rt 9 hh ?_;refine rg 4 fun κ hK=>?_;go_simp
   ((refine(HPA.o _).mono ?_))
   rintro e w2 ⟨rfl,rfl⟩;refine hK.out _ _ hh ?_;intro hh;try simp only[pt]
   refine rt 5 hh ?_;refine rt 6 hh ?_;refine rg 10 fun κ hK=>?_;go_simp
   ((refine(HBI.o _).mono ?_))
   rintro e w2 ⟨rfl,rfl⟩;refine hK.out _ _ hh ?_;intro hh;try simp only[pt]
   refine rg 11 fun κ hK=>?_;go_simp
   ((refine(HRK.o _ (HE.o.drewN 1)).mono ?_))
   rintro e w2 ⟨rfl,v1,hv1,hE1,hC1⟩;have HE1:=θ hE1;have HC1:=θ hC1;have HSH:=θ (HSF.o _ _ hE1);clear hE1 hC1;refine hK.out _ _ (HSH.o) ?_;intro hh;try simp only[pt]
   refine rt 12 hh ?_;refine rz ?_;clear hh;go_wp2_with fail;go_roundw;case rel=>exact⟨l+1,E,by go_num,rfl,_,(HVB.o v1 hv1).1,(HVB.o v1 hv1).2,HE1.o,(HC.o.drewN 1).trans HC1.o (fun j hj=>Ei hj)⟩
   case measure=>simp[intOf];omega
  ·obtain rfl:l=9:=E;go_wp2_with fail;go_ret;exact⟨rfl,vis',hv0,by simpa using hv1,HE.o,HC.o⟩
theorem wNext(D:WD){l k:Nat}(hk:k<256)(b:Bool)(w:World):
  Calls Tryz.prog 160 #[bQ D l k, .bool b] w fun e w'=>e= .returned (.int .i64 (2*k+pF b:Nat))∧Below w.heap.size w w':=by
 have hb0:=θ (aC w (.cells #[.pointer (some ⟨D.Q l k,0,none⟩), .int .i64 l, .int .i64 k] 181));unfold bQ;generalize D.Q l k=q at *;cases b
 ·go_enter Tryz.func160,Tryz.ntmps160;go_wp2_with fail;go_ret;exact⟨aT (by simp[pF]),hb0.out⟩
 ·go_enter Tryz.func160,Tryz.ntmps160;go_wp2_with fail;go_ret;exact⟨aT (by simp[pF]),hb0.out⟩
theorem wGet1{B:Nat}{Z:Nat→Prop}{w:World}{p n:Nat}{D:WD}{O:Nat→Nat→Option ST}{vis:Int}(h:WaveE B Z w p D O n vis bA){l k:Nat}(hl:l<9)(hk:k<pw l){b1 b2:Nat}(z1:Z b1)(z2:Z b2){j:Nat}(hj:j<(aF (O l k)).length){v0:Value}
  (h1:Box1 w b1 (.int .i64 j) 3) (h2:Box1 w b2 v0 4):
  Calls Tryz.prog 157 #[bQ D l k, .pointer (some ⟨b1,0,none⟩), .pointer (some ⟨b2,0,none⟩)] w fun e w'=>e= .returned (.tuple #[])∧mN B Z (fun i=>i=b2) w w' p D O n vis l k (aO (O l k)+1)∧Box1 w' b2 (.bool (aR (aF (O l k)) j)) 4:=by
 have hb0:=aC w (.cells #[.pointer (some ⟨D.Q l k,0,none⟩), .int .i64 l, .int .i64 k] 181);obtain⟨W,hW⟩:∃W,W=w.alloc (.cells #[.pointer (some ⟨D.Q l k,0,none⟩), .int .i64 l, .int .i64 k] 181):=⟨_,rfl⟩;rw[←hW]at hb0;have c1:=(h1.below hb0).cell;have HRK:=θ ((h.below hb0).tGet hl hk j hj);have HB2:=θ (h2.below hb0);have HB0:=θ hb0;have HZ2:=θ z2;clear h h1 h2 hb0 z1 z2 hl hk hj;unfold bQ;obtain⟨r,hr⟩:∃r,aR (aF (O l k)) j=r:=⟨_,rfl⟩;rw[hr]at HRK⊢;clear hr;obtain⟨q,hq⟩:∃q,D.Q l k=q:=⟨_,rfl⟩;rw[hq]at HRK hW⊢;clear hq;subst hW;go_enter Tryz.func157,Tryz.ntmps157;go_wp2_with fail;refine HRK.o.mono ?_;rintro e w1 ⟨rfl,hE1,hC1⟩;have hb2:=HB2.o.chg hC1 (fun hk=>hk.2 HZ2.o);have HB2':=θ hb2;have c3:=hb2.cell;have f3:=hb2.frz;have HE1:=θ hE1;have HC1:=θ hC1;clear hE1 hC1 hb2 HRK;go_wp2_with fail;go_end0;refine⟨rfl,⟨HE1.o.setBox HZ2.o _,?_⟩,HB2'.out.set _⟩;exact((Chg.of_below (S:=fun j=>exT B Z j∨j=b2) HB0.o).trans (HC1.o.mono (fun j hj=>Ei hj)) (fun j hj=>Ei hj)).setCell _ (Ei (Ej rfl)) _
def Box3(w:World)(b:Nat)(v0 v1 v2:Value)(T:TypeId):Prop:=w.heap[b]? =some (.cells #[v0,v1,v2] T (0,0))
theorem Box3.cells {w:World}{b:Nat}{v0 v1 v2:Value}{T:TypeId}(h:Box3 w b v0 v1 v2 T):w.cell? ⟨b,0,none⟩=some v0∧w.cell? ⟨b,1,none⟩=some v1∧w.cell? ⟨b,2,none⟩=some v2:=
 ⟨by rw[aG7 w b 0 _ _ _ h];rfl,by rw[aG7 w b 1 _ _ _ h];rfl,by rw[aG7 w b 2 _ _ _ h];rfl⟩
theorem Box3.chg {w w':World}{b:Nat}{v0 v1 v2:Value}{T:TypeId}{S:Nat→Prop}(h:Box3 w b v0 v1 v2 T)(hc:Chg S w w')(hn:¬S b):Box3 w' b v0 v1 v2 T:=hc.heap h hn
theorem Box3.lt {w:World}{b:Nat}{v0 v1 v2:Value}{T:TypeId}(h:Box3 w b v0 v1 v2 T):b<w.heap.size:=(am0.1 h).1
theorem keepB{w w':World}{b b':Nat}{v0 v1 v2 v3:Value}(h:(w.cell? ⟨b,0,none⟩=some v0∧w.cell? ⟨b,1,none⟩=some v1∧w.cell? ⟨b,2,none⟩=some v2)∧w.cell? ⟨b',0,none⟩=some v3)(hb:Below w.heap.size w w'):
  (w'.cell? ⟨b,0,none⟩=some v0∧w'.cell? ⟨b,1,none⟩=some v1∧w'.cell? ⟨b,2,none⟩=some v2)∧w'.cell? ⟨b',0,none⟩=some v3:=by
 have h1:=aF8 w _ h.1.1;have h2:=aF8 w _ h.2;exact⟨⟨(hb.cell (p:=⟨b,0,none⟩) h1).trans h.1.1,(hb.cell (p:=⟨b,1,none⟩) h1).trans h.1.2.1,(hb.cell (p:=⟨b,2,none⟩) h1).trans h.1.2.2⟩,(hb.cell (p:=⟨b',0,none⟩) h2).trans h.2⟩
theorem keepSt{w:World}{b b' c:Nat}{v0 v1 v2 v3 u:Value}(h:(w.cell? ⟨b,0,none⟩=some v0∧w.cell? ⟨b,1,none⟩=some v1∧w.cell? ⟨b,2,none⟩=some v2)∧w.cell? ⟨b',0,none⟩=some v3)(hb:b≠c)(hb':b'≠c):
  ((w.setCell ⟨c,0,none⟩ u).cell? ⟨b,0,none⟩=some v0∧(w.setCell ⟨c,0,none⟩ u).cell? ⟨b,1,none⟩=some v1∧(w.setCell ⟨c,0,none⟩ u).cell? ⟨b,2,none⟩=some v2)∧(w.setCell ⟨c,0,none⟩ u).cell? ⟨b',0,none⟩=some v3:=by
 have hc:Chg (fun j=>j=c) w (w.setCell ⟨c,0,none⟩ u):=Chg.refl.setCell (S:=fun j=>j=c) ⟨c,0,none⟩ (Ei rfl) u;exact⟨⟨hc.cell (p:=⟨b,0,none⟩) h.1.1 hb,hc.cell (p:=⟨b,1,none⟩) h.1.2.1 hb,hc.cell (p:=⟨b,2,none⟩) h.1.2.2 hb⟩,hc.cell (p:=⟨b',0,none⟩) h.2 hb'⟩
theorem Hm{B:Nat}{X:Nat→Prop}{w:World}{p:Nat}{D:WD}{O:Nat→Nat→Option ST}{L:List Nat}{vis:Int}(h:WaveE B X w p D O L.length vis bA)(hO:jM O L)(hL:Syms L)(hn:L.length≤1000000000){H:Nat}(hH:HiO O H)(hHm:H≤1000000000)(k s:Nat)(hk:L[k]? =some s):
  Calls Tryz.prog 102 #[.pointer (some ⟨p,0,none⟩), .int .i64 k] w fun e w'=>
   e= .returned (.tuple #[.int .i64 s, .int .i64 0])∧∃vis':Int,0≤vis'∧vis'≤18*(H+1)∧WaveE B X w' p D O L.length vis' bA∧Chg (exT B X) w w':=by
 have hkL:=(ar5.1 hk).1;have hs:s<257:=hL s (ax2 hk);have hb0:=aC w (.cells #[.int .i64 k] 3);obtain⟨W,hW⟩:∃W,W=w.alloc (.cells #[.int .i64 k] 3):=⟨_,rfl⟩;have hbx:Box1 W w.heap.size (.int .i64 k) 3:=by rw[hW];exact Box1.new w _ _
 rw[←hW]at hb0;have hX1:WaveE B (fun i=>X i∨i=w.heap.size) W p D O L.length vis bA:=h.less hb0 (fun i hi=>hi.elim Ei (fun e=>Ej E)) (fun i hi=>hi.elim (fun g=>aA9 (h.x i g) hb0.size) (fun e=>by subst e;exact hbx.lt));have hpn:p≠w.heap.size:=by have :=h.cells.2.2.2.2;omega
 have HX:=θ h.x;have HLE:=θ h.le;obtain⟨hc0,c9,c10,fz,hp⟩:=hX1.cells;have z10:=fz 10;have kc:=hbx.cell;have HST:=θ (hX1.setVis 0);have HKB:Hid (∀v,Box1 (W.setCell ⟨p,10,none⟩ v) w.heap.size (.int .i64 k) 3):=fun v=>hbx.chg (S:=fun j=>j=p) (Chg.refl.setCell (S:=fun j=>j=p) ⟨p,10,none⟩ (Ei rfl) _) (fun e=>hpn e.symm);have HB0:=θ hb0;have x0:=hc0 0 E;have x1:=hc0 1 E;have x2:=hc0 2 E;have x3:=hc0 3 E;have x4:=hc0 4 E;have x5:=hc0 5 E;have x6:=hc0 6 E;have x7:=hc0 7 E;have x8:=hc0 8 E;have HO:=θ hO;have HHi:=θ hH;have HLS:=θ hL;have HK:=θ hk;have HLEN:=θ hn;have d0:decide ((k:Int)<0)=false:=aG9 E;have d1:decide (L.length≤k)=false:=aG9 E;have d2:decide ((L.length:Int)≤(k:Int))=false:=aG9 E;have HPN:=θ hpn;clear h hc0 fz hO hH hL hn hX1 hb0 hbx hk;subst hW;go_enter Tryz.func102,Tryz.ntmps102;go_wp2_with fail;go_quiet (fail);go_wp2_with fail;have HS0:Hid (WaveE B (fun i=>X i∨i=w.heap.size) (((w.alloc (.cells #[.int .i64 k] 3)).setCell ⟨p,10,none⟩ (.int .i64 0)).drewN nq) p D O L.length 0 bA∧Box1 (((w.alloc (.cells #[.int .i64 k] 3)).setCell ⟨p,10,none⟩ (.int .i64 0)).drewN nq) w.heap.size (.int .i64 k) 3∧Chg (exT B X) w (((w.alloc (.cells #[.int .i64 k] 3)).setCell ⟨p,10,none⟩ (.int .i64 0)).drewN nq)):=
  ⟨HST.o.1.drewN nq,HKB.o _,((Chg.of_below (S:=exT B X) HB0.o).trans (HST.o.2.mono (fun j hj=>bS (fun i hi=>Ei hi) hj)) (fun j hj=>Ei hj)).drewN nq⟩
 generalize ((w.alloc (.cells #[.int .i64 k] 3)).setCell ⟨p,10,none⟩ (.int .i64 0)).drewN nq=ws at *;clear HST HKB HB0 x0 x1 x2 x3 x4 x5 x6 x7 x8 c9 c10 z10 kc d0 d1 d2 hp hpn;go_loopw [6,30] (fun v x wr=>∃l:Nat,l≤9∧x= .int .i64 l∧v= .int .i64 (pth s l:Nat)∧∃vis':Int,0≤vis'∧vis'≤l*(2*(H+1))∧WaveE B (fun i=>X i∨i=w.heap.size) wr p D O L.length vis' bA∧Box1 wr w.heap.size (.int .i64 (bE L l (pth s l) k:Nat)) 3∧Chg (exT B X) w wr) (fun _ x _=>9-(intOf x).toNat);case atStart=>exact⟨0,E,rfl,by rw[fS E];rfl,0,E,Es,HS0.o.1,by rw[fS E,lE HLS.o.lt k E];exact HS0.o.2.1,HS0.o.2.2⟩
 case round=>as_aux_lemma=>
  clear HS0;obtain⟨l,hl,rfl,rfl,vis',hv0,hv1,hE,hKB,hC⟩:=hrel;by_cases hlt:l<9
  ·have hix:∀w:World,(Instr.index 176 (.agg #[D.row 0,D.row 1,D.row 2,D.row 3,D.row 4,D.row 5,D.row 6,D.row 7,D.row 8]) (.int .i64 (l:Int))).run Tryz.prog w= .ok (.slice (some ⟨D.G l,0,none⟩) (pw l) (D.C l)) w:=pQ D hlt;have hpp:=pX hs hlt;have hpl:=tH hlt;obtain⟨r0,r1,r2⟩:=hE.shelf hlt hpp;obtain⟨g1,g2⟩:=yK HK.o l;have hHl:=HHi.o l (pth s l) hlt hpp;have hv1':vis'≤9*(2*((H:Int)+1)):=by
    have h1:(l:Int)*(2*((H:Int)+1))≤9*(2*((H:Int)+1)):=am9 E E;omega
   obtain⟨π,hπ⟩:∃π,pth s l=π:=⟨_,rfl⟩;obtain⟨bt,hbt⟩:∃bt,cV s l=bt:=⟨_,rfl⟩;obtain⟨ct,hct⟩:∃ct,bE L l (pth s l) k=ct:=⟨_,rfl⟩;have HOB:=HO.o l (pth s l) hlt hpp;have hnx:aJ (aF (O l π)) ct bt=bE L (l+1) (pth s (l+1)) k:=by
    rw[←hπ,←hbt,←hct,HOB,kC L hlt,gP hlt]
   have hpn:2*π+pF bt=pth s (l+1):=by rw[←hπ,←hbt,gP hlt]
   rw[hct]at hKB g1 g2;rw[hπ]at hpp r0 r1 r2 g1 g2 hHl HOB⊢;rw[hbt]at g2;rw[←HOB]at g1 g2;obtain⟨wa,hwa⟩:∃wa,wa=wr.alloc (.cells #[.pointer (some ⟨D.Q l π,0,none⟩), .int .i64 l, .int .i64 π] 181):=⟨_,rfl⟩;obtain⟨wb,hwb⟩:∃wb,wb=wa.alloc (.cells #[.bool false] 4):=⟨_,rfl⟩;have sa:wa.heap.size=wr.heap.size+1:=by rw[hwa];simp
   have ba:Below wr.heap.size wr wa:=by rw[hwa];exact aC wr _
   have bb:Below wa.heap.size wa wb:=by rw[hwb];exact aC wa _
   have ball:Below wr.heap.size wr wb:=ba.trans (bb.mono ba.size);have bx9:Box3 wb wr.heap.size (.pointer (some ⟨D.Q l π,0,none⟩)) (.int .i64 l) (.int .i64 π) 181:=(Chg.of_below (S:=fun _=>False) bb).heap (by rw[hwa];exact aH5 wr _) id;have bx10:Box1 wb (wr.heap.size+1) (.bool false) 4:=by rw[hwb,←sa];exact Box1.new wa _ _
   have hkl:=hKB.lt;have hX3:WaveE B (fun i=>(X i∨i=w.heap.size)∨(i=wr.heap.size∨i=wr.heap.size+1)) wb p D O L.length vis' bA:=hE.less ball (fun i hi=>hi.elim Ei (fun g=>Ej E)) (fun i hi=>hi.elim (fun g=>aA9 (hE.x i g) ball.size) (fun g=>by have :=bx10.lt;omega));have HLOOK:=θ (zI hX3 hlt hpp ⟨hv0,E⟩ (M:=aO (O l π)+1) E (Y:=fun i=>i=wr.heap.size+1) (fun i e=>Ej (Ej e)) O 157 #[.pointer (some ⟨w.heap.size,0,none⟩), .pointer (some ⟨wr.heap.size+1,0,none⟩)]
    (enters_of Tryz.func157 Ek rfl) (fun w'=>Box1 w' (wr.heap.size+1) (.bool bt) 4) (fun w1 w2 hb hc=>hb.chg hc (fun e=>by have :=hE.cells.2.2.2.2;omega))
    (fun w0 Z hXZ hb hE0=>by
     have :=wGet1 hE0 hlt hpp (hXZ _ (Ei (Ej rfl))) (hXZ _ (Ej (Ej rfl))) g1 ((hKB.below ball).below hb) (bx10.below hb)
     rw[g2]at this;exact this))
   have HBL:Hid (Below wr.heap.size wr wb):=ball;have HB9:=θ bx9;have HKB2:=θ (hKB.below ball);have HKL:=θ hkl;have hwE:=hE.le;have HC:=θ hC;have HNX:=θ hnx;have HPN2:=θ hpn;have HVB:Hid (∀v1 v2:Nat,v1≤aO (O l π)+1→v2≤aO (O l π)+1→0≤vis'+(v1:Int)+(v2:Int)∧vis'+(v1:Int)+(v2:Int)≤((l+1:Nat):Int)*(2*((H:Int)+1))):=fun v1 v2 h1 h2=>by
    have e:((l+1:Nat):Int)*(2*((H:Int)+1))=(l:Int)*(2*((H:Int)+1))+2*((H:Int)+1):=by push_cast;rw[Int.add_mul];omega
    rw[e];constructor<;>omega
   have HRK:Hid (∀(w':World) (v:Nat),v≤aO (O l π)+1→WaveE B (fun i=>(X i∨i=w.heap.size)∨(i=wr.heap.size∨i=wr.heap.size+1)) w' p D O L.length (vis'+v) bA→Calls Tryz.prog 159 #[.pointer (some ⟨p,0,none⟩),bQ D l π, .int .i64 ct, .bool bt] w' fun e w''=>
     e= .returned (.int .i64 (bE L (l+1) (pth s (l+1)) k:Nat))∧∃v':Nat,v'≤aO (O l π)+1∧WaveE B (fun i=>(X i∨i=w.heap.size)∨(i=wr.heap.size∨i=wr.heap.size+1)) w'' p D O L.length (vis'+v+v') bA∧Chg (exT B (fun i=>(X i∨i=w.heap.size)∨(i=wr.heap.size∨i=wr.heap.size+1))) w' w''):=fun w' v hv h=>by
    have :=zJ h hlt hpp ⟨E,E⟩ E (ct:Int) bt;rw[ao2,hnx]at this;exact this
   have HNXT:Hid (∀w',Calls Tryz.prog 160 #[bQ D l π, .bool bt] w' fun e w''=>e= .returned (.int .i64 (pth s (l+1):Nat))∧Below w'.heap.size w' w''):=fun w'=>by
    have :=wNext D (l:=l) (k:=π) E bt w';rw[hpn]at this;exact this
   have i0:(0:Int)≤(π:Int):=E;have i1:(π:Int)<((pw l:Nat):Int):=E;have HPP:=θ hpp;clear hE hKB hC HOB g1 g2 hHl hv1' hv0 hv1 hct hπ hbt hnx hpn sa ba bb ball bx9 bx10 hkl hX3 hpp hpl;unfold bQ at HLOOK HRK HNXT;generalize D.Q l π=q at *;generalize D.G l=g at *;generalize D.C l=gc at *;subst hwa;go_wp2_with fail;rw[←hwb];refine HLOOK.o.mono ?_;rintro e w2 ⟨rfl,v1,hv1,hE2,hC2,hR2⟩;have hb9:Box3 w2 wr.heap.size (.pointer (some ⟨q,0,none⟩)) (.int .i64 l) (.int .i64 π) 181:=hC2.heap HB9.o (fun hk=>hk.elim (fun hk=>hk.2 (Ej (Ei rfl))) (fun e=>E));have hkb2:=HKB2.o.chg hC2 (fun hk=>hk.elim (fun hk=>hk.2 (Ei (Ej rfl))) (fun e=>by have :=HKL.o;omega));obtain⟨b90,b91,b92⟩:=hb9.cells;have b10:=hR2.cell;have kc2:=hkb2.cell;have HSK:Hid (∀w',Chg (exT B (fun i=>(X i∨i=w.heap.size)∨(i=wr.heap.size∨i=wr.heap.size+1))) (w2.drewN 1) w'→(w'.cell? ⟨wr.heap.size,0,none⟩=some (.pointer (some ⟨q,0,none⟩))∧w'.cell? ⟨wr.heap.size,1,none⟩=some (.int .i64 l)∧w'.cell? ⟨wr.heap.size,2,none⟩=some (.int .i64 π))∧w'.cell? ⟨wr.heap.size+1,0,none⟩=some (.bool bt)):=fun w' hc=>by
    have h9:Box3 w' wr.heap.size (.pointer (some ⟨q,0,none⟩)) (.int .i64 l) (.int .i64 π) 181:=hc.heap hb9 (fun hk=>hk.2 (Ej (Ei rfl)));have h10:Box1 w' (wr.heap.size+1) (.bool bt) 4:=Box1.chg (w:=w2.drewN 1) hR2 hc (fun hk=>hk.2 (Ej (Ej rfl)));exact⟨h9.cells,h10.cell⟩
   have HE2:=θ hE2;have HKB3:=θ hkb2;have HW2:Hid (Chg (exT B X) w w2):=(HC.o.trans (Chg.of_below (S:=exT B X) HBL.o) (fun j hj=>Ei hj)).trans hC2 (fun j hj=>hj.elim (fun h=>Ei (bS (fun i hi=>Ei (Ei hi)) h)) (fun e=>by right;have :=HKL.o;omega));clear hE2 hC2 hR2 hb9 hkb2 HLOOK HB9 HKB2 HBL HC hwb;go_wp2_with fail;refine aE (fun w'=>(w'.cell? ⟨wr.heap.size,0,none⟩=some (.pointer (some ⟨q,0,none⟩))∧w'.cell? ⟨wr.heap.size,1,none⟩=some (.int .i64 l)∧w'.cell? ⟨wr.heap.size,2,none⟩=some (.int .i64 π))∧w'.cell? ⟨wr.heap.size+1,0,none⟩=some (.bool bt)) Ek (HSK.o _ Chg.refl) (fun hh=>?_);refine rt 0 hh ?_;refine rt 1 hh ?_;refine rt 3 hh ?_;refine rt 5 hh ?_;refine rt 6 hh ?_;refine rg 2 fun κ hK=>?_;go_simp;refine hK.out _ _ hh ?_;intro hh;try simp only[pt]
   refine rg 4 fun κ hK=>?_;go_simp
   ((refine(HRK.o _ v1 hv1 (HE2.o.drewN 1)).mono ?_))
   rintro e w3 ⟨rfl,v2,hv2,hE3,hC3⟩;have HE3:=θ hE3;have HC3:=θ hC3;clear hE3 hC3;refine hK.out _ _ (HSK.o _ HC3.o) ?_;intro hh;try simp only[pt]
   refine rg 7 fun κ hK=>?_;go_simp
   ((refine(HNXT.o _).mono ?_))
   rintro e w4 ⟨rfl,hb4⟩;have hk4:=(Box1.chg (w:=w2.drewN 1) HKB3.o HC3.o (fun hk=>hk.2 (Ei (Ej rfl)))).below hb4;have k4:=hk4.cell;have f4:=hk4.frz;have HK4:=θ hk4;have HE4:=θ (HE3.o.below hb4);have HW4:Hid (Chg (exT B X) w w4):=((HW2.o.drewN 1).trans HC3.o (fun j hj=>Ei (bS (fun i hi=>Ei (Ei hi)) hj))).trans (Chg.of_below (S:=exT B X) hb4) (fun j hj=>Ei hj);clear hk4;refine hK.out _ _ (keepB hh hb4) ?_;intro hh;try simp only[pt]
   refine rg 8 fun κ hK=>?_;go_simp;refine hK.out _ _ (keepSt hh (by have :=HKL.o;omega) (by have :=HKL.o;omega)) ?_;intro hh;try simp only[pt]
   refine rt 9 hh ?_;refine rz ?_;clear hh;go_wp2_with fail;go_roundw;case rel=>exact⟨l+1,E,by go_num,rfl,_,(HVB.o v1 v2 hv1 hv2).1,(HVB.o v1 v2 hv1 hv2).2,(HE4.o.mono (fun i hi=>Ei hi)).chg (Z:=fun j=>j=w.heap.size) (Chg.refl.setCell (S:=fun j=>j=w.heap.size) ⟨w.heap.size,0,none⟩ (Ei rfl) _) (fun k hk _ e=>hk.2 (Ej e)),HK4.o.set _,HW4.o.setCell _ (Ej (aA5 _)) _⟩
   case measure=>simp[intOf];omega
  ·obtain rfl:l=9:=E;have hp9:=mZ s;have HC:=θ hC;have HE:=θ hE;clear hC hE hKB;go_wp2_with fail;go_ret2;exact⟨by rw[hp9];rfl,vis',hv0,E,HE.o.mono (fun i hi=>Ei hi),HC.o⟩
def iV(L:List Nat)(j:Int)(s:Nat):Int:=match (List.range L.length).find? fun i=>decide (L[i]? =some s)&&decide ((aV L i s:Int)=j)with
 | some i=>(i:Int)
 | none=> -1
theorem mD{L:List Nat}{k:Nat}(s:Nat)(h:k<L.length):aV L (k+1) s=aV L k s+(if L[k]? =some s then 1 else 0):=by
 unfold aV;rw[ay9,ar3 h,aD5,ap8,List.count_singleton];congr 1;by_cases e:L[k]=s<;>simp[e]
theorem fU(L:List Nat){i j:Nat}(s:Nat)(h:i≤j):aV L i s≤aV L j s:=by
 unfold aV;exact List.Sublist.count_le _ (List.take_sublist_take_left h)
theorem mC{L:List Nat}{k:Nat}(s:Nat)(h:L.length≤k):aV L k s=L.count s:=by unfold aV;rw[az3 h]
theorem kN(L:List Nat)(k s:Nat):aV L k s≤k∧aV L k s≤L.count s:=by
 constructor
 ·unfold aV;have :=List.count_le_length (a:=s) (l:=L.take k);rw[at5]at this;omega
 ·rw[←mC (L:=L) (k:=max k L.length) s E];exact fU L s E
theorem Gi{L:List Nat}{k s:Nat}{j:Int}(hk:L[k]? =some s)(hp:(aV L k s:Int)=j):iV L j s=k:=by
 have hlt:=(ar5.1 hk).1;unfold iV;have :(List.range L.length).find? (fun i=>decide (L[i]? =some s)&&decide ((aV L i s:Int)=j))=some k:=by
  rw[List.find?_range_eq_some];refine⟨by simp[hk,hp],by simpa using hlt,fun i hi=>?_⟩;simp only[Bool.not_eq_true',Bool.and_eq_false_iff,aH0];by_cases e:L[i]? =some s
  ·right;have h1:=mD s (L:=L) (k:=i) E;rw[aH9 e]at h1;have h2:=fU L (i:=i+1) (j:=k) s E;omega
  ·exact Ei e
 rw[this]
theorem Cc{L:List Nat}{j:Int}{s:Nat}(h:∀i,L[i]? =some s→(aV L i s:Int)≠j):iV L j s= -1:=by
 unfold iV;have :(List.range L.length).find? (fun i=>decide (L[i]? =some s)&&decide ((aV L i s:Int)=j))=none:=by
  rw[List.find?_eq_none];intro i _;simp only[am5,aH2,not_and];exact fun e=>h i e
 rw[this]
theorem Zq{L:List Nat}{j:Int}{s:Nat}(h:j<0):iV L j s= -1:=Cc (fun i _=>E)
theorem To{L:List Nat}{j:Int}{s:Nat}(h:(L.count s:Int)≤j):iV L j s= -1:=Cc (fun i hi=>by
 have hlt:=(ar5.1 hi).1;have h1:=mD s hlt;rw[aH9 hi]at h1;have h2:=(kN L (i+1) s).2;omega)
theorem Ad:∀(n:Nat) (L:List Nat) (s j:Nat),n≤L.length→j<aV L n s→∃k,k<n∧L[k]? =some s∧aV L k s=j
 | 0,L,s,j,_,h=>by simp[aV]at h
 | n+1,L,s,j,hn,h=>by
  have h1:=mD s (L:=L) (k:=n) E;by_cases e:L[n]? =some s
  ·rw[aH9 e]at h1;by_cases e2:j=aV L n s
   ·exact⟨n,E,e,e2.symm⟩
   ·obtain⟨k,a,b,c⟩:=Ad n L s j E E;exact⟨k,E,b,c⟩
  ·rw[aH8 e]at h1;obtain⟨k,a,b,c⟩:=Ad n L s j E E;exact⟨k,E,b,c⟩
theorem Qz{w:World}{a b c d:Nat}{va vb vc u:Value}(h:w.cell? ⟨a,0,none⟩=some va∧w.cell? ⟨b,0,none⟩=some vb∧w.cell? ⟨c,0,none⟩=some vc)(hn:a≠d∧b≠d∧c≠d):
  (w.setCell ⟨d,0,none⟩ u).cell? ⟨a,0,none⟩=some va∧(w.setCell ⟨d,0,none⟩ u).cell? ⟨b,0,none⟩=some vb∧(w.setCell ⟨d,0,none⟩ u).cell? ⟨c,0,none⟩=some vc:=by
 have hc:Chg (fun j=>j=d) w (w.setCell ⟨d,0,none⟩ u):=Chg.refl.setCell (S:=fun j=>j=d) ⟨d,0,none⟩ (Ei rfl) u;exact⟨hc.cell (p:=⟨a,0,none⟩) h.1 hn.1,hc.cell (p:=⟨b,0,none⟩) h.2.1 hn.2.1,hc.cell (p:=⟨c,0,none⟩) h.2.2 hn.2.2⟩
theorem wSel1{B:Nat}{Z:Nat→Prop}{w:World}{p n:Nat}{D:WD}{O:Nat→Nat→Option ST}{vis:Int}(h:WaveE B Z w p D O n vis bA)(hTab:BitTab w)(hN:0<B){l k s:Nat}(hs:s<257)(hl:l<9)(hk:k<pw l){b1 b2 b3:Nat}(z1:Z b1)(z2:Z b2)(z3:Z b3)(hn2:b2≠b1)(hn3:b3≠b1){j:Int}
  (h1:Box1 w b1 (.int .i64 j) 3) (h2:Box1 w b2 (.int .i64 s) 3) (h3:Box1 w b3 (.int .i64 l) 3):
  Calls Tryz.prog 177 #[bQ D l k, .pointer (some ⟨b1,0,none⟩), .pointer (some ⟨b2,0,none⟩), .pointer (some ⟨b3,0,none⟩)] w fun e w'=>e= .returned (.tuple #[])∧mN B Z (fun i=>i=b1) w w' p D O n vis l k (aO (O l k)+1)∧Box1 w' b1 (.int .i64 (cF (aF (O l k)) j (cV s l))) 3:=by
 have hb0:=aC w (.cells #[.pointer (some ⟨D.Q l k,0,none⟩), .int .i64 l, .int .i64 k] 181);obtain⟨W,hW⟩:∃W,W=w.alloc (.cells #[.pointer (some ⟨D.Q l k,0,none⟩), .int .i64 l, .int .i64 k] 181):=⟨_,rfl⟩;have hbx:Box3 W w.heap.size (.pointer (some ⟨D.Q l k,0,none⟩)) (.int .i64 l) (.int .i64 k) 181:=by rw[hW];exact aH5 w _
 rw[←hW]at hb0;have c1:=(h1.below hb0).cell;have c2:=(h2.below hb0).cell;have c3:=(h3.below hb0).cell;have HBIT:=θ (fun w=>tA hs hl w);have hE':WaveE B (fun i=>Z i∨i=w.heap.size) W p D O n vis bA:=h.less hb0 (fun i hi=>hi.elim Ei (fun e=>Ej E)) (fun i hi=>hi.elim (fun g=>aA9 (h.x i g) hb0.size) (fun e=>by subst e;exact hbx.lt));have HSEL:=θ ((hE'.drewN 1).tSelect hl hk (BitTab.below' hTab ⟨hb0.os,hb0.tape,hb0.output,hb0.size,hb0.block⟩) hN j (cV s l));have HB1:=θ (h1.below hb0);have HB0:=θ hb0;have HZ1:=θ z1;have hsbx:=hbx.cells.1;have HSK:Hid (∀w',Chg (exT B (fun i=>Z i∨i=w.heap.size)) (W.drewN 1) w'→(w'.cell? ⟨w.heap.size,0,none⟩=some (.pointer (some ⟨D.Q l k,0,none⟩))∧w'.cell? ⟨b2,0,none⟩=some (.int .i64 s)∧w'.cell? ⟨b3,0,none⟩=some (.int .i64 l))):=fun w' hc=>
  ⟨(Box3.chg (w:=W.drewN 1) hbx hc (fun hk=>hk.2 (Ej rfl))).cells.1,(Box1.chg (w:=W.drewN 1) (Box1.below (w':=W) h2 hb0) hc (fun hk=>hk.2 (Ei z2))).cell,(Box1.chg (w:=W.drewN 1) (Box1.below (w':=W) h3 hb0) hc (fun hk=>hk.2 (Ei z3))).cell⟩
 have HNE:Hid (w.heap.size≠b1∧b2≠b1∧b3≠b1):=⟨fun e=>by have :=h1.lt;omega,hn2,hn3⟩;clear h h1 h2 h3 hb0 z1 z2 z3 hl hk hTab hbx hE';unfold bQ;obtain⟨r,hr⟩:∃r,cF (aF (O l k)) j (cV s l)=r:=⟨_,rfl⟩;rw[hr]at HSEL⊢;clear hr;generalize cV s l=bt at *;obtain⟨q,hq⟩:∃q,D.Q l k=q:=⟨_,rfl⟩;rw[hq]at HSEL hW hsbx HSK⊢;clear hq;have HWW:=θ hW;go_enter Tryz.func177,Tryz.ntmps177;go_wp2_with fail;rw[←hW];clear hW;refine aE (fun w'=>w'.cell? ⟨w.heap.size,0,none⟩=some (.pointer (some ⟨q,0,none⟩))∧w'.cell? ⟨b2,0,none⟩=some (.int .i64 s)∧w'.cell? ⟨b3,0,none⟩=some (.int .i64 l)) Ek (HSK.o _ Chg.refl) (fun hh=>?_);refine rt 0 hh ?_;refine rt 1 hh ?_;refine rt 3 hh ?_;refine rt 4 hh ?_;refine dA (i:=2) (j:=5) rfl rfl Ek rfl rfl (fun κ hK=>?bs12) (fun κ hK=>?bs15);case bs12=>
  go_simp;refine hK.out _ _ hh ?_;intro hh;try simp only[pt]
  refine rg 5 fun κ hK=>?_;go_simp
  ((refine(HBIT.o _).mono ?_))
  rintro e w2 ⟨rfl,rfl⟩;refine hK.out _ _ hh ?_;intro hh;try simp only[pt]
  refine rg 6 fun κ hK=>?_;go_simp
  ((refine HSEL.o.mono ?_))
  rintro e w2 ⟨rfl,hE2,hC2⟩;have hb1:=Box1.chg (w:=W.drewN 1) HB1.o hC2 (fun hk=>hk.2 (Ei HZ1.o));have k1:=hb1.cell;have kf1:=hb1.frz;have HK1:=θ hb1;have HE2:=θ hE2;have HC2:=θ hC2;clear hb1 hE2 hC2;refine hK.out _ _ (HSK.o _ HC2.o) ?_;intro hh;try simp only[pt]
  refine rg 7 fun κ hK=>?_;go_simp;refine hK.out _ _ (Qz hh HNE.o) ?_;intro hh;try simp only[pt]
  refine rz ?_;clear hh;go_wp2_with fail;go_end0;refine⟨rfl,⟨(HE2.o.mono (fun i hi=>Ei hi)).setBox HZ1.o _,?_⟩,HK1.o.set _⟩;exact(((Chg.of_below (S:=fun j=>exT B Z j∨j=b1) HB0.o).drewN 1).trans (HC2.o.mono (fun j hj=>Ei (bS (fun i hi=>Ei hi) hj))) (fun j hj=>Ei hj)).setCell _ (Ei (Ej rfl)) _
 case bs15=>
  go_simp
  ((refine(HBIT.o _).mono ?_))
  rintro e w2 ⟨rfl,rfl⟩;refine hK.out _ _ hh ?_;intro hh;try simp only[pt]
  refine rg 2 fun κ hK=>?_;go_simp;refine hK.out _ _ hh ?_;intro hh;try simp only[pt]
  refine rg 6 fun κ hK=>?_;go_simp
  ((refine HSEL.o.mono ?_))
  rintro e w2 ⟨rfl,hE2,hC2⟩;have hb1:=Box1.chg (w:=W.drewN 1) HB1.o hC2 (fun hk=>hk.2 (Ei HZ1.o));have k1:=hb1.cell;have kf1:=hb1.frz;have HK1:=θ hb1;have HE2:=θ hE2;have HC2:=θ hC2;clear hb1 hE2 hC2;refine hK.out _ _ (HSK.o _ HC2.o) ?_;intro hh;try simp only[pt]
  refine rg 7 fun κ hK=>?_;go_simp;refine hK.out _ _ (Qz hh HNE.o) ?_;intro hh;try simp only[pt]
  refine rz ?_;clear hh;go_wp2_with fail;go_end0;refine⟨rfl,⟨(HE2.o.mono (fun i hi=>Ei hi)).setBox HZ1.o _,?_⟩,HK1.o.set _⟩;exact(((Chg.of_below (S:=fun j=>exT B Z j∨j=b1) HB0.o).drewN 1).trans (HC2.o.mono (fun j hj=>Ei (bS (fun i hi=>Ei hi) hj))) (fun j hj=>Ei hj)).setCell _ (Ei (Ej rfl)) _
def adOf:Value→Addr
 | .pointer (some a)=>a
 | _=>⟨0,0,none⟩
theorem Jz{B:Nat}{X:Nat→Prop}{w:World}{p:Nat}{D:WD}{O:Nat→Nat→Option ST}{L:List Nat}{vis:Int}(h:WaveE B X w p D O L.length vis bA)(hTab:BitTab w)(hNT:0<B)(hO:jM O L)(hL:Syms L)(hn:L.length≤1000000000){H:Nat}(hH:HiO O H)(hHm:H≤1000000000)(j:Int)(s:Nat)(hs:s<257):
  Calls Tryz.prog 125 #[.pointer (some ⟨p,0,none⟩), .int .i64 j, .int .i64 s] w fun e w'=>
   e= .returned (.int .i64 (iV L j s))∧∃vis':Int,WaveE B X w' p D O L.length vis' bA∧Chg (exT B X) w w':=by
 obtain⟨wa,hwa⟩:∃wa,wa=w.alloc (.cells #[.int .i64 j] 3):=⟨_,rfl⟩;obtain⟨wb,hwb⟩:∃wb,wb=wa.alloc (.cells #[.int .i64 s] 3):=⟨_,rfl⟩;have sa:wa.heap.size=w.heap.size+1:=by rw[hwa];simp
 have ba:Below w.heap.size w wa:=by rw[hwa];exact aC w _
 have bb:Below wa.heap.size wa wb:=by rw[hwb];exact aC wa _
 have ball:Below w.heap.size w wb:=ba.trans (bb.mono ba.size);have bj:Box1 wb w.heap.size (.int .i64 j) 3:=(by rw[hwa];exact Box1.new w _ _:Box1 wa w.heap.size (.int .i64 j) 3).below bb;have bs:Box1 wb (w.heap.size+1) (.int .i64 s) 3:=by rw[hwb,←sa];exact Box1.new wa _ _
 have hX1:WaveE B (fun i=>X i∨(i=w.heap.size∨i=w.heap.size+1)) wb p D O L.length vis bA:=h.less ball (fun i hi=>hi.elim Ei (fun e=>Ej E)) (fun i hi=>hi.elim (fun g=>aA9 (h.x i g) ball.size) (fun e=>by have :=bs.lt;omega));obtain⟨hc0,c9,c10,fz,hp⟩:=hX1.cells;have cj:=bj.cell;have cs:=bs.cell;have HRK:Hid (Calls Tryz.prog 175 #[.pointer (some ⟨p,0,none⟩), .int .i64 L.length, .int .i64 s] (wb.drewN 1) fun e w'=>
   e= .returned (.int .i64 (L.count s:Nat))∧∃vis':Int,0≤vis'∧vis'≤9*(H+1)∧WaveE B (fun i=>X i∨(i=w.heap.size∨i=w.heap.size+1)) w' p D O L.length vis' bA∧Chg (exT B (fun i=>X i∨(i=w.heap.size∨i=w.heap.size+1))) (wb.drewN 1) w'):=by
  have :=Ck (hX1.drewN 1) hO hL hn hH hHm (L.length:Int) s hs;rw[ao2,mC s (aA5 _)]at this;exact this
 have HX:=θ h.x;have HLE:=θ h.le;have HO:=θ hO;have HHi:=θ hH;have HLS:=θ hL;have HLEN:=θ hn;have HBJ:=θ bj;have HBS:=θ bs;have HBL:=θ ball;have HX1:=θ hX1;have HTB:=θ hTab;have HPW:=θ h.cells.2.2.2.2;clear h hc0 fz hO hH hL hn hX1 ball bj bs ba bb sa hTab;by_cases hj:j<0
 ·have d0:decide (j<0)=true:=aH1 hj;have hsl:=Zq (L:=L) (s:=s) hj;have HSL:=θ hsl.symm;clear hsl;subst hwa;rw[hwb]at c9 c10 cj cs hp;go_enter Tryz.func125,Tryz.ntmps125;go_wp2_with fail;go_quiet (fail);go_wp2_with fail;go_ret;rw[HSL.o];have hb:=HBL.o;have hx:=HX1.o;rw[hwb]at hb hx;exact⟨rfl,vis,(hx.mono (fun i hi=>Ei hi)).drewN _,(Chg.of_below hb).drewN _⟩
 ·have d0:decide (j<0)=false:=aG9 hj;subst hwa;have HWB:=θ hwb;rw[hwb]at c9 c10 cj cs hp;go_enter Tryz.func125,Tryz.ntmps125;go_wp2_with fail;rw[←hwb]at c9 c10 cj cs hp⊢;clear hwb;refine aE (fun w'=>w'.cell? ⟨w.heap.size,0,none⟩=some (.int .i64 j)∧w'.cell? ⟨w.heap.size+1,0,none⟩=some (.int .i64 s)∧w'.cell? ⟨p,9,none⟩=some (.int .i64 L.length)) Ek (⟨cj,cs,c9⟩) (fun hh=>?_);refine rt 0 hh ?_;refine rt 1 hh ?_;refine rt 2 hh ?_;refine rt 3 hh ?_;refine rt 4 hh ?_;refine rt 5 hh ?_;refine rt 6 hh ?_;refine rt 7 hh ?_;refine rt 8 hh ?_;refine rt 9 hh ?_;refine rt 10 hh ?_;refine rt 11 hh ?_;refine rt 12 hh ?_;refine rt 13 hh ?_;refine rg 14 fun κ hK=>?_;go_simp
  ((refine HRK.o.mono ?_))
  rintro e w2 ⟨rfl,v1,v1a,v1b,hE2,hC2⟩;have hj2:=Box1.chg (w:=wb.drewN 1) HBJ.o hC2 (fun hk=>hk.2 (Ej (Ei rfl)));have hs2:=Box1.chg (w:=wb.drewN 1) HBS.o hC2 (fun hk=>hk.2 (Ej (Ej rfl)));have HS2:Hid (w2.cell? ⟨w.heap.size,0,none⟩=some (.int .i64 j)∧w2.cell? ⟨w.heap.size+1,0,none⟩=some (.int .i64 s)∧w2.cell? ⟨p,9,none⟩=some (.int .i64 L.length)):=⟨hj2.cell,hs2.cell,hE2.cells.2.1⟩;have HE2:=θ hE2;have HJ2:=θ hj2;have HB2:=θ hs2;have HC2:Hid (Chg (exT B X) w w2):=((Chg.of_below (S:=exT B X) HBL.o).drewN 1).trans hC2 (fun j hj=>Ei (bS (fun i hi=>Ei hi) hj));clear hj2 hs2 hE2 hC2;refine hK.out _ _ (HS2.o) ?_;intro hh;try simp only[pt]
  refine rt 15 hh ?_;refine rt 16 hh ?_;refine rz ?_;obtain⟨kj,ks,kp⟩:=hh;clear c9 c10 cj cs;by_cases hm:(L.count s:Int)≤j
  ·have d1:decide ((L.count s:Int)≤j)=true:=aH1 hm;have HSL:Hid (-1=iV L j s):=(To hm).symm;go_wp2_with fail;go_ret;rw[HSL.o];exact⟨rfl,v1,HE2.o.mono (fun i hi=>Ei hi),HC2.o⟩
  ·have d1:decide ((L.count s:Int)≤j)=false:=aG9 hm;go_wp2_with fail;obtain⟨J,rfl⟩:=am8 (E:0≤j);obtain⟨K,_,hK,hKr⟩:=Ad L.length L s J (aA5 _) (by rw[mC s (aA5 _)];omega);have HSL:Hid ((K:Int)=iV L J s):=(Gi hK (by rw[hKr])).symm;have HK:=θ hK;have d1n:decide (L.count s≤J)=false:=aG9 E;have hcj:J=bE L 9 (pth s 9) K:=by rw[mZ,Ap,hKr]
   have HCJ:=θ hcj;clear hm d0 hj hK hKr HRK HBL HX1 hcj;have bl:=Box1.new w2 (.int .i64 8) 3;have hbl:=aC w2 (.cells #[.int .i64 8] 3);have HS0:Hid (WaveE B (fun i=>(X i∨(i=w.heap.size∨i=w.heap.size+1))∨i=w2.heap.size) (w2.alloc (.cells #[.int .i64 8] 3)) p D O L.length v1 bA∧Box1 (w2.alloc (.cells #[.int .i64 8] 3)) w.heap.size (.int .i64 (bE L 9 (pth s 9) K:Nat)) 3∧Box1 (w2.alloc (.cells #[.int .i64 8] 3)) (w.heap.size+1) (.int .i64 s) 3∧Box1 (w2.alloc (.cells #[.int .i64 8] 3)) w2.heap.size (.int .i64 8) 3∧Chg (exT B X) w (w2.alloc (.cells #[.int .i64 8] 3))∧w.heap.size+1<w2.heap.size):=by
    refine⟨HE2.o.less hbl (fun i hi=>hi.elim Ei (fun e=>Ej E)) (fun i hi=>hi.elim (fun g=>aA9 (HE2.o.x i g) hbl.size) (fun e=>by subst e;exact bl.lt)),?_,HB2.o.below hbl,bl,HC2.o.trans (Chg.of_below (S:=exT B X) hbl) (fun j hj=>Ei hj),HB2.o.lt⟩;rw[←HCJ.o];exact HJ2.o.below hbl
   clear bl hbl HE2 HJ2 HB2 HC2 kj ks kp HS2 d1 d1n;generalize w2.alloc (.cells #[.int .i64 8] 3)=wl at *;go_loopw [7] (fun v wr=>∃(m lb:Nat) (x:Int),m≤9∧v= .pointer (some ⟨lb,0,none⟩)∧x=(m:Int)-1∧w.heap.size+1<lb∧(∃vis':Int,0≤vis'∧vis'≤18*(H+1)-m*(H+1)∧WaveE B (fun i=>(X i∨(i=w.heap.size∨i=w.heap.size+1))∨i=lb) wr p D O L.length vis' bA)∧Box1 wr w.heap.size (.int .i64 (bE L m (pth s m) K:Nat)) 3∧Box1 wr (w.heap.size+1) (.int .i64 s) 3∧Box1 wr lb (.int .i64 x) 3∧Chg (exT B X) w wr) (fun v wr=>(intOf ((wr.cell? (adOf v)).getD undef)+1).toNat);case atStart=>exact⟨9,w2.heap.size,8,aA5 _,rfl,rfl,HS0.o.2.2.2.2.2,⟨v1,v1a,E,HS0.o.1⟩,HS0.o.2.1,HS0.o.2.2.1,HS0.o.2.2.2.1,HS0.o.2.2.2.2.1⟩
   case round=>as_aux_lemma=>
    clear HS0;obtain⟨m,lb,x,hm9,rfl,hx,hlb,⟨vis',hv0,hv1,hE⟩,hJ,hS,hB,hC⟩:=hrel;obtain rfl | ⟨l,rfl⟩:m=0∨∃l,m=l+1:=by
     cases m with
     | zero=>exact Ei rfl
     | succ l=>exact Ej ⟨l,rfl⟩
    ·obtain rfl:x= -1:=E;have k0:=hJ.cell;have k1:=hB.cell;have HE:=θ hE;have HC:=θ hC;have HKK:Hid ((bE L 0 (pth s 0) K:Nat)=K):=by
      show _=_;rw[fS E,lE HLS.o.lt K (by have :=(ar5.1 HK.o).1;omega)]
     clear hE hC hJ hS hB hv0 hv1 hx hm9;go_wp2_with fail;go_ret;rw[HKK.o,HSL.o];exact⟨rfl,vis',HE.o.mono (fun i hi=>Ei (Ei hi)),HC.o⟩
    ·obtain rfl:x=(l:Int):=E;have hlt:l<9:=E;have hpp:=pX hs hlt;obtain⟨r0,r1,r2⟩:=hE.shelf hlt hpp;have rr:=hE.cells.1 l hlt;have hHl:=HHi.o l (pth s l) hlt hpp;have hse:cF (aF (O l (pth s l))) ((bE L (l+1) (pth s (l+1)) K:Nat):Int) (cV s l)=(bE L l (pth s l) K:Nat):=by
      rw[HO.o l _ hlt hpp];exact Zr HK.o hlt
     have hmul:((l+1:Nat):Int)*((H:Int)+1)=(l:Int)*((H:Int)+1)+((H:Int)+1):=by push_cast;rw[Int.add_mul];omega
     have hmul0:0≤(l:Int)*((H:Int)+1):=Int.mul_nonneg E E;rw[hmul]at hv1;have hpwr:=hE.cells.2.2.2.2;have HLK:Hid (∀w',w'.heap=wr.heap→WaveE B (fun i=>(X i∨(i=w.heap.size∨i=w.heap.size+1))∨i=lb) w' p D O L.length vis' bA→Box1 w' w.heap.size (.int .i64 (bE L (l+1) (pth s (l+1)) K:Nat)) 3→Box1 w' (w.heap.size+1) (.int .i64 s) 3→Box1 w' lb (.int .i64 (l:Int)) 3→BitTab w'→
       Calls Tryz.prog 156 #[.pointer (some ⟨p,0,none⟩),bQ D l (pth s l), .func (.func 177) #[] #[.pointer (some ⟨w.heap.size,0,none⟩), .pointer (some ⟨w.heap.size+1,0,none⟩), .pointer (some ⟨lb,0,none⟩)]] w' fun e w''=>
        e= .returned (.tuple #[])∧∃v:Nat,v≤aO (O l (pth s l))+1∧WaveE B (fun i=>(X i∨(i=w.heap.size∨i=w.heap.size+1))∨i=lb) w'' p D O L.length (vis'+v) bA∧Chg (fun j=>exT B (fun i=>(X i∨(i=w.heap.size∨i=w.heap.size+1))∨i=lb) j∨j=w.heap.size) w' w''∧Box1 w'' w.heap.size (.int .i64 (bE L l (pth s l) K:Nat)) 3):=fun w' _ h1 h2 h3 h4 h5=>by
      refine zI h1 hlt hpp ⟨hv0,E⟩ (M:=aO (O l (pth s l))+1) E (Y:=fun i=>i=w.heap.size) (fun i e=>Ei (Ej (Ei e))) _ _ _ (enters_of Tryz.func177 Ek rfl) (fun w'=>Box1 w' w.heap.size (.int .i64 (bE L l (pth s l) K:Nat)) 3) (fun w1 w2 hb hc=>hb.chg hc (fun e=>by have :=HPW.o;omega)) (fun w0 Z hXZ hb hE0=>?_);have :=wSel1 hE0 (h5.below' hb) hNT hs hlt hpp (hXZ _ (Ei (Ej (Ei rfl)))) (hXZ _ (Ei (Ej (Ej rfl)))) (hXZ _ (Ej rfl)) E E (h2.below hb) (h3.below hb) (h4.below hb);rw[hse]at this;exact this
     have HPA:=θ (fun w=>qW hs (E:l≤9) w);have kl:=hB.cell;have ks:=hS.cell;have HTB2:Hid (BitTab wr):=HTB.o.below ((Chg.below hC (fun b hb=>hb.1)) HLE.o) hNT;have HE:=θ hE;have HJ:=θ hJ;have HS:=θ hS;have HB:=θ hB;have HC:=θ hC;have HV0:=θ hv0;have HV1:=θ hv1;have HHL:=θ hHl;have HLT:=θ hlt;have HCF:Hid (∀(w':World) (v:Int) (X':Nat→Prop),WaveE B X' w' p D O L.length v bA→(w'.cell? ⟨p,l,none⟩=some (.slice (some ⟨D.G l,0,none⟩) (pw l) (D.C l))∧w'.cell? ⟨D.G l,pth s l*3,none⟩=some (.pointer (some ⟨D.Q l (pth s l),0,none⟩))∧w'.cell? ⟨D.G l,pth s l*3+1,none⟩=some (.int .i64 l)∧w'.cell? ⟨D.G l,pth s l*3+2,none⟩=some (.int .i64 (pth s l:Nat)))):=fun w' v X' h=>⟨h.cells.1 l hlt,h.shelf hlt hpp⟩;have rr:wr.cell? ⟨p,l,none⟩=some (.slice (some ⟨D.G l,0,none⟩) (pw l) (D.C l)):=rr;have i0:(0:Int)≤(l:Int):=E;have i9:(l:Int)<9:=E;have j0:(0:Int)≤((pth s l:Nat):Int):=E;have j1:((pth s l:Nat):Int)<((pw l:Nat):Int):=E;clear hE hJ hS hB hC hv0 hv1 hHl hse hmul hmul0 hx hpp;unfold bQ at HLK;obtain⟨π,hπ⟩:∃π,pth s l=π:=⟨_,rfl⟩;have HPI:=θ hπ;rw[hπ]at HLK HPA HHL HCF r0 r1 r2 j0 j1;clear hπ;generalize D.Q l π=q at *;generalize D.G l=g at *;generalize D.C l=gc at *;go_wp2_with fail;refine aE (fun w'=>w'.cell? ⟨lb,0,none⟩=some (.int .i64 (l:Int))∧w'.cell? ⟨w.heap.size+1,0,none⟩=some (.int .i64 s)∧w'.cell? ⟨p,l,none⟩=some (.slice (some ⟨g,0,none⟩) (pw l) gc)∧w'.cell? ⟨g,π*3,none⟩=some (.pointer (some ⟨q,0,none⟩))∧w'.cell? ⟨g,π*3+1,none⟩=some (.int .i64 l)∧w'.cell? ⟨g,π*3+2,none⟩=some (.int .i64 (π:Nat))) Ek (⟨kl,ks,rr,r0,r1,r2⟩) (fun hh=>?_);refine rt 0 hh ?_;refine rt 1 hh ?_;refine rt 2 hh ?_;refine rt 3 hh ?_;refine rt 4 hh ?_;refine rt 5 hh ?_;refine rt 6 hh ?_;refine rt 7 hh ?_;refine rt 8 hh ?_;refine rt 12 hh ?_;refine rg 9 fun κ hK=>?_;go_simp
     ((refine(HPA.o _).mono ?_))
     rintro e w2 ⟨rfl,rfl⟩;refine hK.out _ _ hh ?_;intro hh;try simp only[pt]
     refine rt 10 hh ?_;refine rt 11 hh ?_;refine rg 13 fun κ hK=>?_;go_simp
     ((refine(HLK.o (wr.drewN 1) rfl (HE.o.drewN 1) HJ.o HS.o HB.o HTB2.o).mono ?_))
     rintro e w2 ⟨rfl,v,hv,hE2,hC2,hJ2⟩;have hs2:Box1 w2 (w.heap.size+1) (.int .i64 s) 3:=Box1.chg (w:=wr.drewN 1) HS.o hC2 (fun hk=>hk.elim (fun hk=>hk.2 (Ei (Ej (Ej rfl)))) (fun e=>E));have hl2:Box1 w2 lb (.int .i64 (l:Int)) 3:=Box1.chg (w:=wr.drewN 1) HB.o hC2 (fun hk=>hk.elim (fun hk=>hk.2 (Ej rfl)) (fun e=>E));have HS2:Hid (w2.cell? ⟨lb,0,none⟩=some (.int .i64 (l:Int))∧w2.cell? ⟨w.heap.size+1,0,none⟩=some (.int .i64 s)∧w2.cell? ⟨p,l,none⟩=some (.slice (some ⟨g,0,none⟩) (pw l) gc)∧w2.cell? ⟨g,π*3,none⟩=some (.pointer (some ⟨q,0,none⟩))∧w2.cell? ⟨g,π*3+1,none⟩=some (.int .i64 l)∧w2.cell? ⟨g,π*3+2,none⟩=some (.int .i64 (π:Nat))):=⟨hl2.cell,hs2.cell,HCF.o _ _ _ hE2⟩;have kl2:=hl2.cell;have kf2:=hl2.frz;have HJ2:=θ hJ2;have HB2:=θ hs2;have HL2:=θ hl2;have HE2:=θ hE2;have HV2:=θ hv;have HC2:Hid (Chg (exT B X) w w2):=(HC.o.drewN 1).trans hC2 (fun j hj=>hj.elim (fun hj=>Ei (bS (fun i hi=>Ei (Ei hi)) hj)) (fun e=>Ej E));clear hs2 hl2 hE2 hC2 hJ2 hv;refine hK.out _ _ (HS2.o) ?_;intro hh;try simp only[pt]
     refine rz ?_;clear hh rr r0 r1 r2 kl ks i0 i9 j0 j1;have bl:=Box1.new w2 (.int .i64 ((l:Int)-1)) 3;have hbl:=aC w2 (.cells #[.int .i64 ((l:Int)-1)] 3);have HNB:Hid ((∃vis':Int,0≤vis'∧vis'≤18*((H:Int)+1)-l*((H:Int)+1)∧WaveE B (fun i=>(X i∨(i=w.heap.size∨i=w.heap.size+1))∨i=w2.heap.size) (w2.alloc (.cells #[.int .i64 ((l:Int)-1)] 3)) p D O L.length vis' bA)∧Box1 (w2.alloc (.cells #[.int .i64 ((l:Int)-1)] 3)) w.heap.size (.int .i64 (bE L l π K:Nat)) 3∧Box1 (w2.alloc (.cells #[.int .i64 ((l:Int)-1)] 3)) (w.heap.size+1) (.int .i64 s) 3∧Box1 (w2.alloc (.cells #[.int .i64 ((l:Int)-1)] 3)) w2.heap.size (.int .i64 ((l:Int)-1)) 3∧Chg (exT B X) w (w2.alloc (.cells #[.int .i64 ((l:Int)-1)] 3))∧w.heap.size+1<w2.heap.size):=by
      refine⟨⟨vis'+v,by have :=HV0.o;omega,by have :=HV1.o;have :=HV2.o;have :=HHL.o;omega,HE2.o.less hbl (fun i hi=>hi.elim (fun g=>Ei (Ei g)) (fun e=>Ej E)) (fun i hi=>hi.elim (fun g=>aA9 (HE2.o.x i (Ei g)) hbl.size) (fun e=>by subst e;exact bl.lt))⟩,HJ2.o.below hbl,HB2.o.below hbl,bl,HC2.o.trans (Chg.of_below (S:=exT B X) hbl) (fun j hj=>Ei hj),HB2.o.lt⟩
     have HMS:Hid ((intOf (((w2.alloc (.cells #[.int .i64 ((l:Int)-1)] 3)).cell? ⟨w2.heap.size,0,none⟩).getD undef)+1).toNat<(intOf ((wr.cell? ⟨lb,0,none⟩).getD undef)+1).toNat):=by
      rw[bl.cell,HB.o.cell];show ((l:Int)-1+1).toNat<((l:Int)+1).toNat;omega
     clear bl hbl;go_wp2_with fail;go_roundw;case rel=>
      have hq:=HNB.o;exact⟨l,w2.heap.size,_,by have :=HLT.o;omega,rfl,rfl,hq.2.2.2.2.2,hq.1,by rw[HPI.o];exact hq.2.1,hq.2.2.1,hq.2.2.2.1,hq.2.2.2.2.1⟩
     case measure=>exact HMS.o
end
end Go.Proofs.YtchinbgemenenaaGreatDoor
