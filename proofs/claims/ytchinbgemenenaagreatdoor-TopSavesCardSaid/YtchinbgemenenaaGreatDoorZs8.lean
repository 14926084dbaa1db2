/- Lemmas and contracts under the claims of this seat. No condition. -/
import Derived.Shelf.Small.Wraps
import Derived.Shelf.Sort.Plain
import Derived.Shelf.Slices.Clone
import Derived.Shelf.Slices.Cells
import Derived.Shelf.Slices.In.SortNone
import Derived.Shelf.Slices.Empties
import Derived.Shelf.Slices.Empties2
import Derived.Shelf.Bytes.SlSearch0
import Derived.Shelf.SlicesE.IndexFunc
import Derived.Shelf.SlSortCmp.NoneTotal
import Derived.Shelf.Bytes.SlEqualAll
import Derived.Test.YtchinbgemenenaaGreatDoorZs6
namespace Go.Proofs.YtchinbgemenenaaGreatDoor
open Go.Proofs.Tryz
set_option linter.unusedVariables false
set_option linter.unusedSimpArgs false
set_option maxRecDepth 100000
set_option maxHeartbeats 12800000
section
open Go.Shelf
def Tryz.lays122_ren:Go.Shelf.Ren:=⟨λ| 122=>150 | 215=>204 | n=>n,λ| 3=>3 | 4=>4 | n=>n,λ| n=>n⟩
theorem Tryz.lays122:Go.Proofs.Lays.n122 prog Tryz.lays122_ren:={
 mixed:=Ek
 f122:=func150.trans (bb9 some Ek)
 f215:=func204.trans (bb9 some Ek)
 t3:=aZ8
 a3:=aZ0
 z3:=aZ3
 v3:=ba5
 t4:=ba1
 a4:=aZ2
 z4:=aZ5
 v4:=ba7}
open Go.RowKit in
theorem Tryz.cmp_Compare_int (x y:Int)(w:World):Calls prog 150 #[x,y] w λe a=>e= .returned (Lib.compareInt x y:Int)/\a=w:=Any.cmp_Compare_int Tryz.lays122 x y w
def Tryz.lays112_ren:Go.Shelf.Ren:=⟨λ| 112=>230 | n=>n,λ| 28=>36 | 3=>3 | 4=>4 | 0=>0 | n=>n,λ| n=>n⟩
open Go.RowKit Go.Lib Go.Sort in
open Go.RowKit Go.Lib Go.Sort in
open Go.RowKit Go.Lib Go.Sort in
def Tryz.lays111_ren:Go.Shelf.Ren:=⟨λ| 111=>193 | n=>n,λ| 28=>36 | 3=>3 | 4=>4 | 0=>0 | n=>n,λ| n=>n⟩
theorem Tryz.lays111:Go.Proofs.Lays.n111 prog Tryz.lays111_ren:={
 mixed:=Ek
 f111:=func193.trans (bb9 some Ek)
 t0:=aZ6
 a0:=bi8
 z0:=bi9
 v0:=ba4
 t3:=aZ8
 a3:=aZ0
 z3:=aZ3
 v3:=ba5
 t4:=ba1
 a4:=aZ2
 z4:=aZ5
 v4:=ba7
 t28:=ba0
 a28:=aZ1
 z28:=aZ4
 v28:=ba6}
open Go.RowKit Go.Lib in
theorem Tryz.slices_Equal_int (h o n c i p m d:Nat)(f g:List Int)(w:World)(r:n<=f.length)(s:m<=g.length)(b:n<=9223372036854775807)(a:m<=9223372036854775807)(k:∀j,j<f.length->w.cell? (h,o+j)=some (.int .i64 (f.getD j 0)))(l:∀j,j<g.length->w.cell? (i,p+j)=some (.int .i64 (g.getD j 0))):Calls prog 193 #[.slice (h,o) n c, .slice (i,p) m d] w λe t=>e= .returned (.bool (f.take n==g.take m))/\∃q,t=w.drewN q:=Any.slices_Equal_int Tryz.lays111 h o n c i p m d f g w r s b a k l
open Go.RowKit Go.Lib in
theorem Tryz.slices_Equal_int_empty (b f:Option Addr)(c m d:Nat)(w:World)(a:m<=9223372036854775807):Calls prog 193 #[.slice b 0 c, .slice f m d] w λe g=>e= .returned (.bool (decide (m=0)))/\g=w:=Any.slices_Equal_int_empty Tryz.lays111 b f c m d w a
def Tryz.laysNm215_ren:Go.Shelf.Ren:=⟨λ| 15=>92 | n=>n,λ| 22=>36 | 3=>3 | 4=>4 | n=>n,λ| n=>n⟩
theorem Tryz.laysNm215:Go.Proofs.Lays2.n15 prog Tryz.laysNm215_ren:={
 mixed:=Ek
 f15:=func92.trans (bb9 some Ek)
 t3:=aZ8
 a3:=aZ0
 z3:=aZ3
 v3:=ba5
 t4:=ba1
 a4:=aZ2
 z4:=aZ5
 v4:=ba7
 t22:=ba0
 a22:=aZ1
 z22:=aZ4
 v22:=ba6
 i3:=by kernel_rfl}
open Go.RowKit Go.Lib in
theorem Tryz.slices_Clone_int (b a n c:Nat)(f:List Int)(w:World)(k:n<=f.length)(d:n*8<=140737488355328)(i:∀j,j<f.length->w.cell? (b,a+j)=some (.int .i64 (f.getD j 0))):Calls prog 92 #[.slice (b,a) n c] w λe h=>∃g,e= .returned g/\h.ownsRow w 3 1 g n ((f.take n).map (Value.int .i64))/\g≠ .slice none 0 0/\Below w w h:=Any.slices_Clone_int Tryz.laysNm215 b a n c f w k d i
open Go.RowKit Go.Lib in
open Go.RowKit Go.Lib in
def Tryz.laysNm223_ren:Go.Shelf.Ren:=⟨λ| 23=>214 | n=>n,λ| 22=>36 | 3=>3 | 4=>4 | 0=>0 | n=>n,λ| n=>n⟩
theorem Tryz.laysNm223:Go.Proofs.Lays2.n23 prog Tryz.laysNm223_ren:={
 mixed:=Ek
 f23:=func214.trans (bb9 some Ek)
 t0:=aZ6
 a0:=bi8
 z0:=bi9
 v0:=ba4
 t3:=aZ8
 a3:=aZ0
 z3:=aZ3
 v3:=ba5
 t4:=ba1
 a4:=aZ2
 z4:=aZ5
 v4:=ba7
 t22:=ba0
 a22:=aZ1
 z22:=aZ4
 v22:=ba6
 i3:=by kernel_rfl}
open Go.RowKit Go.Lib Go.Sort in
open Go.RowKit Go.Lib Go.Sort in
open Go.RowKit Go.Lib Go.Sort in
open Go.RowKit Go.Lib Go.Sort in
theorem Tryz.slices_Delete_int_cells (b a n c i j:Nat)(d:List Int)(w:World)(o:n<=d.length)(f:n<=c)(m:c<=9223372036854775807)(g:i<=j)(l:j<=n)(h:∀j,j<d.length->w.cell? (b,a+j)=some (.int .i64 (d.getD j 0)))(k:∀j,j<n->w.frozen? (b,a+j)=false):Calls prog 214 #[.slice (b,a) n c,i,j] w λe p=>e= .returned (.slice (b,a) (n-(j-i)) c)/\∃q,p=(w.drewN q).setCells b a (((d.take n).take i++(d.take n).drop j++List.replicate (j-i) 0).map (Value.int .i64)):=Any.slices_Delete_int_cells Tryz.laysNm223 b a n c i j d w o f m g l h k
open Go.RowKit Go.Lib in
open Go.RowKit Go.Lib in
theorem Tryz.slices_Equal_int_lens (b f:Option Addr)(n c m d:Nat)(w:World)(a:n≠m):Calls prog 193 #[.slice b n c, .slice f m d] w λe g=>e= .returned (.bool false)/\g=w:=Any.slices_Equal_int_lens Tryz.lays111 b f n c m d w a
def Tryz.lays115_ren:Go.Shelf.Ren:=⟨λ| 115=>81 | n=>n,λ| 37=>32 | 4=>4 | 9=>9 | 5=>5 | n=>n,λ| n=>n⟩
open Go.Proofs Go.RowKit Go.Lib in
def Tryz.laysSlF6_f95_ren:Go.Shelf.Ren:=⟨λ| 6=>95 | 15=>131 | 14=>147 | 28=>190 | 29=>191 | 20=>196 | 21=>197 | 22=>198 | 23=>199 | 24=>200 | 25=>201 | 26=>202 | 27=>203 | 46=>227 | 47=>221 | 48=>222 | 49=>228 | 50=>229 | 57=>242 | n=>n,λ| 22=>36 | 24=>3 | 25=>98 | 3=>3 | 39=>23 | 0=>0 | 53=>74 | 55=>69 | 4=>4 | 46=>207 | 45=>206 | 50=>149 | 5=>5 | 9=>9 | 66=>231 | 70=>235 | 76=>249 | 77=>104 | n=>n,λ| n=>n⟩
theorem Tryz.laysSlF6_f95:Go.Proofs.SlLaysF.n6 prog Tryz.laysSlF6_f95_ren:={
 mixed:=Ek
 f6:=⟨Tryz.f95.name,Ed,func95.trans (bb9 some Ek)⟩
 f14:=⟨Tryz.f147.name,Ed,func147.trans (bb9 some Ek)⟩
 f15:=func131.trans (bb9 some Ek)
 f20:=⟨Tryz.f196.name,Ed,func196.trans (bb9 some Ek)⟩
 f21:=⟨Tryz.f197.name,Ed,func197.trans (bb9 some Ek)⟩
 f22:=⟨Tryz.f198.name,Ed,func198.trans (bb9 some Ek)⟩
 f23:=⟨Tryz.f199.name,Ed,func199.trans (bb9 some Ek)⟩
 f24:=⟨Tryz.f200.name,Ed,func200.trans (bb9 some Ek)⟩
 f25:=⟨Tryz.f201.name,Ed,func201.trans (bb9 some Ek)⟩
 f26:=⟨Tryz.f202.name,Ed,func202.trans (bb9 some Ek)⟩
 f27:=⟨Tryz.f203.name,Ed,func203.trans (bb9 some Ek)⟩
 f28:=func190.trans (bb9 some Ek)
 f29:=func191.trans (bb9 some Ek)
 f46:=⟨Tryz.f227.name,Ed,func227.trans (bb9 some Ek)⟩
 f47:=func221.trans (bb9 some Ek)
 f48:=func222.trans (bb9 some Ek)
 f49:=⟨Tryz.f228.name,Ed,func228.trans (bb9 some Ek)⟩
 f50:=⟨Tryz.f229.name,Ed,func229.trans (bb9 some Ek)⟩
 f57:=⟨Tryz.f242.name,Ed,func242.trans (bb9 some Ek)⟩
 t0:=aZ6
 a0:=bi8
 z0:=bi9
 v0:=ba4
 t3:=aZ8
 a3:=aZ0
 z3:=aZ3
 v3:=ba5
 t4:=ba1
 a4:=aZ2
 z4:=aZ5
 v4:=ba7
 t5:=ba2
 a5:=Tryz.isAgg5
 z5:=Tryz.sizeOf5
 v5:=Tryz.zeroValue5
 t9:=ba3
 a9:=Tryz.isAgg9
 z9:=Tryz.sizeOf9
 v9:=Tryz.zeroValue9
 t22:=ba0
 a22:=aZ1
 z22:=aZ4
 v22:=ba6
 a24:=aZ0
 z24:=aZ3
 t25:=Tryz.underlying98
 a25:=Tryz.isAgg98
 z25:=Tryz.sizeOf98
 v25:=Tryz.zeroValue98
 t39:=Tryz.underlying23
 a39:=Tryz.isAgg23
 z39:=Tryz.sizeOf23
 v39:=Tryz.zeroValue23
 t45:=Tryz.underlying206
 a45:=Tryz.isAgg206
 z45:=Tryz.sizeOf206
 v45:=Tryz.zeroValue206
 t46:=Tryz.underlying207
 a46:=Tryz.isAgg207
 z46:=Tryz.sizeOf207
 v46:=Tryz.zeroValue207
 t50:=Tryz.underlying149
 a50:=Tryz.isAgg149
 z50:=Tryz.sizeOf149
 v50:=Tryz.zeroValue149
 t53:=Tryz.underlying74
 a53:=Tryz.isAgg74
 z53:=Tryz.sizeOf74
 v53:=Tryz.zeroValue74
 t55:=Tryz.underlying69
 a55:=Tryz.isAgg69
 z55:=Tryz.sizeOf69
 v55:=Tryz.zeroValue69
 t66:=Tryz.underlying231
 a66:=Tryz.isAgg231
 z66:=Tryz.sizeOf231
 v66:=Tryz.zeroValue231
 t70:=Tryz.underlying235
 a70:=Tryz.isAgg235
 z70:=Tryz.sizeOf235
 v70:=Tryz.zeroValue235
 t76:=Tryz.underlying249
 a76:=Tryz.isAgg249
 z76:=Tryz.sizeOf249
 v76:=Tryz.zeroValue249
 t77:=Tryz.underlying104
 a77:=Tryz.isAgg104
 z77:=Tryz.sizeOf104
 v77:=Tryz.zeroValue104}
open Go.RowKit Go.Lib Go.Sort in
open Go.RowKit Go.Lib Go.Sort in
theorem Tryz.slices_SortFunc {k:Type}[Inhabited k](b:k->Value)(r:OneCell b)(l:k->k->Int)(t:SWO (ltOf l))(g:Nat)(m:Array Value)(a c h:Nat)(d:Array k)(w:World)(q:∀f w,(callFunc g f).run prog w= .ok (.enter g f) w)(j:CmpLays1 prog g m b l a c d.size w)(s:Holds b w a c d)(i:a<w)(p:d.size<4611686018427387904):Calls prog 95 #[.slice (a,c) d.size h, .func (.func g) #[] m] w λe v=> e= .returned (.tuple #[])/\∃o n u,PermIn 0 d.size d o/\SortedIn (ltOf l) 0 d.size o/\v=sortWorld b w a c n o u:=Any.slices_SortFunc Tryz.laysSlF6_f95 b r l t g m a c h d w q j s i p
open Go.RowKit Go.Lib Go.Sort in
open Go.RowKit Go.Lib Go.Sort in
def Tryz.laysnb115_ren:Go.Shelf.Ren:=⟨λ| 115=>81 | n=>n,λ| 37=>32 | 4=>4 | 9=>9 | 5=>5 | n=>n,λ| n=>n⟩
theorem Tryz.laysnb115:Go.Proofs.Lays.nb115 prog Tryz.laysnb115_ren:={
 mixed:=Ek
 f115:=func81.trans (bb9 some Ek)
 t4:=ba1
 a4:=aZ2
 z4:=aZ5
 v4:=ba7
 t9:=ba3
 a9:=Tryz.isAgg9
 z9:=Tryz.sizeOf9
 v9:=Tryz.zeroValue9
 t37:=aZ9
 a37:=Tryz.isAgg32
 z37:=Tryz.sizeOf32
 v37:=Tryz.zeroValue32
 t5:=ba2
 a5:=Tryz.isAgg5
 z5:=Tryz.sizeOf5
 v5:=Tryz.zeroValue5}
theorem Tryz.bytes_Equal_all (f g:Option Addr)(n c m d:Nat)(a b:List Int)(w:World)(j:a.length=n)(k:b.length=m)(h:Lib.BytesIn w f n a)(i:Lib.BytesIn w g m b):Calls prog 81 #[.slice f n c, .slice g m d] w λe l=>e= .returned (.bool (Lib.bytesOf a==Lib.bytesOf b))/\l=w:=Any.bytes_Equal_all Tryz.laysnb115 f g n c m d a b w j k h i
end
section
open Go.RowKit
theorem fC{f:Type}[Inhabited f](c:f->Value)(w:World)(a m:Nat)(g:Array f)(d:Array Obj):Chg (λb=>b=a) w (sortWorld c w a 0 m g d):=by
 refine⟨rfl,rfl,rfl,?_,λk h i=>?_⟩
 ·show w.heap.size<=((w.heap.modify a _)++d).size;simp
 ·show ((w.heap.modify a _)++d)[k]? =w.heap[k]?;rw[Array.getElem?_append_left (by simpa using h),Array.getElem?_modify,if_neg (λe=>i e.symm)]
theorem jV{k:Type}[Inhabited k](d:k->Value){w:World}{a n c b:Nat}{e:TypeId}{B:List Value}(h:w.ownsRow b e 1 (.slice a n c) n B)(m:Nat)(f:Array k)(r:Array Obj)(p:f.size=n):(sortWorld d w a 0 m f r).ownsRow b e 1 (.slice a n c) n (f.toList.map d):=by
 obtain⟨F,t⟩:=h;refine⟨by simp[p],?_⟩;rcases t with ⟨h,_⟩ | ⟨D,l,g,A,u,q,v,y,z,G⟩
 ·cases h
 ·injection A with o C s
  simp only[aY7,Addr.mk.injEq,bb4]at o;subst o;subst s;refine .inr ⟨a,c,Go.Sort.putCells d 0 f g,rfl,u,?_,v,y,by simpa[Go.Sort.putCells]using z,?_⟩
  ·show ((w.heap.modify a _)++r)[a]? =_;have j:=(aJ2.1 q).1;rw[Array.getElem?_append_left (by simpa using j),Array.getElem?_modify,if_pos rfl,q];rfl
  ·apply aM9;intro i;rw[aO6];by_cases x:i<n
   ·rw[bd0 E,aJ3,Go.Sort.putCells,Array.getElem?_mapIdx,Array.getElem?_eq_getElem E];simp[p,x,show i<f.size by omega]
   ·rw[bc9 E,aO1 (by simp;omega)]
def bP(x:Nat):Value:= .int .i64 (x:Int)
theorem RkAt.chg {w w':World}{S:Nat->Prop}{f d e g b a:Nat}{j:List Int}(h:RkAt w f d e g b a j)(c:Chg S w w')(k:¬S f)(l:¬S d)(m:¬S e)(o:¬S g):RkAt w' f d e g b a j:=
 ⟨c.cell h.wide k,c.cell h.n l,c.cell h.row m,λi p=>c.cell (h.rd i p) o⟩
theorem af1{B:Nat}{w:World}{U T J K g V c p capr:Nat}{l t:List Int}{r:List Nat}(h:RkAt w U T J g V c t)(hf:w.cell? K=some (.func (.func 93) #[] #[.pointer U, .pointer T, .pointer J]))(v:RankOf l c t)(hp:r.Perm (List.range l.length))(s:w.ownsRow B 3 1 (.slice p r.length capr) r.length (r.map bP))(Q:U≠p/\T≠p/\J≠p/\K≠p/\g≠p)(h0:0<l.length)(hl:l.length<=1000000000)(hw:c<=1000000000)(hr:∀i,-1<=sy t i/\sy t i<=1000000000):Calls prog 95 #[.slice p r.length capr, .func (.func 94) #[] #[.pointer J, .pointer K]] w λe S=>e= .returned (.tuple #[])/\∃r':List Nat,pD l (c+c) r'/\r'.length=r.length/\S.ownsRow B 3 1 (.slice p r.length capr) r.length (r'.map bP)/\Chg (λb=>b=p) w S:=by
 have a3:r.length=l.length:=by have :=hp.length_eq;simpa using this
 have Y:∀x∈r,x<l.length:=λx hx=>aR8.1 (hp.mem_iff.1 hx)
 letI:Inhabited (Fin l.length):=⟨⟨0,h0⟩⟩
 let d:Array (Fin l.length):=(r.attach.map λx=>⟨x.1,Y x.1 x.2⟩).toArray
 have H:d.toList.map Fin.val=r:=by
  show (r.attach.map _).map _=r;rw[aQ6];exact aL3 r
 have N:d.size=r.length:=by rw[<-Array.length_toList,<-aP7 (f:=Fin.val),H]
 have O:d.toList.map (λx:Fin l.length=>bP x.1)=r.map bP:=by
  have e:=bb9 (List.map bP) H;rw[aQ6]at e;exact e
 have R:=(cH s (k:=p) rfl).2;have hH:Go.Sort.Holds (λx:Fin l.length=>bP x.1) w p 0 d:=by
  intro j Z;obtain⟨g',a2,hv,_,_,_,_,G,W⟩:=cS s E;injection hv with L _ _
  injection L with L
  injection L with L _ _
  subst L;refine⟨?_,W _⟩;rw[aY0,G j E,<-O,aO3];simp[Z]
 have M:CmpLays1 prog 94 #[.pointer J, .pointer K] (λx:Fin l.length=>bP x.1) (λx y=>iA t c x.1 y.1) p 0 d.size w:=by
  intro m os dk _ x y;have hc:=fC (λx:Fin l.length=>bP x.1) w p m dk os;have hx:x.1<t.length:=by have :=x.2;have :=v.len;omega
  have hy:y.1<t.length:=by have :=y.2;have :=v.len;omega
  refine(Hp (h.chg hc Q.1 Q.2.1 Q.2.2.1 Q.2.2.2.2) (hc.cell hf Q.2.2.2.1) x.1 y.1 hx hy (by rw[v.len];exact hl) hw hr).mono ?_;rintro e S ⟨rfl,n,rfl⟩;exact⟨rfl,n,#[],by rw[Go.Sort.grow_empty]⟩
 have u:∀x y:Fin l.length,ltOf (λx y:Fin l.length=>iA t c x.1 y.1) x y=true↔ltK l (c+c) x.1 y.1:=λx y=>by
  unfold ltOf;rw[bc3,aD5 v]
 have o:∀x y:Fin l.length,ltOf (λx y:Fin l.length=>iA t c x.1 y.1) x y=false↔¬ltK l (c+c) x.1 y.1:=λx y=>by
  rw[<-u,aJ9]
 have hO:Go.Sort.SWO (ltOf (λx y:Fin l.length=>iA t c x.1 y.1)):=
  ⟨λx=>(o x x).2 jK,λx y z a b=>(u x z).2 (oB ((u x y).1 a) ((u y z).1 b)),λx y z a b=>(o x z).2 (λk=>by
   rcases yP l (c+c) x.1 y.1 with q | q | q
   ·exact(o x y).1 a q
   ·exact(o y z).1 b (Yp q.symm k)
   ·exact(o y z).1 b (oB q k))⟩
 have eg:∀A w,(callFunc 94 A).run prog w= .ok (.enter 94 A) w:=enters_of func94 Ek rfl;have C:=Tryz.slices_SortFunc (λx:Fin l.length=>bP x.1) (λ_=>rfl) (λx y=>iA t c x.1 y.1) hO 94 #[.pointer J, .pointer K] p 0 capr d w eg M hH R (by rw[N];omega);rw[N]at C;refine C.mono ?_;rintro e S ⟨rfl,F,n,os,P,a1,rfl⟩;have D:F.size=r.length:=by have :=P.1;omega
 have I:(F.toList.map Fin.val).Perm r:=by
  have :=P.2.2;rw[aJ0 E,aJ0 E]at this;rw[<-H];exact this.map _
 refine⟨rfl,F.toList.map Fin.val,⟨I.trans hp,aS7.2 (λi j hi Z X=>?_)⟩,by simp[D],?_,fC _ _ _ _ _ _⟩
 ·have a0:j<F.size:=by simpa using Z
  have :=a1 i j (aY1 _) X E;rw[o,bc5 F i E,bc5 F j a0]at this;simpa using this
 ·have :=jV (λx:Fin l.length=>bP x.1) s n F os D;rw[aQ6];exact this
def eA(s:Int):Bool:=decide (0<=s/\s<257)
def mM(s l:Int):Int:=if 0<=s/\s<257/\0<=l/\l<=9 then s/2^(9-l).toNat else -1
def oF(s l:Int):Bool:=decide (0<=s/\s<257/\0<=l/\l<9/\s/2^(8-l).toNat%2=1)
theorem dD{s:Int}(a:0<=s)(b:s<257):eA s=true:=by simp[eA,a,b]
theorem eS{s:Int}(h:¬(0<=s/\s<257)):eA s=false:=by simp only[eA];exact bc0 h
theorem Pb(x:Int)(a:0<=x)(b:x<9223372036854775808):bits BinOp.and IntKind.i64 x 1=x%2:=by
 have h:=Go.Proofs.and_one x.toNat E;rw[aK6 a]at h;rw[h];omega
theorem shr_bd(s:Int)(n:Nat)(a:0<=s)(b:s<257):0<=s/2^n/\s/2^n<257:=by
 have c:(0:Int)<2^n:=Int.pow_pos E;refine⟨Int.ediv_nonneg a E,?_⟩;have :=Int.ediv_le_self (2^n) a;omega
theorem cM(s:Int)(w:World):Calls prog 122 #[s] w λe c=>e= .returned (.bool (eA s))/\w=c:=by
 by_cases a:0<=s
 ·by_cases b:s<257
  ·have e:eA s=true:=dD a b;rw[e];go_in;go_wp2;go_ret;exact Er
  ·have e:eA s=false:=eS E;rw[e];go_in;go_wp2;go_ret;exact Er
 ·have e:eA s=false:=eS E;rw[e];go_in;go_wp2;go_ret;exact Er
theorem rL(b:Int)(w:World)(c:0<=b)(d:b<256):Calls prog 111 #[.int .u8 b] w λe a=>e= .returned (b+1:Int)/\w=a:=by
 go_in;go_wp2;go_ret;exact Er
theorem zR(s:Int)(w:World)(c:1<=s)(a:s<257):Calls prog 58 #[s] w λe b=>e= .returned (.tuple #[.int .u8 (s-1), .bool true])/\w=b:=by
 have e:eA s=true:=dD E a;have d:(s==0)=false:=by simp;omega
 go_in;go_wp2_with (go_at_call 122;refine Cq (cM _ _) ?_);go_ret2;exact Er
theorem Ws(s:Int)(w:World)(h:¬(1<=s/\s<257)):Calls prog 58 #[s] w λe b=>e= .returned (.tuple #[.int .u8 0, .bool false])/\w=b:=by
 by_cases a:s=0
 ·subst a;go_in;go_wp2;go_ret2;exact Er
 ·have e:eA s=false:=eS E;have c:(s==0)=false:=by simp;omega
  go_in;go_wp2_with (go_at_call 122;refine Cq (cM _ _) ?_);go_ret2;exact Er
theorem Qq(s l:Int)(w:World):Calls prog 176 #[s,l] w λe j=>e= .returned (mM s l:Int)/\w=j:=by
 by_cases b:0<=s/\s<257
 ·have e:eA s=true:=dD b.1 b.2;obtain⟨d,f⟩:=b;by_cases g:0<=l
  ·have i:decide (l<0)=false:=by simp;omega
   by_cases h:l<=9
   ·have a:mM s l=s/2^(9-l).toNat:=bd0 ⟨d,f,g,h⟩;rw[a];clear a;have c:decide (9<l)=false:=by simp;omega
    go_in;go_wp2_with (go_at_call 122;refine Cq (cM _ _) ?_);go_ret;exact Er
   ·have a:mM s l= -1:=bc9 E;rw[a];clear a;have c:decide (9<l)=true:=by simp;omega
    go_in;go_wp2_with (go_at_call 122;refine Cq (cM _ _) ?_);go_ret;exact Er
  ·have a:mM s l= -1:=bc9 E;rw[a];clear a;have i:decide (l<0)=true:=by simp;omega
   go_in;go_wp2_with (go_at_call 122;refine Cq (cM _ _) ?_);go_ret;exact Er
 ·have e:eA s=false:=eS b;have a:mM s l= -1:=bc9 E;rw[a];clear a;go_in;go_wp2_with (go_at_call 122;refine Cq (cM _ _) ?_);go_ret;exact Er
theorem af7{s l:Int}(a:0<=s)(b:s<257)(c:0<=l)(d:l<9):(bits BinOp.and IntKind.i64 (s/2^(8-l).toNat) 1==1)=oF s l:=by
 have e:=shr_bd s (8-l).toNat a b;rw[Pb _ e.1 E];simp only[oF,a,b,c,d,true_and];rfl
theorem Wq(s l:Int)(w:World):Calls prog 179 #[s,l] w λe k=>e= .returned (.bool (oF s l))/\w=k:=by
 by_cases b:0<=s/\s<257
 ·have e:eA s=true:=dD b.1 b.2;obtain⟨d,f⟩:=b;by_cases g:0<=l
  ·have j:decide (l<0)=false:=by simp;omega
   by_cases i:l<9
   ·rw[<-af7 d f g i];have c:decide (9<=l)=false:=by simp;omega
    go_in;go_wp2_with (go_at_call 122;refine Cq (cM _ _) ?_);go_ret;exact Er
   ·have a:oF s l=false:=bc0 E;rw[a];clear a;have c:decide (9<=l)=true:=by simp;omega
    go_in;go_wp2_with (go_at_call 122;refine Cq (cM _ _) ?_);go_ret;exact Er
  ·have a:oF s l=false:=bc0 E;rw[a];clear a;have j:decide (l<0)=true:=by simp;omega
   go_in;go_wp2_with (go_at_call 122;refine Cq (cM _ _) ?_);go_ret;exact Er
 ·have e:eA s=false:=eS b;have a:oF s l=false:=bc0 (λh=>b ⟨h.1,h.2.1⟩);rw[a];clear a;go_in;go_wp2_with (go_at_call 122;refine Cq (cM _ _) ?_);go_ret;exact Er
def cat(px:Nat->List Int):Nat->List Int
 | 0=>[]
 | j+1=>cat px j++px j
theorem cat_le(a:Nat->List Int){j m:Nat}(h:j<=m):(cat a j).length<=(cat a m).length:=by
 induction m with
 | zero=>
      have :j=0:=E;subst this;exact aV3 _
 | succ m b=>
  by_cases e:j=m+1
  ·subst e;exact aV3 _
  ·have :=b E;simp only[cat,aP3];omega
def oO(x:Int):Value:= .int .i64 (x+1)
theorem Tryz.infoInt:(prog.info? 3).map (λi=>(i.zero,i.size,i.bytes))=some (some (.int .i64 0),1,8):=Ek
theorem Wp(C m c:Nat)(N:Nat->Option Addr)(pc:Nat->Nat)(d:Nat->List Int)(w:World)(hm:m<=9223372036854775807)(r:∀j,j<m->w.cell? (C,j)=some (.slice (N j) (d j).length (pc j)))(J:C<w)(t:∀j,j<m->Reads w .u8 (N j) (d j))(q:∀j,j<m->∀i,i<(d j).length->0<=(d j)[i]?.getD 0/\(d j)[i]?.getD 0<256)(B:(cat d m).length<=1000000000):Calls prog 91 #[.slice C m c] w λe T=> ∃v,e= .returned v/\T.ownsRow w 3 1 v ((cat d m).length+1) ((cat d m).map oO++[.int .i64 0])/\Below w w T:=by
 go_in;go_wp2;go_loopw [3,10] (λv i wr=>∃k:Nat,k<=m/\i= .int .i64 k/\wr.ownsRow w 3 1 v (cat d k).length ((cat d k).map oO)/\Below w w wr)
  (λ_ i _=>m-(intOf i).toNat)
 exact⟨0,aY1 _,rfl,bb2 _ _ _ _,aJ6 _ _⟩;case round=>
  obtain⟨k,hk,rfl,a,f⟩:=hrel;obtain⟨U,rfl⟩:∃U:World,U=wr:=⟨_,rfl⟩;have K:=f.size;by_cases z:k<m
  ·have hc:=(f.cell (p:=(C,k)) J).trans (r k z);have S:=t k z;have Q:=q k z;have G:(cat d (k+1)).length<=1000000000:=aV4 (cat_le d E) B;have R:(cat d k).length+(d k).length<=1000000000:=by simpa[cat]using G
   have V:Hid (cat d (k+1)=cat d k++d k):=rfl;clear r t q;generalize P:d k=xs at *;generalize N k=pk at *;have Z:=θ P;clear P;go_wp2;go_loopw [3,16] (λv i wr=>∃n:Nat,n<=xs.length/\i= .int .i64 n/\wr.ownsRow w 3 1 v ((cat d k).length+n) ((cat d k++xs.take n).map oO)/\Below w w wr)
    (λ_ i _=>xs.length-(intOf i).toNat)
   exact⟨0,Nat.zero_le _,rfl,by simpa using a,f⟩;case round=>
    obtain⟨n,hn,rfl,a,f⟩:=hrel;have L:=f.size;by_cases y:n<xs.length
    ·obtain⟨b,M,rfl,A,l⟩:=S.some E;have X:=(f.cell (p:=(b,M+n)) A).trans (l n y);obtain⟨D,F⟩:=Q n y;have u:(cat d k++xs.take (n+1)).map oO=(cat d k++xs.take n).map oO++[oO (xs[n]?.getD 0)]:=by
      rw[aT5,aO0 y];simp only[aQ2,aL1,aY8,aY3,aQ4,aQ7]
     clear l S Q;generalize xs[n]?.getD 0=x at *;have W:=θ u;clear u;go_wp2_with (first
      | (go_at_call 111;refine Cq (rL _ _ D F) ?_)
      | (at_builtin;refine fM rfl _ _ 36 rfl w 3 Tryz.infoInt ba0 rfl _ _ _ rfl a rfl rfl ?c1 ?c2 ?c3 ?_))
     case c1=>unfold maxLen;omega
     case c2=>omega
     case c3=>omega
     intro Y O h g;have s:Below w w O:=f.grown g L (λj I=>(a.lt j I).1);go_wp2;go_roundw;exact⟨n+1,E,Es,by rw[W.o];simpa only[List.map_append,List.map_take,List.append_assoc,Nat.add_assoc,oO]using h,s⟩;simp[intOf];omega
    ·have H:n=xs.length:=E;subst H;rw[aT8]at a;go_wp2;go_roundw;exact⟨k+1,E,Es,by rw[V.o,aP3];exact a,f⟩;simp[intOf];omega
  ·have H:k=m:=E;subst H;go_wp2_with (at_builtin;refine fM rfl _ _ 36 rfl w 3 Tryz.infoInt ba0 rfl _ _ _ rfl a rfl rfl ?c1 ?c2 ?c3 ?_);case c1=>unfold maxLen;omega
   case c2=>omega
   case c3=>omega
   intro Y O h g;have s:Below w w O:=f.grown g K (λj I=>(a.lt j I).1);go_wp2;go_ret;exact⟨_,rfl,h,s⟩
theorem Tf(b c:Nat)(d:Option Addr)(g:Nat)(a:List Int)(w:World)(f:b<w)(l:w.cell? b=some (.slice d a.length g))(n:Reads w .u8 d a)(k:oR a)(m:a.length<=1000000000):Calls prog 91 #[.slice b 1 c] w λe i=> ∃v,e= .returned v/\i.ownsRow w 3 1 v (a.length+1) (a.map oO++[.int .i64 0])/\Below w w i:=by
 have h:=Wp b 1 c (λ_=>d) (λ_=>g) (λ_=>a) w E (λj o=>by
                                                   obtain rfl:j=0:=E
                                                   exact l) f (λ_ _=>n) (λ_ _=>k) (by simpa[cat]using m)
 simpa[cat]using h
def ofV(N:Nat->Int):List Value:=(List.range 257).map λs=>Value.int .i64 (N s)
def tlV(t:Tl):Array Value:=(ofV t.N++[Value.int .i64 t.all]).toArray
theorem gP(N:Nat->Int):(ofV N).length=257:=by simp[ofV]
theorem pJ(N:Nat->Int){s:Nat}(h:s<257):(ofV N)[s]? =some (.int .i64 (N s)):=by simp[ofV,h]
theorem Gb(t:Tl){s:Nat}(h:s<257):(tlV t)[s]? =some (.int .i64 (t.N s)):=by
 unfold tlV;rw[aO7,aN6 (by rw[gP];exact h),pJ _ h]
theorem aH5(t:Tl):(tlV t)[257]? =some (.int .i64 t.all):=by
 unfold tlV;rw[aO7,aN7 (by rw[gP];omega),gP];rfl
theorem aD3(N:Nat->Int){s:Nat}(h:s<257)(v:Int):(ofV N).set s v=ofV (upd N s v):=by
 apply aM9;intro j;rw[aO5,gP];by_cases e:s=j
 ·subst e;rw[bd0 rfl,bd0 h,pJ _ h];simp[upd]
 ·rw[bc9 e];by_cases a:j<257
  ·have b:¬j=s:=λh=>e h.symm;rw[pJ _ a,pJ _ a];simp[upd,b]
  ·rw[aO1 (by rw[gP];omega),aO1 (by rw[gP];omega)]
theorem aH4(t:Tl){s:Nat}(h:s<257)(n:Int):((tlV t).setIfInBounds s (t.N s+n:Int)).setIfInBounds 257 (t.all+n:Int)=tlV (t.add s n):=by
 unfold tlV;rw[aT0,aT0,List.set_append,bd0 (by rw[gP];exact h),aD3 _ h,List.set_append,bc9 (by rw[gP];omega),gP,aW9,aT1];unfold Tl.add;rfl
theorem tzero(w:World):(zeroValue 202).run prog w= .ok (.agg (tlV Tl.zero)) w:=Ek
structure IsTally (w:World) (p:Nat) (t:Tl):Prop where
 ok:t.Ok
 at_:w.heap[p]? =some (.cells (tlV t) 202 (0,0))
theorem IsTally.chg {w w':World}{p:Nat}{S:Nat->Prop}{t:Tl}(h:IsTally w p t)(b:Chg S w w')(a:¬S p):IsTally w' p t:=⟨h.ok,b.heap h.at_ a⟩
theorem IsTally.lt {w:World}{p:Nat}{t:Tl}(h:IsTally w p t):p<w:=(aJ2.1 h.at_).1
def tOf(t:Tl)(s:Int):Int:=if 0<=s/\s<257 then t.N s.toNat else 0
theorem Tg{w:World}{p:Nat}{t:Tl}(h:IsTally w p t)(s:Int):Calls prog 137 #[.pointer p,s] w λe f=>e= .returned (tOf t s:Int)/\w=f:=by
 by_cases a:0<=s/\s<257
 ·have b:Hid (t.N s.toNat=tOf t s):=(bd0 a).symm;have e:eA s=true:=dD a.1 a.2;obtain⟨c,d⟩:=a;have g:w.cell? (p,s.toNat)=some (.int .i64 (t.N s.toNat)):=by rw[bb8 w p s.toNat _ _ _ h.at_,Gb t E]
  go_in;go_wp2_with (go_at_call 122;refine Cq (cM _ _) ?_);go_ret;exact⟨bA b.o,rfl⟩
 ·have b:Hid (0=tOf t s):=(bc9 a).symm;have e:eA s=false:=eS a;go_in;go_wp2_with (go_at_call 122;refine Cq (cM _ _) ?_);go_ret;exact⟨bA b.o,rfl⟩
theorem ay0{w:World}{p:Nat}{s n:Int}(a:¬(0<=s/\s<257)):Calls prog 162 #[.pointer p,s,n] w λe b=>e= .returned (.int .i64 1)/\w=b:=by
 have e:eA s=false:=eS a;go_in;go_wp2_with (go_at_call 122;refine Cq (cM _ _) ?_);go_ret;exact Er
theorem bj4{w:World}{p:Nat}{t:Tl}(h:IsTally w p t){s n:Int}(a:0<=s)(b:s<257)(d:n< -t.N s.toNat\/2147483648-t.all<n):Calls prog 162 #[.pointer p,s,n] w λe j=>e= .returned (.int .i64 2)/\w=j:=by
 have e:eA s=true:=dD a b;have r:w.cell? (p,s.toNat)=some (.int .i64 (t.N s.toNat)):=by rw[bb8 w p s.toNat _ _ _ h.at_,Gb t E]
 have i:w.cell? (p,257)=t.all:=by rw[bb8 w p 257 _ _ _ h.at_,aH5]
 have k:=h.ok.pos s.toNat E;have l:=h.ok.le (s:=s.toNat) E;have m:=h.ok.max;have o:=h.ok.all_pos;generalize t.N s.toNat=N at *;generalize t.all=all at *;clear h;by_cases c:n< -N
 ·have f:decide (n< -N)=true:=by simpa using c
  clear d;go_in;go_wp2_with (go_at_call 122;refine Cq (cM _ _) ?_);go_ret;exact Er
 ·have g:2147483648-all<n:=E;have f:decide (n< -N)=false:=by simpa using c
  have q:decide (2147483648-all<n)=true:=by simpa using g
  clear d;go_in;go_wp2_with (go_at_call 122;refine Cq (cM _ _) ?_);go_ret;exact Er
theorem yA{w:World}{p:Nat}{t:Tl}(h:IsTally w p t){s n:Int}(i:0<=s)(j:s<257)(f: -t.N s.toNat<=n)(g:n<=2147483648-t.all):Calls prog 162 #[.pointer p,s,n] w λe q=>e= .returned (.int .i64 0)/\IsTally q p (t.add s.toNat n)/\Chg (λk=>k=p) w q:=by
 have e:eA s=true:=dD i j;have F:w.cell? (p,s.toNat)=some (.int .i64 (t.N s.toNat)):=by rw[bb8 w p s.toNat _ _ _ h.at_,Gb t E]
 have u:w.cell? (p,257)=t.all:=by rw[bb8 w p 257 _ _ _ h.at_,aH5]
 have G:w.frozen? (p,s.toNat)=false:=bc4 w p _ _ _ h.at_;have v:w.frozen? (p,257)=false:=bc4 w p _ _ _ h.at_;have y:=h.ok.pos s.toNat E;have z:=h.ok.le (s:=s.toNat) E;have A:=h.ok.max;have B:=h.ok.all_pos;have b:=Tl.add_ok h.ok (s:=s.toNat) E f g;have d:=θ b;have c:=θ h.at_;have r:=θ (aH4 t (s:=s.toNat) E n);generalize t.N s.toNat=N at *;generalize a:t.all=all at *;have C:decide (n< -N)=false:=by simp;omega
 have D:decide (2147483648-all<n)=false:=by simp;omega
 have x:s.toNat≠257:=E;have l:=θ a;clear h b a;go_in;go_wp2_with (go_at_call 122;refine Cq (cM _ _) ?_);go_region;go_wp2;go_ret;refine⟨rfl,⟨d.o,?_⟩,?_⟩
 ·have m:=bc7 _ p 257 _ _ (all+n:Int) (bc7 w p s.toNat _ _ (N+n:Int) c.o);rw[r.o]at m;exact m
 ·exact(((Chg.refl (S:=λk=>k=p)).setCell (p,s.toNat) (Ei rfl) _).setCell (p,257) (Ei rfl) _).drew
theorem Im{w:World}{a:Option Addr}{c:Nat}{l:List Int}(K:Reads w .i64 a l)(L:∀x∈l,0<=x/\x<257)(F:l.length<=2147483648):Calls prog 136 #[.slice a l.length c] w λe G=>e= .returned (.tuple #[.pointer w, .int .i64 0])/\IsTally G w (Tl.of l)/\Below w w G:=by
 have O:=tzero;have C:IsTally (w.alloc (.cells (tlV Tl.zero) 202)) w Tl.zero:=⟨Tl.zero_ok,bc6 w _⟩;generalize J:tlV Tl.zero=V at *;have H:=θ C;clear C J;go_in;go_wp2;go_loopw [12] (λi wr=>∃k:Nat,k<=l.length/\i= .int .i64 k/\IsTally wr w (Tl.of (l.take k))/\Below w w wr) (λi _=>l.length-(intOf i).toNat);exact⟨0,E,rfl,H.o,(aJ6 _ _).alloc (aV3 _) _⟩;case round=>
  obtain⟨k,N,rfl,m,h⟩:=hrel;have y:=h.size;by_cases g:k<l.length
  ·obtain⟨b,A,rfl,t,d⟩:=K.some E;have v:=(h.cell (p:=(b,A+k)) t).trans (d k g);have z:=L l[k] (aP0 _);have e:l.take (k+1)=l.take k++[((l[k].toNat:Nat):Int)]:=by
    rw[List.take_succ_eq_append_getElem g,aK6 z.1]
   have B:Tl.of (l.take (k+1))=(Tl.of (l.take k)).add l[k].toNat 1:=by rw[e,Tl.of_snoc]
   have I:=m.ok.pos l[k].toNat E;have D:(1:Int)<=2147483648-(Tl.of (l.take k)).all:=by
    show (1:Int)<=2147483648-((l.take k).length:Int);rw[aQ1];omega
   rw[aO0 g,aY3]at v;have f:=yA m z.1 z.2 (n:=1) E D;rw[<-B]at f;have j:=θ f;generalize l[k]=x at *;clear d e B I D f;go_wp2_with fail;refine j.o.mono ?_;rintro e M ⟨rfl,r,u⟩;have s:Below w w M:=h.trans (u.below (λb h=>by subst h;exact aV3 _) y);clear m;go_wp2;go_roundw;exact⟨k+1,E,Es,r,s⟩;simp[intOf];omega
  ·have q:k=l.length:=E;rw[q,aT8]at m;clear q;go_wp2;go_ret2;exact⟨rfl,m,h⟩
def cC(t:Tl)(s:Int):Int:=bl t.N (iM s)
theorem Dz{w:World}{p:Nat}{t:Tl}(h:IsTally w p t)(s:Int):Calls prog 138 #[.pointer p,s] w λe u=>e= .returned (cC t s:Int)/\w=u:=by
 go_in;go_wp2_with fail;have a:min (max s 0) 257=(iM s:Int):=by unfold iM;omega
 have q:=Ae s;rw[a];clear a;have l:Hid (cC t s=bl t.N (iM s)):=rfl;generalize iM s=c at *;go_loop [5,10] (λn i=>∃k:Nat,k<=c/\i= .int .i64 k/\n= .int .i64 (bl t.N k)) (λ_ i=>c-(intOf i).toNat);exact⟨0,E,rfl,rfl⟩;case round=>
  obtain⟨k,z,rfl,rfl⟩:=hrel;by_cases r:k<c
  ·have v:=vT h.ok.pos (show k<=257 by omega);have b:=lX h.ok.pos (show k+1<=257 by omega) (aV3 _);rw[h.ok.sum]at b;have m:=h.ok.max;have d:bl t.N (k+1)=bl t.N k+t.N k:=rfl;have x:=h.ok.pos k E;have f:tOf t (k:Int)=t.N k:=by unfold tOf;rw[bd0 E];simp
   have g:=θ d;have y:bl t.N k+t.N k<=2147483648:=E;have j:=θ f;clear b m d f;go_wp2_with fail;refine Cq (Tg h _) ?_;rw[j.o];go_wp2;go_round;exact⟨k+1,E,Es,by rw[g.o]⟩;simp[intOf];omega
  ·obtain rfl:k=c:=E;go_wp2;go_ret;exact⟨bA l.o.symm,rfl⟩
theorem Tryz.info257:(prog.info? 174).map (·.size)=some 257:=Ek
theorem Tryz.infoI:(prog.info? 3).map (·.size)=some 1:=Ek
theorem Ja(N:Nat->Int)(k:Nat)(c:k<257)(w:World):(Instr.index 174 (.agg (ofV N).toArray) (.int .i64 k)).run prog w= .ok (N k:Int) w:=by
 have f:=Tryz.infoI;obtain⟨i,a,b⟩:=aY4.1 f;have d:(0:Int)<=(k:Int)/\(k:Int)<257:=E;have e:=pJ N c;simp[Instr.index,asIntOf,bd9 Tryz.underlying174,bd9 aZ8,d,sizeOf,typeInfo,a,b,part,isAgg,e,c]
theorem Xl{w:World}{p:Nat}{t:Tl}(h:IsTally w p t)(k:Int)(C: -9223372036854775808<=k)(K:k<=9223372036854775807):Calls prog 124 #[.pointer p,k] w λe Q=>(∃r,e= .returned (.int .i64 r)/\IsWhich t k r)/\w=Q:=by
 by_cases z:0<=k
 ·have F:decide (k<0)=false:=by simp;omega
  have A:w.rangeAt p 0 (ofV t.N):=by
   intro j v y;have f:j<257:=by
    rcases aV8 j 257 with h | h
    ·exact h
    ·rw[aO1 (by rw[gP];exact h)]at y;cases y
   rw[aY0,bb8 w p j _ _ _ h.at_,Gb t f,<-pJ _ f];exact y
  have d:=λ(k:Nat) (C:k<257) (w:World)=>Ja t.N k C w;have n:=θ d;have b:(prog.info? 174).map (·.size)=some (ofV t.N).length:=by rw[gP];exact Tryz.info257
  clear d;go_in;go_wp2_with (refine wpList_load_mid rfl 174 _ rfl p 0 rfl (ofV t.N) _ A Tryz.underlying174 rfl b ?_);clear b;go_loop [1,17] (λP i=>∃s:Nat,s<=257/\i= .int .i64 s/\P= .int .i64 (k-bl t.N s)/\0<=k-bl t.N s) (λ_ i=>257-(intOf i).toNat);exact⟨0,E,rfl,by simp[bl],by simp[bl];exact z⟩;case round=>
   obtain⟨s,R,rfl,rfl,J⟩:=hrel;have H:=vT h.ok.pos (show s<=257 by omega);by_cases a:s<257
   ·have B:=n.o s a;have c:bl t.N (s+1)=bl t.N s+t.N s:=rfl;have u:=θ c;have D:=h.ok.pos s a;have M:=h.ok.le a;have O:=h.ok.max;by_cases I:k-bl t.N s<t.N s
    ·have x:Hid (IsWhich t k s):=⟨λm=>by
       exfalso
       have G:=lX h.ok.pos (show s+1<=257 by omega) (aV3 _)
       rw[h.ok.sum]at G
       rcases m with m | m<;>omega,λ_=>⟨s,a,rfl,E,E⟩⟩
     clear c;go_wp2;go_ret;exact⟨⟨s,rfl,x.o⟩,rfl⟩
    ·have g:0<=k-bl t.N (s+1):=E;have L:0<=k-bl t.N s-t.N s:=E;have q:=θ g;clear c g;go_wp2;go_round;exact⟨s+1,E,Es,by rw[u.o];congr 1;omega,q.o⟩;simp[intOf];omega
   ·obtain rfl:s=257:=E;have l:=h.ok.sum;have x:Hid (IsWhich t k (-1)):=⟨λ_=>rfl,λm=>by exfalso;omega⟩;clear l;go_wp2;go_ret;exact⟨⟨-1,rfl,x.o⟩,rfl⟩
 ·have F:decide (k<0)=true:=by simp;omega
  go_in;go_wp2;go_ret;exact⟨⟨-1,rfl,λ_=>rfl,λh=>E⟩,rfl⟩
end
theorem Qr{s l:Nat}(b:s<257)(a:l<=9):mM (s:Int) (l:Int)=(pth s l:Nat):=by
 unfold mM pth;rw[bd0 ⟨E,E,E,E⟩,show (9-(l:Int)).toNat=9-l by omega,aK2,Int.natCast_pow];rfl
theorem Wr{s l:Nat}(b:s<257)(a:l<9):oF (s:Int) (l:Int)=dN s l:=by
 unfold oF dN;rw[show (8-(l:Int)).toNat=8-l by omega];congr 1;have h:(s:Int)/2^(8-l)=((s/2^(8-l):Nat):Int):=by rw[aK2,Int.natCast_pow];rfl
 rw[h];apply propext;constructor
 ·rintro⟨_,_,_,_,h⟩;omega
 ·intro h;exact⟨E,E,E,E,E⟩
theorem tV{s l:Nat}(b:s<257)(a:l<=9)(w:World):Calls prog 176 #[s,l] w λe c=>e= .returned (.int .i64 (pth s l:Nat))/\w=c:=by
 have :=Qq s l w;rwa[Qr b a]at this
theorem yL{s l:Nat}(b:s<257)(a:l<9)(w:World):Calls prog 179 #[s,l] w λe c=>e= .returned (.bool (dN s l))/\w=c:=by
 have :=Wq s l w;rwa[Wr b a]at this
section
open Go.RowKit
theorem cJ{B:Nat}{X Y:Nat->Prop}(h:∀k,X k->Y k){k:Nat}(a:exT B Y k):exT B X k:=⟨a.1,λb=>a.2 (h k b)⟩
def pQ(B:Nat)(X Y:Nat->Prop)(w w':World)(p:Nat)(D:WD)(O':Nat->Nat->Option ST)(n:Nat)(vis:Int)(l k M:Nat):Prop:=
 WaveE B X w' p D O' n vis (λl' k' v=>l'=l->k'=k->0<=v/\v<=M)/\Chg (λj=>exT B X j\/Y j) w w'
theorem Si{B:Nat}{X Y:Nat->Prop}{w W c:World}{p n b:Nat}{D:WD}{i:Nat->Nat->Option ST}{a:Int}{M e:Nat}{R:World->Prop}(r:WaveE B (λj=>X j\/j=b) c p D i n a bF)(u:Chg (λj=>exT B (λj=>X j\/j=b) j\/Y j) W c)(y:R c)(s:∀c o,R c->Chg (λj=>j=p) c o->R o)(g:e<=M)(t:Below w w W)(z:∀k,X k->k<w.heap.size)(A:∀j,Y j->X j)(x:B<=w)(m:Nat):Ending.returned (.tuple #[])=Ending.returned (.tuple #[])/\∃v:Nat,v<=M/\WaveE B X ((c.drewN m).setCell (p,10) (a+e:Int)) p D i n (a+v) bF/\Chg (λj=>exT B X j\/Y j) w ((c.drewN m).setCell (p,10) (a+e:Int))/\R ((c.drewN m).setCell (p,10) (a+e:Int)):=by
 have l:=((r.mono (Y:=X) (λk f=>Ei f)).drewN m).setVis (a+e);have q:Chg (λj=>exT B X j\/Y j) W c:=u.mono (λj d=>d.imp (λh=>cJ (λk f=>Ei f) h) id);refine⟨rfl,e,g,l.1,?_,s _ _ y ((Chg.refl.drewN m).setCell (S:=λj=>j=p) (p,10) (Ei rfl) _)⟩;exact((Chg.of_below (S:=λj=>exT B X j\/Y j) t).trans (q.drewN m) (λj d=>Ei d)).trans (l.2.mono (λj d=>Ei d)) (λj d=>Ei d)
theorem Ev{B:Nat}{X Y:Nat->Prop}{w:World}{p n:Nat}{D:WD}{O:Nat->Nat->Option ST}{f:Int}(h:WaveE B X w p D O n f bF){l k:Nat}(hl:l<9)(hk:k<pw l)(a8:0<=f/\f<=1000000000000){M:Nat}(hM:M<=1000000000000)(hY:∀j,Y j->X j)(O':Nat->Nat->Option ST)(g:Nat)(lb:Array Value)(eg:∀C w,(callFunc g C).run prog w= .ok (.enter g C) w)(R:World->Prop)(hR:∀s w2,R s->Chg (λj=>j=p) s w2->R w2)(u:∀(w0:World) (Z:Nat->Prop),(∀j,X j->Z j)->Below w w w0->WaveE B Z w0 p D O n f bF->Calls prog g (#[cI D l k]++lb) w0 λe s=>e= .returned (.tuple #[])/\pQ B Z Y w0 s p D O' n f l k M/\R s):Calls prog 156 #[.pointer p,cI D l k, .func (.func g) #[] lb] w λe w'=> e= .returned (.tuple #[])/\∃v:Nat,v<=M/\WaveE B X w' p D O' n (f+v) bF/\Chg (λj=>exT B X j\/Y j) w w'/\R w':=by
 have b:=aB w (.cells #[.pointer (D.Q l k,0),l,k] 181);have r:=bc6 w (.cells #[.pointer (D.Q l k,0),l,k] 181);obtain⟨W,hW⟩:∃W,W=w.alloc (.cells #[.pointer (D.Q l k,0),l,k] 181):=⟨_,rfl⟩;have d:Hid (∀j,Calls prog g (#[cI D l k]++lb) (W.drewN j) λe s=>e= .returned (.tuple #[])/\pQ B (λj=>X j\/j=w.heap.size) Y (W.drewN j) s p D O' n f l k M/\R s):=by
  intro j;rw[<-hW]at b r;refine u (W.drewN j) _ (λj h=>Ei h) ⟨b.os,b.tape,b.output,b.size,b.block⟩ ((h.less b (Y:=λj=>X j\/j=w.heap.size) (λj hj=>hj.elim Ei (λe=>Ej E)) (λj hj=>hj.elim (λhx=>aV7 (h.x j hx) b.size) (λe=>by subst e;exact(aJ2.1 r).1))).drewN j)
 have F:=θ h.x;have U:=θ h.le;have N:W.cell? ⟨w.heap.size,0,none⟩=some (.pointer (D.Q l k,0))/\W.cell? ⟨w.heap.size,1,none⟩=l/\W.cell? ⟨w.heap.size,2,none⟩=k:=by
  rw[hW];exact⟨by rw[bb8 _ w.heap.size 0 _ _ _ r];rfl,by rw[bb8 _ w.heap.size 1 _ _ _ r];rfl,by rw[bb8 _ w.heap.size 2 _ _ _ r];rfl⟩
 obtain⟨N,c1,c2⟩:=N;have P:=θ r;have A:=θ b;have G:=θ hY;have T:=θ hR;have S:Hid (l<9/\k<pw l):=⟨hl,hk⟩;have a5:=θ h.cells.2.2.2.2;clear h u r b hY hR hl hk;unfold cI at d⊢;obtain⟨q,hq⟩:=Ey (D.Q l k);rw[hq]at N d P A hW⊢;have hQ:=θ hq;clear hq;go_in;go_wp2_with fail;rw[<-hW]at P A⊢;have a9:Hid (W=W.drewN 0):=rfl;refine(d.out 0).mono ?_;rintro e s ⟨rfl,⟨z,t⟩,a0⟩;have t:Chg (λj=>exT B (λj=>X j\/j=w.heap.size) j\/Y j) W s:=t;have V:¬(exT B (λj=>X j\/j=w.heap.size) w.heap.size\/Y w.heap.size):=by
  rintro(hx | hx)
  ·exact hx.2 (Ej rfl)
  ·have :=F.out _ (G.out _ hx);omega
 have b0:s.cell? ⟨w.heap.size,0,none⟩=some (.pointer q):=t.cell (p:=⟨w.heap.size,0,none⟩) N V;obtain⟨_,_,b4,fz,b2⟩:=z.cells;have b5:=fz 10;obtain⟨S1,a6,x1,a3,H,_,_⟩:=z.step S.out.1 S.out.2;obtain⟨a2,a4⟩:=a3 rfl rfl;obtain⟨v1,rfl⟩:=aK0 a2;rw[hQ.out]at H;have a1:v1<=M:=by exact_mod_cast a4
 have L:Hid (∀j,Calls prog 206 #[.pointer q] (s.drewN j) λe a7=>e= .returned (.int .i64 (v1:Int))/\s.drewN j=a7):=λj=>Xk (H.drewN j);have J:=θ (z.any);have I:=θ t;have K:=θ a0;have b1:p≠w.heap.size:=by have :=a5.out;omega
 have b3:IntKind.i64.wrap (f+(v1:Int))=f+(v1:Int):=aK8 _ E;clear z t a0 V N c1 c2 H a3 a2 a4 fz d;go_wp2_with fail;refine aG (λw'=>w'.cell? ⟨w.heap.size,0,none⟩=some (.pointer q)) Ek ?hilk (λc=>?_);case hilk=>(go_simp)
 refine rV 0 1 2 4 c ?_;refine rt 5 c ?_;refine oC (i:=3) (j:=6) rfl rfl Ek rfl rfl (λy m=>?blk3) (λy m=>?blk6);case blk3=>
  go_simp;refine m.out _ _ ?kplka3 (λa=>?_);case kplka3=>(go_simp)
  clear m y c;have c:=a;clear a;try simp only[pt]
  refine rg 6 λy m=>?_;go_simp
  ((refine(L.o _).mono ?_))
  rintro e w2 ⟨rfl,rfl⟩;refine m.out _ _ ?kplka6 (λa=>?_);case kplka6=>(go_simp)
  clear m y c;have c:=a;clear a;try simp only[pt]
  refine rU 7 8 c ?_;refine rt 9 c ?_;refine rg 10 λy m=>?_;go_simp;refine m.out _ _ ?kplka10 (λa=>?_);case kplka10=>(go_simp)
  clear m y c;have c:=a;clear a;try simp only[pt]
  refine rz ?_;clear c;go_wp2;go_end0;exact Si J.o I.o K.o T.out a1 A.out F.out G.out U.out _
 case blk6=>
  go_simp
  ((refine(L.o _).mono ?_))
  rintro e w2 ⟨rfl,rfl⟩;refine m.out _ _ ?kplkb6 (λa=>?_);case kplkb6=>(go_simp)
  clear m y c;have c:=a;clear a;try simp only[pt]
  refine rg 3 λy m=>?_;go_simp;refine m.out _ _ ?kplkb3 (λa=>?_);case kplkb3=>(go_simp)
  clear m y c;have c:=a;clear a;try simp only[pt]
  refine rU 7 8 c ?_;refine rt 9 c ?_;refine rg 10 λy m=>?_;go_simp;refine m.out _ _ ?kplkb10 (λa=>?_);case kplkb10=>(go_simp)
  clear m y c;have c:=a;clear a;try simp only[pt]
  refine rz ?_;clear c;go_wp2;go_end0;exact Si J.o I.o K.o T.out a1 A.out F.out G.out U.out _
def Box1(w:World)(b:Nat)(v:Value)(T:TypeId):Prop:=w.heap[b]? =some (.cells #[v] T (0,0))
section
variable {w w':World}{b:Nat}{v:Value}{T:TypeId}
theorem Box1.cell (h:Box1 w b v T):w.cell? b=some v:=by rw[bb8 w b 0 _ _ _ h];rfl
theorem Box1.frz (h:Box1 w b v T):w.frozen? b=false:=bc4 w b 0 _ _ h
theorem Box1.lt (h:Box1 w b v T):b<w:=(aJ2.1 h).1
theorem Box1.chg {S:Nat->Prop}(h:Box1 w b v T)(a:Chg S w w')(c:¬S b):Box1 w' b v T:=a.heap h c
theorem Box1.below (h:Box1 w b v T)(a:Below w w w'):Box1 w' b v T:=(Chg.of_below (S:=λ_=>False) a).heap h id
theorem Box1.set (h:Box1 w b v T)(u:Value):Box1 (w.setCell b u) b u T:=bc7 w b 0 _ _ u h
theorem Box1.new (w:World)(v:Value)(T:TypeId):Box1 (w.alloc (.cells #[v] T)) w v T:=bc6 w _
end
theorem WaveE.setBox {B:Nat}{Z:Nat->Prop}{w:World}{p n:Nat}{D:WD}{O:Nat->Nat->Option ST}{a:Int}{c:Nat->Nat->Int->Prop}(h:WaveE B Z w p D O n a c){b:Nat}(d:Z b)(u:Value):WaveE B Z (w.setCell b u) p D O n a c:=
 h.chg (Z:=λj=>j=b) (Chg.refl.setCell (S:=λj=>j=b) (b,0) (Ei rfl) u) (λk f _ e=>f.2 (by subst e;exact d))
theorem wRank1{B:Nat}{Z:Nat->Prop}{w:World}{p n:Nat}{D:WD}{O:Nat->Nat->Option ST}{y:Int}(h:WaveE B Z w p D O n y bF){l k:Nat}(P:l<9)(z:k<pw l){H I m:Nat}(z1:Z H)(z2:Z I)(V:Z m){j:Int}{x:Bool}{Y:Value}(L:Box1 w H j 3)(M:Box1 w I (.bool x) 4)(N:Box1 w m Y 3):Calls prog 209 #[cI D l k, .pointer H, .pointer I, .pointer m] w λe w'=>e= .returned (.tuple #[])/\pQ B Z (λi=>i=m) w w' p D O n y l k (aP (O l k)+1)/\Box1 w' m (aM (aF (O l k)) j.toNat x:Int) 3:=by
 have a:=aB w (.cells #[.pointer (D.Q l k,0),l,k] 181);obtain⟨W,J⟩:∃W,W=w.alloc (.cells #[.pointer (D.Q l k,0),l,k] 181):=⟨_,rfl⟩;have g:=bc6 w (.cells #[.pointer (D.Q l k,0),l,k] 181);rw[<-J]at a g;have X:W.cell? w=some (.pointer (D.Q l k,0)):=by rw[bb8 _ w 0 _ _ _ g];rfl
 have c1:=(L.below a).cell;have c2:=(M.below a).cell;have HE:=θ (h.below a);have c:=θ ((h.below a).tRank P z j x);have C:=θ (N.below a);have A:=θ a;have t:=θ V;clear h L M N a g z1 z2 V P z;unfold cI;obtain⟨r,U⟩:=Ey (aM (aF (O l k)) j.toNat x);rw[U]at c⊢;clear U;obtain⟨q,R⟩:=Ey (D.Q l k);rw[R]at X c J⊢;clear R;subst J;go_in;go_wp2_with fail;refine c.o.mono ?_;rintro e w1 ⟨rfl,u,f⟩;have d:=C.o.chg f (λz=>z.2 t.o);have s:=θ d;have c3:=d.cell;have f3:=d.frz;have G:=θ u;have F:=θ f;clear u f d c;go_wp2;go_end0;refine⟨rfl,⟨G.o.setBox t.o _,?_⟩,s.out.set _⟩;exact((Chg.of_below (S:=λj=>exT B Z j\/j=m) A.o).trans (F.o.mono (λj K=>Ei K)) (λj K=>Ei K)).setCell _ (Ei (Ej rfl)) _
theorem Ex{B:Nat}{X:Nat->Prop}{w:World}{p n:Nat}{D:WD}{O:Nat->Nat->Option ST}{s:Int}(h:WaveE B X w p D O n s bF){l k:Nat}(hl:l<9)(W:k<pw l)(M:0<=s/\s<=1000000000000)(hM:aP (O l k)+1<=1000000000000)(j:Int)(x:Bool):Calls prog 159 #[.pointer p,cI D l k,j, .bool x] w λe w'=> e= .returned (aM (aF (O l k)) j.toNat x:Int)/\∃v:Nat,v<=aP (O l k)+1/\WaveE B X w' p D O n (s+v) bF/\Chg (exT B X) w w':=by
 obtain⟨r,hr⟩:=Ey (aM (aF (O l k)) j.toNat x);obtain⟨t,m⟩:∃t,t=w.alloc (.cells #[.pointer (D.Q l k,0),l,k] 181):=⟨_,rfl⟩;obtain⟨u,y⟩:∃u,u=t.alloc (.cells #[j] 3):=⟨_,rfl⟩;obtain⟨wc,z⟩:∃wc,wc=u.alloc (.cells #[.bool x] 4):=⟨_,rfl⟩;obtain⟨d,A⟩:∃d,d=wc.alloc (.cells #[.int .i64 0] 3):=⟨_,rfl⟩;have sa:t.heap.size=w.heap.size+1:=by rw[m];simp
 have sb:u.heap.size=w.heap.size+2:=by rw[y];simp[sa]
 have sc:wc.heap.size=w.heap.size+3:=by rw[z];simp[sb]
 have ba:Below w w t:=by rw[m];exact aB w _
 have V:Below t t u:=by rw[y];exact aB t _
 have N:Below u u wc:=by rw[z];exact aB u _
 have G:Below wc wc d:=by rw[A];exact aB wc _
 have H:t.heap[w.heap.size]? =some (.cells #[.pointer (D.Q l k,0),l,k] 181 (0,0)):=by rw[m];exact bc6 w _
 have I:Box1 u (w.heap.size+1) (.int .i64 j) 3:=by rw[y,<-sa];exact Box1.new t _ _
 have J:Box1 wc (w.heap.size+2) (.bool x) 4:=by rw[z,<-sb];exact Box1.new u _ _
 have C:Box1 d (w.heap.size+3) (.int .i64 0) 3:=by rw[A,<-sc];exact Box1.new wc _ _
 have c:Below w w d:=ba.trans ((V.trans ((N.trans (G.mono E)).mono E)).mono E);have P:d.heap[w.heap.size]? =some (.cells #[.pointer (D.Q l k,0),l,k] 181 (0,0)):=by
  have h2:Below (w.heap.size+1) t d:=(V.trans ((N.trans (G.mono E)).mono E)).mono E;exact(Chg.of_below (S:=λ_=>False) (h2.mono E)).heap H id
 have d1:Box1 d (w.heap.size+1) (.int .i64 j) 3:=(I.below N).below G;have d2:Box1 d (w.heap.size+2) (.bool x) 4:=J.below G;have K:WaveE B (λi=>X i\/(w<=i/\i<w.heap.size+4)) d p D O n s bF:=h.less c (λi f=>f.elim Ei (λg=>Ej g.1)) (λi f=>f.elim (λg=>aV7 (h.x i g) c.size) (λg=>by have :=C.lt;omega));have a:=θ (Ev K hl W M hM (Y:=λi=>i=w.heap.size+3) (λi e=>Ej E) O 209 #[.pointer (w.heap.size+1,0), .pointer (w.heap.size+2,0), .pointer (w.heap.size+3,0)]
  (enters_of func209 Ek rfl) (λw'=>Box1 w' (w.heap.size+3) (.int .i64 r) 3) (λw1 w2 L hc=>L.chg hc (λe=>by have :=h.cells.2.2.2.2;omega))
  (λw0 Z F L R=>by
   rw[<-hr]
   exact wRank1 R hl W (F _ (Ej E)) (F _ (Ej E)) (F _ (Ej E)) (d1.below L) (d2.below L) (C.below L)))
 have c0:d.cell? w=some (.pointer (D.Q l k,0)):=by rw[bb8 _ w 0 _ _ _ P];rfl
 have c1:d.cell? (w,1)=l:=by rw[bb8 _ w 1 _ _ _ P];rfl
 have c2:d.cell? (w,2)=k:=by rw[bb8 _ w 2 _ _ _ P];rfl
 have U:=θ c;have a0:=θ h.le;have a1:=θ h.x;rw[hr];clear hr h ba V N G H I J C c P d1 d2 K hl W sa sb sc;unfold cI at a⊢;obtain⟨q,hq⟩:=Ey (D.Q l k);rw[hq]at c0 a m⊢;clear hq;subst m y z;go_in;go_wp2_with fail;rw[<-A];refine a.o.mono ?_;rintro e w1 ⟨rfl,v,hv,R,hC,hR⟩;have c3:=hR.cell;have HE:=θ R;have HC:=θ hC;clear R hC hR a c0 c1 c2 A;go_wp2;go_ret;refine⟨rfl,v,hv,HE.o.mono (λi f=>Ei f),(Chg.of_below (S:=exT B X) U.o).trans HC.o (λi f=>?_)⟩;rcases f with f | f
 ·exact Ei (cJ (λi f=>Ei f) f)
 ·right;omega
def lC(O:Nat->Nat->Option ST)(L:List Nat):Prop:=∀l k,l<9->k<pw l->aF (O l k)=lvl L l k
def HiO(O:Nat->Nat->Option ST)(H:Nat):Prop:=∀l k,l<9->k<pw l->aP (O l k)<=H
def Syms(L:List Nat):Prop:=∀s∈L,s<257
theorem Syms.lt {L:List Nat}(h:Syms L):∀s∈L,s<512:=λs a=>by have :=h s a;omega
theorem sR{s l:Nat}(a:s<257)(h:l<9):pth s l<pw l:=Di E E
set_option maxRecDepth 1000000 in
theorem sL(D:WD){l:Nat}(h:l<9)(w:World):(Instr.index 176 (rowsV D) (.int .i64 (l:Int))).run prog w= .ok (.slice (D.G l,0) (pw l) (D.C l)) w:=by
 have :l=0\/l=1\/l=2\/l=3\/l=4\/l=5\/l=6\/l=7\/l=8:=E;rcases this with rfl | rfl | rfl | rfl | rfl | rfl | rfl | rfl | rfl<;>rfl
theorem Ir{B:Nat}{X:Nat->Prop}{w:World}{p:Nat}{D:WD}{O:Nat->Nat->Option ST}{L:List Nat}{a7:Int}(h:WaveE B X w p D O L.length a7 bF)(hO:lC O L)(hL:Syms L)(hn:L.length<=1000000000){H:Nat}(hH:HiO O H)(b1:H<=1000000000)(k:Int)(s:Nat)(hs:s<257):Calls prog 175 #[.pointer p,k,s] w λe d=> e= .returned (bB L k.toNat s:Int)/\∃a:Int,0<=a/\a<=9*(H+1)/\WaveE B X d p D O L.length a bF/\Chg (exT B X) w d:=by
 obtain⟨f,y⟩:∃f:Nat,f=min k.toNat L.length:=⟨_,rfl⟩;have M:f<=L.length:=E;have P:bB L k.toNat s=bO L 9 (pth s 9) f:=by
  rw[qF,Gp];unfold bB;by_cases hc:k.toNat<=L.length
  ·rw[y,aW0 hc]
  ·rw[y,Nat.min_eq_right E,aT9 E,aT9 (aV3 _)]
 rw[P];have a5:max k 0<=(L.length:Int)->max k 0=(f:Int):=λh=>E;have a6:¬max k 0<=(L.length:Int)->(L.length:Int)=(f:Int):=λh=>E;have N:min (max k 0) (L.length:Int)=(f:Int):=E;obtain⟨b,c9,a3,fz,hp⟩:=h.cells;have a8:=fz 10;have HW:=θ h;have t:=θ (h.setVis 0);have x0:=b 0 E;have x1:=b 1 E;have x2:=b 2 E;have x3:=b 3 E;have x4:=b 4 E;have x5:=b 5 E;have x6:=b 6 E;have x7:=b 7 E;have x8:=b 8 E;have K:eA (s:Int)=true:=dD E E;have Y:Hid (∀w,Calls prog 122 #[s] w λe d=>e= .returned (.bool true)/\w=d):=λw=>by rw[<-K];exact cM s w
 have HO:=θ hO;have W:=θ hH;have Z:=θ hL;have b0:=θ M;have a9:=θ hn;clear h b fz P K hO hH hL y a5 a6 hn;go_in;go_wp2_with fail;refine Cq (Y.o _) ?_;go_wp2;clear N x0 x1 x2 x3 x4 x5 x6 x7 x8 c9 a3 a8;go_loopw [1,28] (λv x wr=>∃l:Nat,l<=9/\x= .int .i64 l/\v= .int .i64 (bO L l (pth s l) f:Nat)/\∃a:Int,0<=a/\a<=l*(H+1)/\WaveE B X wr p D O L.length a bF/\Chg (exT B X) w wr) (λ_ x _=>9-(intOf x).toNat);exact⟨0,E,rfl,by rw[iB E,mY Z.o.lt f M],0,E,Es,t.o.1,t.o.2⟩;as_aux_lemma=>
  clear t HW;obtain⟨l,hl,rfl,rfl,a,z,m,hE,hC⟩:=hrel;have U:=θ hE;have HC:=θ hC;clear hE hC;by_cases c:l<9
  ·have b2:∀w:World,(Instr.index 176 (.agg #[D.row 0,D.row 1,D.row 2,D.row 3,D.row 4,D.row 5,D.row 6,D.row 7,D.row 8]) (.int .i64 (l:Int))).run prog w= .ok (.slice (D.G l,0) (pw l) (D.C l)) w:=sL D c;have i:=sR hs c;obtain⟨r0,r1,r2⟩:=U.o.shelf c i;have a1:Hid (∀(d:World) (v:Int),WaveE B X d p D O L.length v bF->d.cell? (D.G l,pth s l*3)=some (.pointer (D.Q l (pth s l),0))/\d.cell? (D.G l,pth s l*3+1)=l/\d.cell? (D.G l,pth s l*3+2)=some (.int .i64 (pth s l:Nat))):=λd v h=>h.shelf c i;have a0:=θ (λw=>tV hs hl w);have S:=θ (λw=>yL hs c w);have a4:=W.o l (pth s l) c i;have R:a<=9*((H:Int)+1):=by
    have h1:(l:Int)*((H:Int)+1)<=9*((H:Int)+1):=aK1 E E;omega
   have r:=θ (λ(d:World) (h:WaveE B X d p D O L.length a bF)=>Ex h c i ⟨z,E⟩ E (bO L l (pth s l) f:Nat) (dN s l));have F:Hid (aM (aF (O l (pth s l))) (((bO L l (pth s l) f:Nat):Int)).toNat (dN s l)=bO L (l+1) (pth s (l+1)) f):=by
    show _=_;rw[HO.o l _ c i,aK5,lU L c,iY c]
   have I:Hid (∀v:Nat,v<=aP (O l (pth s l))+1->0<=a+(v:Int)/\a+(v:Int)<=((l+1:Nat):Int)*((H:Int)+1)):=λv hv=>by
    have e:((l+1:Nat):Int)*((H:Int)+1)=(l:Int)*((H:Int)+1)+((H:Int)+1):=by push_cast;rw[Int.add_mul];omega
    rw[e];constructor<;>omega
   rw[F.o]at r;clear a4 R F z m;generalize pth s l=A at *;generalize dN s l=bt at *;have i0:(0:Int)<=(A:Int):=E;have i1:(A:Int)<((pw l:Nat):Int):=E;unfold cI at r;generalize D.Q l A=q at *;generalize D.G l=g at *;generalize D.C l=gc at *;go_wp2_with fail;refine aG (λd=>d.cell? (g,A*3)=some (.pointer q)/\d.cell? (g,A*3+1)=l/\d.cell? (g,A*3+2)=A) Ek ?hirk (λn=>?_);case hirk=>(refine⟨?_,?_,?_⟩<;>go_simp)
   refine rV 0 1 2 3 n ?_;refine rU 7 8 n ?_;refine rt 9 n ?_;refine rc 4 (λw _=>a0.o w) n ?_;refine rU 5 6 n ?_;refine rc 10 (λw _=>S.o w) n ?_;refine rg 11 λκ hK=>?_;go_simp
   ((refine(r.o _ (U.o.drewN 1)).mono ?_))
   rintro e w2 ⟨rfl,v1,m,u,J⟩;have V:=θ u;have T:=θ J;have a2:=θ (a1.o _ _ u);clear u J;refine hK.out _ _ (a2.o) ?_;intro n;try simp only[pt]
   refine rt 12 n ?_;refine rz ?_;clear n;go_wp2;go_roundw;exact⟨l+1,E,by go_num,rfl,_,(I.o v1 m).1,(I.o v1 m).2,V.o,(HC.o.drewN 1).trans T.o (λj hj=>Ei hj)⟩;simp[intOf];omega
  ·obtain rfl:l=9:=E;go_wp2;go_ret;exact⟨rfl,a,z,by simpa using m,U.o,HC.o⟩
theorem wNext(D:WD){l k:Nat}(d:k<256)(b:Bool)(w:World):Calls prog 160 #[cI D l k, .bool b] w λe c=>e= .returned (.int .i64 (2*k+rX b:Nat))/\Below w w c:=by
 have a:=θ (aB w (.cells #[.pointer (D.Q l k,0),l,k] 181));unfold cI;generalize D.Q l k=q at *;cases b
 ·go_in;go_wp2;go_ret;exact⟨bA (by simp[rX]),a.out⟩
 ·go_in;go_wp2;go_ret;exact⟨bA (by simp[rX]),a.out⟩
theorem wGet1{B:Nat}{Z:Nat->Prop}{w:World}{p n:Nat}{D:WD}{O:Nat->Nat->Option ST}{u:Int}(h:WaveE B Z w p D O n u bF){l k:Nat}(I:l<9)(v:k<pw l){C f:Nat}(P:Z C)(M:Z f){j:Nat}(g:j<(aF (O l k)).length){N:Value}(G:Box1 w C j 3)(H:Box1 w f N 4):Calls prog 157 #[cI D l k, .pointer C, .pointer f] w λe L=>e= .returned (.tuple #[])/\pQ B Z (λi=>i=f) w L p D O n u l k (aP (O l k)+1)/\Box1 L f (.bool (aX (aF (O l k)) j)) 4:=by
 have a:=aB w (.cells #[.pointer (D.Q l k,0),l,k] 181);obtain⟨W,F⟩:∃W,W=w.alloc (.cells #[.pointer (D.Q l k,0),l,k] 181):=⟨_,rfl⟩;rw[<-F]at a;have R:=(G.below a).cell;have b:=θ ((h.below a).tGet I v j g);have y:=θ (H.below a);have x:=θ a;have s:=θ M;clear h G H a P M I v g;unfold cI;obtain⟨r,K⟩:=Ey (aX (aF (O l k)) j);rw[K]at b⊢;clear K;obtain⟨q,J⟩:=Ey (D.Q l k);rw[J]at b F⊢;clear J;subst F;go_in;go_wp2_with fail;refine b.o.mono ?_;rintro e V ⟨rfl,t,d⟩;have c:=y.o.chg d (λv=>v.2 s.o);have m:=θ c;have T:=c.cell;have U:=c.frz;have A:=θ t;have z:=θ d;clear t d c b;go_wp2;go_end0;refine⟨rfl,⟨A.o.setBox s.o _,?_⟩,m.out.set _⟩;exact((Chg.of_below (S:=λj=>exT B Z j\/j=f) x.o).trans (z.o.mono (λj g=>Ei g)) (λj g=>Ei g)).setCell _ (Ei (Ej rfl)) _
def Box3(w:World)(b:Nat)(v0 v1 v2:Value)(T:TypeId):Prop:=w.heap[b]? =some (.cells #[v0,v1,v2] T (0,0))
theorem Box3.cells {w:World}{b:Nat}{a c d:Value}{T:TypeId}(h:Box3 w b a c d T):w.cell? b=some a/\w.cell? (b,1)=some c/\w.cell? (b,2)=some d:=
 ⟨by rw[bb8 w b 0 _ _ _ h];rfl,by rw[bb8 w b 1 _ _ _ h];rfl,by rw[bb8 w b 2 _ _ _ h];rfl⟩
theorem Box3.chg {w w':World}{b:Nat}{a c d:Value}{T:TypeId}{S:Nat->Prop}(h:Box3 w b a c d T)(e:Chg S w w')(f:¬S b):Box3 w' b a c d T:=e.heap h f
theorem Box3.lt {w:World}{b:Nat}{a c d:Value}{T:TypeId}(h:Box3 w b a c d T):b<w:=(aJ2.1 h).1
theorem keepB{w a:World}{b d:Nat}{f g i j:Value}(h:(w.cell? b=some f/\w.cell? (b,1)=some g/\w.cell? (b,2)=some i)/\w.cell? d=some j)(c:Below w w a):(a.cell? b=some f/\a.cell? (b,1)=some g/\a.cell? (b,2)=some i)/\a.cell? d=some j:=by
 have e:=ba8 w _ h.1.1;have k:=ba8 w _ h.2;exact⟨⟨(c.cell (p:=(b,0)) e).trans h.1.1,(c.cell (p:=(b,1)) e).trans h.1.2.1,(c.cell (p:=(b,2)) e).trans h.1.2.2⟩,(c.cell (p:=(d,0)) k).trans h.2⟩
theorem keepSt{w:World}{b a c:Nat}{g i k l u:Value}(h:(w.cell? b=some g/\w.cell? (b,1)=some i/\w.cell? (b,2)=some k)/\w.cell? a=some l)(e:b≠c)(f:a≠c):((w.setCell c u).cell? b=some g/\(w.setCell c u).cell? (b,1)=some i/\(w.setCell c u).cell? (b,2)=some k)/\(w.setCell c u).cell? a=some l:=by
 have d:Chg (λj=>j=c) w (w.setCell c u):=Chg.refl.setCell (S:=λj=>j=c) (c,0) (Ei rfl) u;exact⟨⟨d.cell (p:=(b,0)) h.1.1 e,d.cell (p:=(b,1)) h.1.2.1 e,d.cell (p:=(b,2)) h.1.2.2 e⟩,d.cell (p:=(a,0)) h.2 f⟩
theorem Oo{B:Nat}{X:Nat->Prop}{w:World}{p:Nat}{D:WD}{O:Nat->Nat->Option ST}{L:List Nat}{e0:Int}(h:WaveE B X w p D O L.length e0 bF)(hO:lC O L)(hL:Syms L)(hn:L.length<=1000000000){H:Nat}(hH:HiO O H)(g8:H<=1000000000)(k s:Nat)(n:L[k]? =some s):Calls prog 102 #[.pointer (some ⟨p,0,none⟩), .int .i64 k] w λe b=> e= .returned (.tuple #[.int .i64 s, .int .i64 0])/\∃a:Int,0<=a/\a<=18*(H+1)/\WaveE B X b p D O L.length a bF/\Chg (exT B X) w b:=by
 have h0:=(aO2.1 n).1;have hs:s<257:=hL s (aR5 n);have I:=aB w (.cells #[.int .i64 k] 3);obtain⟨W,hW⟩:∃W,W=w.alloc (.cells #[.int .i64 k] 3):=⟨_,rfl⟩;have a2:Box1 W w.heap.size (.int .i64 k) 3:=by rw[hW];exact Box1.new w _ _
 rw[<-hW]at I;have b3:WaveE B (λi=>X i\/i=w.heap.size) W p D O L.length e0 bF:=h.less I (λi t=>t.elim Ei (λe=>Ej E)) (λi t=>t.elim (λg=>aV7 (h.x i g) I.size) (λe=>by subst e;exact a2.lt));have y:p≠w.heap.size:=by have :=h.cells.2.2.2.2;omega
 have HX:=θ h.x;have f8:=θ h.le;obtain⟨f,c9,e9,fz,hp⟩:=b3.cells;have f5:=fz 10;have kc:=a2.cell;have b1:=θ (b3.setVis 0);have c1:Hid (∀v,Box1 (W.setCell ⟨p,10,none⟩ v) w.heap.size (.int .i64 k) 3):=λv=>a2.chg (S:=λj=>j=p) (Chg.refl.setCell (S:=λj=>j=p) ⟨p,10,none⟩ (Ei rfl) _) (λe=>y e.symm);have b8:=θ I;have x0:=f 0 E;have x1:=f 1 E;have x2:=f 2 E;have x3:=f 3 E;have x4:=f 4 E;have x5:=f 5 E;have x6:=f 6 E;have x7:=f 7 E;have x8:=f 8 E;have HO:=θ hO;have e4:=θ hH;have e6:=θ hL;have HK:=θ n;have f6:=θ hn;have d0:decide ((k:Int)<0)=false:=bc0 E;have d1:decide (L.length<=k)=false:=bc0 E;have d2:decide ((L.length:Int)<=(k:Int))=false:=bc0 E;have g0:=θ y;clear h f fz hO hH hL hn b3 I a2 n;subst hW;go_enter func102,ntmps102;go_wp2_with fail;go_quiet (fail);go_wp2_with fail;have U:Hid (WaveE B (λi=>X i\/i=w.heap.size) (((w.alloc (.cells #[.int .i64 k] 3)).setCell ⟨p,10,none⟩ (.int .i64 0)).drewN nq) p D O L.length 0 bF/\Box1 (((w.alloc (.cells #[.int .i64 k] 3)).setCell ⟨p,10,none⟩ (.int .i64 0)).drewN nq) w.heap.size (.int .i64 k) 3/\Chg (exT B X) w (((w.alloc (.cells #[.int .i64 k] 3)).setCell ⟨p,10,none⟩ (.int .i64 0)).drewN nq)):=
  ⟨b1.o.1.drewN nq,c1.o _,((Chg.of_below (S:=exT B X) b8.o).trans (b1.o.2.mono (λj K=>cJ (λi t=>Ei t) K)) (λj K=>Ei K)).drewN nq⟩
 generalize ((w.alloc (.cells #[.int .i64 k] 3)).setCell ⟨p,10,none⟩ (.int .i64 0)).drewN nq=ws at *;clear b1 c1 b8 x0 x1 x2 x3 x4 x5 x6 x7 x8 c9 e9 f5 kc d0 d1 d2 hp y;go_loopw [6,30] (λv x wr=>∃l:Nat,l<=9/\x= .int .i64 l/\v= .int .i64 (pth s l:Nat)/\∃a:Int,0<=a/\a<=l*(2*(H+1))/\WaveE B (λi=>X i\/i=w.heap.size) wr p D O L.length a bF/\Box1 wr w.heap.size (.int .i64 (bO L l (pth s l) k:Nat)) 3/\Chg (exT B X) w wr) (λ_ x _=>9-(intOf x).toNat);case atStart=>exact⟨0,E,rfl,by rw[iB E];rfl,0,E,Es,U.o.1,by rw[iB E,mY e6.o.lt k E];exact U.o.2.1,U.o.2.2⟩
 case round=>as_aux_lemma=>
  clear U;obtain⟨l,hl,rfl,rfl,a,b7,P,hE,z,hC⟩:=hrel;by_cases c:l<9
  ·have g9:∀w:World,(Instr.index 176 (.agg #[D.row 0,D.row 1,D.row 2,D.row 3,D.row 4,D.row 5,D.row 6,D.row 7,D.row 8]) (.int .i64 (l:Int))).run prog w= .ok (.slice (some ⟨D.G l,0,none⟩) (pw l) (D.C l)) w:=sL D c;have r:=sR hs c;have f3:=yW c;obtain⟨r0,r1,r2⟩:=hE.shelf c r;obtain⟨g1,g2⟩:=Cz HK.o l;have d4:=e4.o l (pth s l) c r;have d8:a<=9*(2*((H:Int)+1)):=by
    have h1:(l:Int)*(2*((H:Int)+1))<=9*(2*((H:Int)+1)):=aK1 E E;omega
   obtain⟨d,a6⟩:∃d,pth s l=d:=⟨_,rfl⟩;obtain⟨A,a1⟩:∃A,dN s l=A:=⟨_,rfl⟩;obtain⟨ct,b5⟩:∃ct,bO L l (pth s l) k=ct:=⟨_,rfl⟩;have T:=HO.o l (pth s l) c r;have b6:aM (aF (O l d)) ct A=bO L (l+1) (pth s (l+1)) k:=by
    rw[<-a6,<-a1,<-b5,T,lU L c,iY c]
   have y:2*d+rX A=pth s (l+1):=by rw[<-a6,<-a1,iY c]
   rw[b5]at z g1 g2;rw[a6]at r r0 r1 r2 g1 g2 d4 T⊢;rw[a1]at g2;rw[<-T]at g1 g2;obtain⟨wa,a4⟩:∃wa,wa=wr.alloc (.cells #[.pointer (some ⟨D.Q l d,0,none⟩), .int .i64 l, .int .i64 d] 181):=⟨_,rfl⟩;obtain⟨wb,a5⟩:∃wb,wb=wa.alloc (.cells #[.bool false] 4):=⟨_,rfl⟩;have sa:wa.heap.size=wr.heap.size+1:=by rw[a4];simp
   have ba:Below wr.heap.size wr wa:=by rw[a4];exact aB wr _
   have bb:Below wa.heap.size wa wb:=by rw[a5];exact aB wa _
   have m:Below wr.heap.size wr wb:=ba.trans (bb.mono ba.size);have c6:Box3 wb wr.heap.size (.pointer (some ⟨D.Q l d,0,none⟩)) (.int .i64 l) (.int .i64 d) 181:=(Chg.of_below (S:=λ_=>False) bb).heap (by rw[a4];exact bc6 wr _) id;have F:Box1 wb (wr.heap.size+1) (.bool false) 4:=by rw[a5,<-sa];exact Box1.new wa _ _
   have d7:=z.lt;have d5:WaveE B (λi=>(X i\/i=w.heap.size)\/(i=wr.heap.size\/i=wr.heap.size+1)) wb p D O L.length a bF:=hE.less m (λi t=>t.elim Ei (λg=>Ej E)) (λi t=>t.elim (λg=>aV7 (hE.x i g) m.size) (λg=>by have :=F.lt;omega));have u:=θ (Ev d5 c r ⟨b7,E⟩ (M:=aP (O l d)+1) E (Y:=λi=>i=wr.heap.size+1) (λi e=>Ej (Ej e)) O 157 #[.pointer (some ⟨w.heap.size,0,none⟩), .pointer (some ⟨wr.heap.size+1,0,none⟩)]
    (enters_of func157 Ek rfl) (λb=>Box1 b (wr.heap.size+1) (.bool A) 4) (λw1 w2 hb hc=>hb.chg hc (λe=>by have :=hE.cells.2.2.2.2;omega))
    (λw0 Z d6 hb f1=>by
     have :=wGet1 f1 c r (d6 _ (Ei (Ej rfl))) (d6 _ (Ej (Ej rfl))) g1 ((z.below m).below hb) (F.below hb)
     rw[g2]at this;exact this))
   have c0:Hid (Below wr.heap.size wr wb):=m;have b9:=θ c6;have a8:=θ (z.below m);have R:=θ d7;have h3:=hE.le;have HC:=θ hC;have f9:=θ b6;have f7:=θ y;have c5:Hid (∀v1 v2:Nat,v1<=aP (O l d)+1->v2<=aP (O l d)+1->0<=a+(v1:Int)+(v2:Int)/\a+(v1:Int)+(v2:Int)<=((l+1:Nat):Int)*(2*((H:Int)+1))):=λv1 v2 h1 h2=>by
    have e:((l+1:Nat):Int)*(2*((H:Int)+1))=(l:Int)*(2*((H:Int)+1))+2*((H:Int)+1):=by push_cast;rw[Int.add_mul];omega
    rw[e];constructor<;>omega
   have c3:Hid (∀(b:World) (v:Nat),v<=aP (O l d)+1->WaveE B (λi=>(X i\/i=w.heap.size)\/(i=wr.heap.size\/i=wr.heap.size+1)) b p D O L.length (a+v) bF->Calls prog 159 #[.pointer (some ⟨p,0,none⟩),cI D l d, .int .i64 ct, .bool A] b λe a7=>
     e= .returned (.int .i64 (bO L (l+1) (pth s (l+1)) k:Nat))/\∃v':Nat,v'<=aP (O l d)+1/\WaveE B (λi=>(X i\/i=w.heap.size)\/(i=wr.heap.size\/i=wr.heap.size+1)) a7 p D O L.length (a+v+v') bF/\Chg (exT B (λi=>(X i\/i=w.heap.size)\/(i=wr.heap.size\/i=wr.heap.size+1))) b a7):=λb v hv h=>by
    have :=Ex h c r ⟨E,E⟩ E (ct:Int) A;rw[aK5,b6]at this;exact this
   have a9:Hid (∀b,Calls prog 160 #[cI D l d, .bool A] b λe a7=>e= .returned (.int .i64 (pth s (l+1):Nat))/\Below b.heap.size b a7):=λb=>by
    have :=wNext D (l:=l) (k:=d) E A b;rw[y]at this;exact this
   have i0:(0:Int)<=(d:Int):=E;have i1:(d:Int)<((pw l:Nat):Int):=E;have g3:=θ r;clear hE z hC T g1 g2 d4 d8 b7 P b5 a6 a1 b6 y sa ba bb m c6 F d7 d5 r f3;unfold cI at u c3 a9;generalize D.Q l d=q at *;generalize D.G l=g at *;generalize D.C l=gc at *;subst a4;go_wp2_with fail;rw[<-a5];refine u.o.mono ?_;rintro e w2 ⟨rfl,v1,P,c8,V,b2⟩;have b4:Box3 w2 wr.heap.size (.pointer (some ⟨q,0,none⟩)) (.int .i64 l) (.int .i64 d) 181:=V.heap b9.o (λn=>n.elim (λn=>n.2 (Ej (Ei rfl))) (λe=>E));have N:=a8.o.chg V (λn=>n.elim (λn=>n.2 (Ei (Ej rfl))) (λe=>by have :=R.o;omega));obtain⟨g5,g6,g7⟩:=b4.cells;have g4:=b2.cell;have h4:=N.cell;have c4:Hid (∀b,Chg (exT B (λi=>(X i\/i=w.heap.size)\/(i=wr.heap.size\/i=wr.heap.size+1))) (w2.drewN 1) b->(b.cell? ⟨wr.heap.size,0,none⟩=some (.pointer (some ⟨q,0,none⟩))/\b.cell? ⟨wr.heap.size,1,none⟩=some (.int .i64 l)/\b.cell? ⟨wr.heap.size,2,none⟩=some (.int .i64 d))/\b.cell? ⟨wr.heap.size+1,0,none⟩=some (.bool A)):=λb hc=>by
    have h9:Box3 b wr.heap.size (.pointer (some ⟨q,0,none⟩)) (.int .i64 l) (.int .i64 d) 181:=hc.heap b4 (λn=>n.2 (Ej (Ei rfl)));have f0:Box1 b (wr.heap.size+1) (.bool A) 4:=Box1.chg (w:=w2.drewN 1) b2 hc (λn=>n.2 (Ej (Ej rfl)));exact⟨h9.cells,f0.cell⟩
   have e1:=θ c8;have c2:=θ N;have e7:Hid (Chg (exT B X) w w2):=(HC.o.trans (Chg.of_below (S:=exT B X) c0.o) (λj K=>Ei K)).trans V (λj K=>K.elim (λh=>Ei (cJ (λi t=>Ei (Ei t)) h)) (λe=>by right;have :=R.o;omega));clear c8 V b2 b4 N u b9 a8 c0 HC a5;go_wp2_with fail;refine aG (λb=>(b.cell? ⟨wr.heap.size,0,none⟩=some (.pointer (some ⟨q,0,none⟩))/\b.cell? ⟨wr.heap.size,1,none⟩=some (.int .i64 l)/\b.cell? ⟨wr.heap.size,2,none⟩=some (.int .i64 d))/\b.cell? ⟨wr.heap.size+1,0,none⟩=some (.bool A)) Ek (c4.o _ Chg.refl) (λJ=>?_);refine rV 0 1 3 5 J ?_;refine rt 6 J ?_;refine rg 2 λκ hK=>?_;go_simp;refine hK.out _ _ J ?_;intro J;try simp only[pt]
   refine rg 4 λκ hK=>?_;go_simp
   ((refine(c3.o _ v1 P (e1.o.drewN 1)).mono ?_))
   rintro e w3 ⟨rfl,v2,d9,d3,c7⟩;have e2:=θ d3;have b0:=θ c7;clear d3 c7;refine hK.out _ _ (c4.o _ b0.o) ?_;intro J;try simp only[pt]
   refine rg 7 λκ hK=>?_;go_simp
   ((refine(a9.o _).mono ?_))
   rintro e w4 ⟨rfl,a0⟩;have a3:=(Box1.chg (w:=w2.drewN 1) c2.o b0.o (λn=>n.2 (Ei (Ej rfl)))).below a0;have k4:=a3.cell;have f4:=a3.frz;have e5:=θ a3;have e3:=θ (e2.o.below a0);have e8:Hid (Chg (exT B X) w w4):=((e7.o.drewN 1).trans b0.o (λj K=>Ei (cJ (λi t=>Ei (Ei t)) K))).trans (Chg.of_below (S:=exT B X) a0) (λj K=>Ei K);clear a3;refine hK.out _ _ (keepB J a0) ?_;intro J;try simp only[pt]
   refine rg 8 λκ hK=>?_;go_simp;refine hK.out _ _ (keepSt J (by have :=R.o;omega) (by have :=R.o;omega)) ?_;intro J;try simp only[pt]
   refine rt 9 J ?_;refine rz ?_;clear J;go_wp2_with fail;go_roundw;case rel=>exact⟨l+1,E,by go_num,rfl,_,(c5.o v1 v2 P d9).1,(c5.o v1 v2 P d9).2,(e3.o.mono (λi t=>Ei t)).chg (Z:=λj=>j=w.heap.size) (Chg.refl.setCell (S:=λj=>j=w.heap.size) ⟨w.heap.size,0,none⟩ (Ei rfl) _) (λk n _ e=>n.2 (Ej e)),e5.o.set _,e8.o.setCell _ (Ej (aV3 _)) _⟩
   case measure=>simp[intOf];omega
  ·obtain rfl:l=9:=E;have f2:=qF s;have HC:=θ hC;have HE:=θ hE;clear hC hE z;go_wp2_with fail;go_ret2;exact⟨by rw[f2];rfl,a,b7,E,HE.o.mono (λi t=>Ei t),HC.o⟩
theorem ay7{B:Nat}{X:Nat->Prop}{w:World}{p n:Nat}{D:WD}{O:Nat->Nat->Option ST}{b:Int}{c:Nat->Nat->Int->Prop}(h:WaveE B X w p D O n b c):Calls prog 118 #[.pointer p] w λe g=>e= .returned n/\w=g:=by
 obtain⟨a,i,d,f,j⟩:=h.cells;clear h a f;go_in;go_wp2;go_ret;exact Er
def RowC(w:World)(g:Nat)(xs:List Value)(T:TypeId):Prop:=w.heap[g]? =some (.cells xs.toArray T (0,0))
theorem RowC.new (w:World)(a:List Value)(T:TypeId):RowC (w.alloc (.cells a.toArray T)) w a T:=bc6 w _
theorem RowC.lt {w:World}{g:Nat}{a:List Value}{T:TypeId}(h:RowC w g a T):g<w:=(aJ2.1 h).1
theorem RowC.chg {S:Nat->Prop}{w w':World}{g:Nat}{a:List Value}{T:TypeId}(h:RowC w g a T)(b:Chg S w w')(c:¬S g):RowC w' g a T:=b.heap h c
theorem RowC.set {w:World}{g:Nat}{a:List Value}{T:TypeId}(h:RowC w g a T)(j:Nat)(u:Value):RowC (w.setCell (g,j) u) g (a.set j u) T:=by
 have :=bc7 w g j _ _ u h;unfold RowC;rw[this,aT0]
theorem RowC.frz {w:World}{g:Nat}{a:List Value}{T:TypeId}(h:RowC w g a T)(j:Nat):w.frozen? (g,j)=false:=bc4 w g j _ _ h
theorem RowC.cell {w:World}{g:Nat}{a:List Value}{T:TypeId}(h:RowC w g a T){j:Nat}{v:Value}(b:a[j]? =some v):w.cell? (g,j)=some v:=by
 rw[bb8 w g j _ _ _ h,aO7,b]
def gB(L:List Nat)(k:Nat):List Value:=aI (λi=> .int .i64 (if i<k then ((L[i]?.getD 0:Nat):Int)else 0)) L.length
theorem Wx(L:List Nat):aI (λ_=>Value.int .i64 0) L.length=gB L 0:=by simp[gB]
theorem ag1(L:List Nat){k s:Nat}(h:L[k]? =some s):(gB L k).set k s=gB L (k+1):=by
 unfold gB;rw[vM];congr 1;funext i;by_cases e:i=k
 ·subst e;simp[h]
 ·by_cases b:i<k
  ·have a:i<k+1:=E;simp[e,b,a]
  ·have a:¬i<k+1:=E;simp[e,b,a]
theorem ag0(L:List Nat):gB L L.length=L.map (λs:Nat=>Value.int .i64 s):=by
 apply aM9;intro i;by_cases a:i<L.length
 ·rw[gB,dP a,aO3];simp[a]
 ·rw[aO1 (by rw[gB,cW];omega),aO1 (by rw[aP7];omega)]
theorem WaveE.setRow {B:Nat}{Z:Nat->Prop}{w:World}{p n:Nat}{D:WD}{O:Nat->Nat->Option ST}{a:Int}{c:Nat->Nat->Int->Prop}(h:WaveE B Z w p D O n a c){b:Nat}(d:Z b)(j:Nat)(u:Value):WaveE B Z (w.setCell (b,j) u) p D O n a c:=
 h.chg (Z:=λj=>j=b) (Chg.refl.setCell (S:=λj=>j=b) (b,j) (Ei rfl) u) (λk f _ e=>f.2 (by subst e;exact d))
theorem ay6{B:Nat}{X:Nat->Prop}{w:World}{p:Nat}{D:WD}{O:Nat->Nat->Option ST}{L:List Nat}{a:Int}(h:WaveE B X w p D O L.length a bF)(hO:lC O L)(hL:Syms L)(hn:L.length<=1000000000){H:Nat}(hH:HiO O H)(Y:H<=1000000000):Calls prog 143 #[.pointer p] w λe w'=> ∃g,e= .returned (.slice (some ⟨g,0,none⟩) L.length L.length)/\w.heap.size<=g/\RowC w' g (L.map (λs:Nat=>Value.int .i64 s)) 3/\WaveE B (λi=>X i\/i=g) w' p D O L.length a bF/\Chg (exT B X) w w':=by
 have c:=aB w (.cells (gB L 0).toArray 3);have t:=RowC.new w (gB L 0) 3;have A:WaveE B (λi=>X i\/i=w.heap.size) (w.alloc (.cells (gB L 0).toArray 3)) p D O L.length a bF:=h.less c (λi r=>r.elim Ei (λe=>Ej E)) (λi r=>r.elim (λg=>aV7 (h.x i g) c.size) (λe=>by subst e;exact t.lt));have F:∀w:World,_:=xE L.length hn;simp only[Wx]at F;obtain⟨q,c9,y,I,hp⟩:=h.cells;have b:Hid (WaveE B (λi=>X i\/i=w.heap.size) (w.alloc (.cells (gB L 0).toArray 3)) p D O L.length a bF/\RowC (w.alloc (.cells (gB L 0).toArray 3)) w (gB L 0) 3/\Chg (exT B X) w (w.alloc (.cells (gB L 0).toArray 3))):=⟨A,t,Chg.of_below (S:=exT B X) c⟩;have HO:=θ hO;have Q:=θ hH;have R:=θ hL;have f:=θ hn;have U:=θ hp;clear h q I hO hH hL hn A c t;go_in;go_wp2_with fail;generalize w.alloc (.cells (gB L 0).toArray 3)=ws at *;clear F c9 y hp;go_loopw [19] (λx wr=>∃k:Nat,k<=L.length/\x= .int .i64 k/\RowC wr w (gB L k) 3/\(∃l:Int,WaveE B (λi=>X i\/i=w.heap.size) wr p D O L.length l bF)/\Chg (exT B X) w wr) (λx _=>L.length-(intOf x).toNat);exact⟨0,aY1 _,rfl,b.o.2.1,⟨a,b.o.1⟩,b.o.2.2⟩;as_aux_lemma=>
  clear b;obtain⟨k,hk,rfl,K,⟨l,u⟩,J⟩:=hrel;have a4:=u.cells.2.2.2.2;have a3:=f.o;by_cases C:k<L.length
  ·have i0:(0:Int)<=(k:Int):=E;have i1:(k:Int)<(L.length:Int):=E;obtain⟨s,hs⟩:∃s,L[k]? =some s:=⟨_,aO0 C⟩;have HG:=θ (Oo u HO.o R.o f.o Q.o Y k s hs);have V:=θ K;have M:=θ J;have m:=θ C;have HK:=θ hs;clear u K J hs;go_wp2_with fail;refine HG.o.mono ?_;rintro e w2 ⟨rfl,v2,a0,a1,z,n⟩;have d:=V.o.chg n (λhk=>hk.2 (Ej rfl));have a2:=d.frz k;have a5:=d.cell (j:=k) (dP m.o);have P:=θ z;have W:=θ d;have N:Hid (Chg (exT B X) w w2):=M.o.trans n (λj Z=>Ei (cJ (λi r=>Ei r) Z));clear z d n a0 a1;go_wp2;go_roundw;exact⟨k+1,m.o,by go_num,by rw[<-ag1 L HK.o];exact W.o.set _ _,⟨v2,P.o.setRow (Ej rfl) _ _⟩,N.o.setCell _ (Ej (aV3 _)) _⟩;have :=m.o;simp[intOf];omega
  ·obtain rfl:k=L.length:=E;obtain⟨q,c9,y,I,hp⟩:=u.cells;have a6:=I 10;have v:=θ (u.setVis a);have V:=θ K;have M:=θ J;have G:p≠w.heap.size:=by have :=U.o;omega
   have T:=θ G;clear u K J q I G;go_wp2;go_ret;refine⟨_,rfl,aV3 _,?_,v.o.1,M.o.trans v.o.2 (λj Z=>Ei (cJ (λi r=>Ei r) Z))⟩;rw[<-ag0];exact V.o.chg (S:=λj=>j=p) (Chg.refl.setCell (S:=λj=>j=p) (p,10) (Ei rfl) _) (λe=>T.o e.symm)
def Fp(o:Option ST):Bool:=decide (0<(aF o).length)
def shL(O:Nat->Nat->Option ST)(l k:Nat):List (Option ST):=((List.range k).map (O l)).filter Fp
def gR(O:Nat->Nat->Option ST)(l:Nat):List (Option ST):=(List.range l).flatMap (λl=>shL O l (pw l))
def jA(o:Option ST):List Value:=match o with
 | none=>[.int .i64 0, .int .i64 0, .int .i64 0, .int .i64 0]
 | some t=>[.int .i64 t.bits.length, .int .i64 t.high, .int .i64 t.leaves, .int .i64 t.size]
theorem Nl(o:Option ST):xV o= .agg (jA o).toArray:=by cases o<;>rfl
theorem vB(o:Option ST):(jA o).length=4:=by cases o<;>rfl
theorem av5(O:Nat->Nat->Option ST)(l:Nat):shL O l 0=[]:=rfl
theorem av0(O:Nat->Nat->Option ST)(l k:Nat):shL O l (k+1)=shL O l k++if Fp (O l k)then [O l k]else []:=by
 unfold shL;rw[aS9,aQ2,aN0];congr 1;simp[aN1]
theorem xU(O:Nat->Nat->Option ST)(l:Nat):gR O (l+1)=gR O l++shL O l (pw l):=by
 unfold gR;rw[aS9,aN2];simp
theorem ae8(O:Nat->Nat->Option ST)(l k:Nat):(shL O l k).length<=k:=by
 unfold shL;exact aV4 (aP6 _ _) Es
theorem aG1(O:Nat->Nat->Option ST)(l:Nat)(h:l<=9):(gR O l).length<=l*256:=by
 induction l with
 | zero=>simp[gR]
 | succ l a=>
  rw[xU,aP3];have b:=a E;have c:=ae8 O l (pw l);have d:pw l<=256:=yW E;omega
theorem Tryz.infoShape:(prog.info? 85).map (λi=>(i.zero,i.size,i.bytes))=some (some (.agg #[.int .i64 0, .int .i64 0, .int .i64 0, .int .i64 0]),4,32):=Ek
theorem fE{w d:World}{a:Nat}{e:TypeId}{b:Nat}{v:Value}{n:Nat}{f:List Value}(h:w.ownsRow a e b v n f)(c:Below w w d):d.ownsRow a e b v n f:=
 h.kept (row:=none) ⟨c.os,c.tape,c.output,c.size,λk g _=>c.block k g⟩ (by cases i:v.ownBlock<;>simp)
theorem af0(o:Option ST):∃a b c d:Nat,jA o=[.int .i64 a, .int .i64 b, .int .i64 c, .int .i64 d]:=by
 cases o with
 | none=>exact⟨0,0,0,0,rfl⟩
 | some t=>exact⟨_,_,_,_,rfl⟩
def ShRow(w:World)(base:Nat)(v:Value)(ys:List (Option ST)):Prop:=w.ownsRow base 85 4 v ys.length (ys.flatMap jA)
theorem zU{B:Nat}{X:Nat->Prop}{w:World}{p n:Nat}{D:WD}{O:Nat->Nat->Option ST}{d1:Int}{Vb:Nat->Nat->Int->Prop}(h:WaveE B X w p D O n d1 Vb):Calls prog 86 #[.pointer p] w λe Z=>∃v,e= .returned v/\ShRow Z w v (gR O 9)/\Below w w Z:=by
 obtain⟨c,c9,c5,fz,hp⟩:=h.cells;have x0:=c 0 E;have x1:=c 1 E;have x2:=c 2 E;have x3:=c 3 E;have x4:=c 4 E;have x5:=c 5 E;have x6:=c 6 E;have x7:=c 7 E;have x8:=c 8 E;have HW:=θ h;clear h c fz;go_in;go_wp2;clear x0 x1 x2 x3 x4 x5 x6 x7 x8 c9 c5;go_loopw [3,14] (λv x wr=>∃l:Nat,l<=9/\x= .int .i64 l/\ShRow wr w v (gR O l)/\Below w w wr) (λ_ x _=>9-(intOf x).toNat);exact⟨0,E,rfl,bb2 _ _ _ _,aJ6 _ _⟩;as_aux_lemma=>
  obtain⟨l,hl,rfl,U,H⟩:=hrel;by_cases s:l<9
  ·have b2:∀w:World,(Instr.index 176 (.agg #[D.row 0,D.row 1,D.row 2,D.row 3,D.row 4,D.row 5,D.row 6,D.row 7,D.row 8]) (.int .i64 (l:Int))).run prog w= .ok (.slice (D.G l,0) (pw l) (D.C l)) w:=sL D s;have d2:=yW s;have b7:=θ b2;have d9:decide ((l:Int)<9)=true:=bc2 E;go_wp2;clear b2 d9;go_loopw [3,19] (λv x wr=>∃k:Nat,k<=pw l/\x= .int .i64 k/\ShRow wr w v (gR O l++shL O l k)/\Below w w wr) (λ_ x _=>pw l-(intOf x).toNat);exact⟨0,E,rfl,by rw[av5,aL2];exact U,H⟩;as_aux_lemma=>
    clear U H;obtain⟨k,hk,rfl,U,H⟩:=hrel;by_cases I:k<pw l
    ·obtain⟨r0,r1,r2⟩:=(HW.o.below H).shelf s I;have b9:=θ H.size;have N:=θ (λ(Z:World) (S:Below w w Z)=>(HW.o.below S).tLen s I);have F:=θ (λ(Z:World) (S:Below w w Z)=>(HW.o.below S).tShape s I);have HR:=θ U;have HB:=θ H;have A:=θ I;have i0:(0:Int)<=(k:Int):=E;have i1:(k:Int)<((pw l:Nat):Int):=E;clear U H;obtain⟨q,hq⟩:=Ey (D.Q l k);obtain⟨g,hg⟩:=Ey (D.G l);rw[hq]at N F r0;rw[hg]at r0 r1 r2⊢;clear hq hg;generalize D.C l=gc at *;clear b7;go_wp2_with fail;have b0:=aB wr (.cells #[.pointer q,l,k] 181);have b5:Box3 (wr.alloc (.cells #[.pointer q,l,k] 181)) wr (.pointer q) (.int .i64 l) (.int .i64 k) 181:=bc6 wr _;have a6:Hid (ShRow (wr.alloc (.cells #[.pointer q,l,k] 181)) w u3 (gR O l++shL O l k)):=θ (bb1 HR.o _);have L:Hid (Below w w (wr.alloc (.cells #[.pointer q,l,k] 181))):=θ (HB.o.trans (b0.mono b9.o));clear HR HB b0 r0 r1 r2;generalize wr.alloc (.cells #[.pointer q,l,k] 181)=wa at *;refine(N.o _ L.o).mono ?_;rintro e w1 ⟨rfl,m,rfl⟩;obtain⟨R,c0,c4⟩:=b5.cells;have R:(wa.drewN m).cell? wr=some (.pointer q):=R;have i:Hid (Below w w (wa.drewN m)):=θ (aW L.o m);have P:Hid (ShRow (wa.drewN m) w u3 (gR O l++shL O l k)):=a6;clear L a6 b5 c0 c4 N;generalize wa.drewN m=w1 at *;have b:=av0 O l k;obtain⟨z,hz⟩:=Ey ((aF (O l k)).length);have d:Fp (O l k)=decide (0<z):=by rw[<-hz];rfl
     rw[hz];by_cases c8:0<z
     ·have d:Fp (O l k)=true:=d.trans (bc2 c8);rw[d,bd0 rfl]at b;have d0:decide ((0:Int)<(z:Int))=true:=bc2 E;have r:=θ b;have y:=θ (F.o _ i.o);obtain⟨o,ho⟩:=Ey (O l k);rw[ho]at y r;obtain⟨a0,a1,a2,a3,V⟩:=af0 o;rw[Nl,V]at y;have a7:=θ V;have a4:Hid ((gR O l++shL O l k).length<=100000):=θ (by
       have h1:=aG1 O l hl
       have h2:=ae8 O l k
       rw[aP3];omega)
      clear d hz b F ho V;go_wp2_with fail;refine y.o.mono ?_;rintro e Y ⟨rfl,T⟩;have M:Hid (Below w w Y):=θ (i.o.trans (T.mono i.o.size));have f:ShRow Y w u3 (gR O l++shL O l k):=fE P.o T;have c7:=M.o.size;have b3:=a4.o;obtain⟨ys,W⟩:=Ey (gR O l++shL O l k);rw[W]at f b3;have a9:Hid (gR O l++shL O l (k+1)=ys++[o]):=θ (by rw[r.o,<-aL1,W]);obtain⟨n1,J⟩:=Ey ys.length;obtain⟨d3,t⟩:=Ey (ys.flatMap jA);unfold ShRow at f;rw[t,J]at f;rw[J]at b3;have a5:=θ J;have a8:=θ t;clear i P y T R r W a4 J t HW;go_wp2_with (at_builtin;refine yI rfl _ _ 48 rfl w 85 Tryz.infoShape Tryz.underlying48 rfl Ed _ _ _ rfl (bb1 f _) Y 1 [.int .i64 a0, .int .i64 a1, .int .i64 a2, .int .i64 a3] rfl rfl ?hus ?h1 ?c1 ?c2 ?c3 ?_);case hus=>
       intro j u hj;rw[bb8 _ Y j _ _ _ (bc6 Y _)];simpa using hj
      case h1=>intro u hu;simp at hu;rcases hu with rfl | rfl | rfl | rfl<;>rfl
      case c1=>unfold maxLen;omega
      case c2=>omega
      case c3=>simp;omega
      intro gg cp w4 K a c6 b4;have b8:Hid (ShRow w4 w (.slice gg (n1+1) cp) (gR O l++shL O l (k+1))):=θ (by
       rw[a9.o]
       unfold ShRow
       rw[aP3,aN2,a5.o,a8.o]
       simp only[aN3,List.flatMap_nil,aL2,a7.o]
       exact K)
      have b1:Y.grownBy w4 u3.ownBlock:=⟨a.os,a.tape,a.output,by have :=a.size;simp at this;omega,λj hj d=>by
       rw[a.block j (by simp;omega) d];exact aJ5 Y _ j hj⟩
      have b6:Hid (Below w w w4):=θ (M.o.grown b1 c7 (λj hj=>(f.lt j hj).1));clear K a c6 b4 b1 f M a9 a5 a8 a7;go_wp2;go_roundw;exact⟨k+1,by have :=A.o;omega,by go_num,b8.o,b6.o⟩;have :=A.o;simp[intOf];omega
     ·obtain rfl:z=0:=E;have d:Fp (O l k)=false:=d;rw[d,bc9 Ed,aL2]at b;have r:=θ b;clear d hz b F;go_wp2;go_roundw;exact⟨k+1,by have :=A.o;omega,by go_num,by rw[r.o];exact P.o,i.o⟩;have :=A.o;simp[intOf];omega
    ·obtain rfl:k=pw l:=E;go_wp2;go_roundw;exact⟨l+1,E,by go_num,by rw[xU];exact U,H⟩;simp[intOf];omega
  ·obtain rfl:l=9:=E;go_wp2;go_ret;exact⟨_,rfl,U,H⟩
def kG(L:List Nat)(j:Int)(s:Nat):Int:=match (List.range L.length).find? λi=>decide (L[i]? =some s)&&decide ((bB L i s:Int)=j)with
 | some i=>(i:Int)
 | none=> -1
theorem pA{L:List Nat}{k:Nat}(s:Nat)(h:k<L.length):bB L (k+1) s=bB L k s+(if L[k]? =some s then 1 else 0):=by
 unfold bB;rw[aT5,aO0 h,aY8,aM1,List.count_singleton];congr 1;by_cases e:L[k]=s<;>simp[e]
theorem iD(L:List Nat){i j:Nat}(s:Nat)(h:i<=j):bB L i s<=bB L j s:=by
 unfold bB;exact List.Sublist.count_le _ (List.take_sublist_take_left h)
theorem oZ{L:List Nat}{k:Nat}(s:Nat)(h:L.length<=k):bB L k s=L.count s:=by unfold bB;rw[aT9 h]
theorem mI(L:List Nat)(k s:Nat):bB L k s<=k/\bB L k s<=L.count s:=by
 constructor
 ·unfold bB;have :=List.count_le_length (a:=s) (l:=L.take k);rw[aQ1]at this;omega
 ·rw[<-oZ (L:=L) (k:=max k L.length) s E];exact iD L s E
theorem Ni{L:List Nat}{k s:Nat}{j:Int}(b:L[k]? =some s)(d:(bB L k s:Int)=j):kG L j s=k:=by
 have a:=(aO2.1 b).1;unfold kG;have :(List.range L.length).find? (λi=>decide (L[i]? =some s)&&decide ((bB L i s:Int)=j))=some k:=by
  rw[List.find?_range_eq_some];refine⟨by simp[b,d],by simpa using a,λi g=>?_⟩;simp only[Bool.not_eq_true',Bool.and_eq_false_iff,bc1];by_cases e:L[i]? =some s
  ·right;have c:=pA s (L:=L) (k:=i) E;rw[bd0 e]at c;have f:=iD L (i:=i+1) (j:=k) s E;omega
  ·exact Ei e
 rw[this]
theorem Ic{L:List Nat}{j:Int}{s:Nat}(h:∀i,L[i]? =some s->(bB L i s:Int)≠j):kG L j s= -1:=by
 unfold kG;have :(List.range L.length).find? (λi=>decide (L[i]? =some s)&&decide ((bB L i s:Int)=j))=none:=by
  rw[List.find?_eq_none];intro i _;simp only[aJ7,bc3,not_and];exactλe=>h i e
 rw[this]
theorem at6{L:List Nat}{j:Int}{s:Nat}(h:j<0):kG L j s= -1:=Ic (λi _=>E)
theorem ae4{L:List Nat}{j:Int}{s:Nat}(h:(L.count s:Int)<=j):kG L j s= -1:=Ic (λi b=>by
 have a:=(aO2.1 b).1;have c:=pA s a;rw[bd0 b]at c;have d:=(mI L (i+1) s).2;omega)
theorem Fx:∀(n:Nat) (L:List Nat) (s j:Nat),n<=L.length->j<bB L n s->∃k,k<n/\L[k]? =some s/\bB L k s=j
 | 0,L,s,j,_,h=>by simp[bB]at h
 | n+1,L,s,j,hn,h=>by
  have d:=pA s (L:=L) (k:=n) E;by_cases e:L[n]? =some s
  ·rw[bd0 e]at d;by_cases f:j=bB L n s
   ·exact⟨n,E,e,f.symm⟩
   ·obtain⟨k,a,b,c⟩:=Fx n L s j E E;exact⟨k,E,b,c⟩
  ·rw[bc9 e]at d;obtain⟨k,a,b,c⟩:=Fx n L s j E E;exact⟨k,E,b,c⟩
theorem keepS3{w:World}{a b c d:Nat}{g i k u:Value}(h:w.cell? a=some g/\w.cell? b=some i/\w.cell? c=some k)(f:a≠d/\b≠d/\c≠d):(w.setCell d u).cell? a=some g/\(w.setCell d u).cell? b=some i/\(w.setCell d u).cell? c=some k:=by
 have e:Chg (λj=>j=d) w (w.setCell d u):=Chg.refl.setCell (S:=λj=>j=d) (d,0) (Ei rfl) u;exact⟨e.cell (p:=(a,0)) h.1 f.1,e.cell (p:=(b,0)) h.2.1 f.2.1,e.cell (p:=(c,0)) h.2.2 f.2.2⟩
theorem wSel1{B:Nat}{Z:Nat->Prop}{w:World}{p n:Nat}{D:WD}{O:Nat->Nat->Option ST}{G:Int}(h:WaveE B Z w p D O n G bF)(u:BitTab w)(hN:0<B){l k s:Nat}(hs:s<257)(hl:l<9)(f:k<pw l){d z A:Nat}(z1:Z d)(z2:Z z)(z3:Z A)(a0:z≠d)(a1:A≠d){j:Int}(R:Box1 w d j 3)(h2:Box1 w z s 3)(h3:Box1 w A l 3):Calls prog 177 #[cI D l k, .pointer d, .pointer z, .pointer A] w λe b=>e= .returned (.tuple #[])/\pQ B Z (λi=>i=d) w b p D O n G l k (aP (O l k)+1)/\Box1 b d (cT (aF (O l k)) j (dN s l):Int) 3:=by
 have a:=aB w (.cells #[.pointer (D.Q l k,0),l,k] 181);obtain⟨W,H⟩:∃W,W=w.alloc (.cells #[.pointer (D.Q l k,0),l,k] 181):=⟨_,rfl⟩;have t:Box3 W w (.pointer (D.Q l k,0)) (.int .i64 l) (.int .i64 k) 181:=by rw[H];exact bc6 w _
 rw[<-H]at a;have c1:=(R.below a).cell;have c2:=(h2.below a).cell;have c3:=(h3.below a).cell;have I:=θ (λw=>yL hs hl w);have L:WaveE B (λi=>Z i\/i=w.heap.size) W p D O n G bF:=h.less a (λi F=>F.elim Ei (λe=>Ej E)) (λi F=>F.elim (λg=>aV7 (h.x i g) a.size) (λe=>by subst e;exact t.lt));have c:=θ ((L.drewN 1).tSelect hl f (BitTab.below' u ⟨a.os,a.tape,a.output,a.size,a.block⟩) hN j (dN s l));have U:=θ (R.below a);have T:=θ a;have K:=θ z1;have P:=t.cells.1;have y:Hid (∀b,Chg (exT B (λi=>Z i\/i=w.heap.size)) (W.drewN 1) b->(b.cell? w=some (.pointer (D.Q l k,0))/\b.cell? z=s/\b.cell? A=l)):=λb hc=>
  ⟨(Box3.chg (w:=W.drewN 1) t hc (λf=>f.2 (Ej rfl))).cells.1,(Box1.chg (w:=W.drewN 1) (Box1.below (w':=W) h2 a) hc (λf=>f.2 (Ei z2))).cell,(Box1.chg (w:=W.drewN 1) (Box1.below (w':=W) h3 a) hc (λf=>f.2 (Ei z3))).cell⟩
 have Y:Hid (w.heap.size≠d/\z≠d/\A≠d):=⟨λe=>by have :=R.lt;omega,a0,a1⟩;clear h R h2 h3 a z1 z2 z3 hl f u t L;unfold cI;obtain⟨r,hr⟩:=Ey (cT (aF (O l k)) j (dN s l));rw[hr]at c⊢;clear hr;generalize dN s l=bt at *;obtain⟨q,hq⟩:=Ey (D.Q l k);rw[hq]at c H P y⊢;clear hq;have a2:=θ H;go_in;go_wp2_with fail;rw[<-H];clear H;refine aG (λb=>b.cell? w=some (.pointer q)/\b.cell? z=s/\b.cell? A=l) Ek (y.o _ Chg.refl) (λv=>?_);refine rV 0 1 3 4 v ?_;refine rc 5 (λw _=>I.o w) v ?_;refine rg 2 λκ N=>?_;go_simp;refine N.out _ _ v ?_;intro v;try simp only[pt]
 refine rg 6 λκ N=>?_;go_simp
 ((refine c.o.mono ?_))
 rintro e w2 ⟨rfl,M,C⟩;have m:=Box1.chg (w:=W.drewN 1) U.o C (λf=>f.2 (Ei K.o));have k1:=m.cell;have a3:=m.frz;have X:=θ m;have V:=θ M;have J:=θ C;clear m M C;refine N.out _ _ (y.o _ J.o) ?_;intro v;try simp only[pt]
 refine rg 7 λκ N=>?_;go_simp;refine N.out _ _ (keepS3 v Y.o) ?_;intro v;try simp only[pt]
 refine rz ?_;clear v;go_wp2;go_end0;refine⟨rfl,⟨(V.o.mono (λi F=>Ei F)).setBox K.o _,?_⟩,X.o.set _⟩;exact(((Chg.of_below (S:=λj=>exT B Z j\/j=d) T.o).drewN 1).trans (J.o.mono (λj hj=>Ei (cJ (λi F=>Ei F) hj))) (λj hj=>Ei hj)).setCell _ (Ei (Ej rfl)) _
def adOf:Value->Addr
 | .pointer (some a)=>a
 | _=>(0,0)
theorem Ri{B:Nat}{X:Nat->Prop}{w:World}{p:Nat}{D:WD}{O:Nat->Nat->Option ST}{L:List Nat}{b7:Int}(h:WaveE B X w p D O L.length b7 bF)(a8:BitTab w)(c7:0<B)(hO:lC O L)(hL:Syms L)(hn:L.length<=1000000000){H:Nat}(hH:HiO O H)(f2:H<=1000000000)(j:Int)(s:Nat)(hs:s<257):Calls prog 125 #[.pointer (some ⟨p,0,none⟩), .int .i64 j, .int .i64 s] w λe d=> e= .returned (.int .i64 (kG L j s))/\∃a:Int,WaveE B X d p D O L.length a bF/\Chg (exT B X) w d:=by
 obtain⟨wa,a1⟩:∃wa,wa=w.alloc (.cells #[.int .i64 j] 3):=⟨_,rfl⟩;obtain⟨wb,t⟩:∃wb,wb=wa.alloc (.cells #[.int .i64 s] 3):=⟨_,rfl⟩;have sa:wa.heap.size=w.heap.size+1:=by rw[a1];simp
 have ba:Below w.heap.size w wa:=by rw[a1];exact aB w _
 have bb:Below wa.heap.size wa wb:=by rw[t];exact aB wa _
 have N:Below w.heap.size w wb:=ba.trans (bb.mono ba.size);have bj:Box1 wb w.heap.size (.int .i64 j) 3:=(by rw[a1];exact Box1.new w _ _:Box1 wa w.heap.size (.int .i64 j) 3).below bb;have bs:Box1 wb (w.heap.size+1) (.int .i64 s) 3:=by rw[t,<-sa];exact Box1.new wa _ _
 have a5:WaveE B (λi=>X i\/(i=w.heap.size\/i=w.heap.size+1)) wb p D O L.length b7 bF:=h.less N (λi n=>n.elim Ei (λe=>Ej E)) (λi n=>n.elim (λg=>aV7 (h.x i g) N.size) (λe=>by have :=bs.lt;omega));obtain⟨f3,c9,a4,fz,hp⟩:=a5.cells;have cj:=bj.cell;have cs:=bs.cell;have c2:Hid (Calls prog 175 #[.pointer (some ⟨p,0,none⟩), .int .i64 L.length, .int .i64 s] (wb.drewN 1) λe d=>
   e= .returned (.int .i64 (L.count s:Nat))/\∃a:Int,0<=a/\a<=9*(H+1)/\WaveE B (λi=>X i\/(i=w.heap.size\/i=w.heap.size+1)) d p D O L.length a bF/\Chg (exT B (λi=>X i\/(i=w.heap.size\/i=w.heap.size+1))) (wb.drewN 1) d):=by
  have :=Ir (a5.drewN 1) hO hL hn hH f2 (L.length:Int) s hs;rw[aK5,oZ s (aV3 _)]at this;exact this
 have HX:=θ h.x;have d9:=θ h.le;have HO:=θ hO;have d7:=θ hH;have e0:=θ hL;have f6:=θ hn;have d4:=θ bj;have d5:=θ bs;have b0:=θ N;have c4:=θ a5;have e6:=θ a8;have e5:=θ h.cells.2.2.2.2;clear h f3 fz hO hH hL hn a5 N bj bs ba bb sa a8;by_cases P:j<0
 ·have d0:decide (j<0)=true:=bc2 P;have d3:=at6 (L:=L) (s:=s) P;have W:=θ d3.symm;clear d3;subst a1;rw[t]at c9 a4 cj cs hp;go_enter func125,ntmps125;go_wp2_with fail;go_quiet (fail);go_wp2_with fail;go_ret;rw[W.o];have hb:=b0.o;have hx:=c4.o;rw[t]at hb hx;exact⟨rfl,b7,(hx.mono (λi n=>Ei n)).drewN _,(Chg.of_below hb).drewN _⟩
 ·have d0:decide (j<0)=false:=bc0 P;subst a1;have f9:=θ t;rw[t]at c9 a4 cj cs hp;go_enter func125,ntmps125;go_wp2_with fail;rw[<-t]at c9 a4 cj cs hp⊢;clear t;refine aG (λd=>d.cell? ⟨w.heap.size,0,none⟩=some (.int .i64 j)/\d.cell? ⟨w.heap.size+1,0,none⟩=some (.int .i64 s)/\d.cell? ⟨p,9,none⟩=some (.int .i64 L.length)) Ek (⟨cj,cs,c9⟩) (λA=>?_);refine rV 0 1 2 3 A ?_;refine rV 4 5 6 7 A ?_;refine rV 8 9 10 11 A ?_;refine rU 12 13 A ?_;refine rg 14 λκ hK=>?_;go_simp
  ((refine c2.o.mono ?_))
  rintro e c ⟨rfl,v1,f5,g3,z,r⟩;have b4:=Box1.chg (w:=wb.drewN 1) d4.o r (λhk=>hk.2 (Ej (Ei rfl)));have I:=Box1.chg (w:=wb.drewN 1) d5.o r (λhk=>hk.2 (Ej (Ej rfl)));have a3:Hid (c.cell? ⟨w.heap.size,0,none⟩=some (.int .i64 j)/\c.cell? ⟨w.heap.size+1,0,none⟩=some (.int .i64 s)/\c.cell? ⟨p,9,none⟩=some (.int .i64 L.length)):=⟨b4.cell,I.cell,z.cells.2.1⟩;have u:=θ z;have a2:=θ b4;have T:=θ I;have V:Hid (Chg (exT B X) w c):=((Chg.of_below (S:=exT B X) b0.o).drewN 1).trans r (λj P=>Ei (cJ (λi n=>Ei n) P));clear b4 I z r;refine hK.out _ _ (a3.o) ?_;intro A;try simp only[pt]
  refine rU 15 16 A ?_;refine rz ?_;obtain⟨kj,ks,kp⟩:=A;clear c9 a4 cj cs;by_cases hm:(L.count s:Int)<=j
  ·have d1:decide ((L.count s:Int)<=j)=true:=bc2 hm;have W:Hid (-1=kG L j s):=(ae4 hm).symm;go_wp2_with fail;go_ret;rw[W.o];exact⟨rfl,v1,u.o.mono (λi n=>Ei n),V.o⟩
  ·have d1:decide ((L.count s:Int)<=j)=false:=bc0 hm;go_wp2_with fail;obtain⟨J,rfl⟩:=aK0 (E:0<=j);obtain⟨K,_,hK,b2⟩:=Fx L.length L s J (aV3 _) (by rw[oZ s (aV3 _)];omega);have W:Hid ((K:Int)=kG L J s):=(Ni hK (by rw[b2])).symm;have HK:=θ hK;have f0:decide (L.count s<=J)=false:=bc0 E;have c8:J=bO L 9 (pth s 9) K:=by rw[qF,Gp,b2]
   have d6:=θ c8;clear hm d0 P hK b2 c2 b0 c4 c8;have bl:=Box1.new c (.int .i64 8) 3;have f:=aB c (.cells #[.int .i64 8] 3);have y:Hid (WaveE B (λi=>(X i\/(i=w.heap.size\/i=w.heap.size+1))\/i=c.heap.size) (c.alloc (.cells #[.int .i64 8] 3)) p D O L.length v1 bF/\Box1 (c.alloc (.cells #[.int .i64 8] 3)) w.heap.size (.int .i64 (bO L 9 (pth s 9) K:Nat)) 3/\Box1 (c.alloc (.cells #[.int .i64 8] 3)) (w.heap.size+1) (.int .i64 s) 3/\Box1 (c.alloc (.cells #[.int .i64 8] 3)) c.heap.size (.int .i64 8) 3/\Chg (exT B X) w (c.alloc (.cells #[.int .i64 8] 3))/\w.heap.size+1<c.heap.size):=by
    refine⟨u.o.less f (λi n=>n.elim Ei (λe=>Ej E)) (λi n=>n.elim (λg=>aV7 (u.o.x i g) f.size) (λe=>by subst e;exact bl.lt)),?_,T.o.below f,bl,V.o.trans (Chg.of_below (S:=exT B X) f) (λj P=>Ei P),T.o.lt⟩;rw[<-d6.o];exact a2.o.below f
   clear bl f u a2 T V kj ks kp a3 d1 f0;generalize c.alloc (.cells #[.int .i64 8] 3)=wl at *;go_loopw [7] (λv wr=>∃(m R:Nat) (x:Int),m<=9/\v= .pointer (some ⟨R,0,none⟩)/\x=(m:Int)-1/\w.heap.size+1<R/\(∃a:Int,0<=a/\a<=18*(H+1)-m*(H+1)/\WaveE B (λi=>(X i\/(i=w.heap.size\/i=w.heap.size+1))\/i=R) wr p D O L.length a bF)/\Box1 wr w.heap.size (.int .i64 (bO L m (pth s m) K:Nat)) 3/\Box1 wr (w.heap.size+1) (.int .i64 s) 3/\Box1 wr R (.int .i64 x) 3/\Chg (exT B X) w wr) (λv wr=>(intOf ((wr.cell? (adOf v)).getD undef)+1).toNat);case atStart=>exact⟨9,c.heap.size,8,aV3 _,rfl,rfl,y.o.2.2.2.2.2,⟨v1,f5,E,y.o.1⟩,y.o.2.1,y.o.2.2.1,y.o.2.2.2.1,y.o.2.2.2.2.1⟩
   case round=>as_aux_lemma=>
    clear y;obtain⟨m,R,x,f4,rfl,hx,g0,⟨a,a6,a7,hE⟩,hJ,hS,hB,hC⟩:=hrel;obtain rfl | ⟨l,rfl⟩:m=0\/∃l,m=l+1:=by
     cases m with
     | zero=>exact Ei rfl
     | succ l=>exact Ej ⟨l,rfl⟩
    ·obtain rfl:x= -1:=E;have k0:=hJ.cell;have k1:=hB.cell;have HE:=θ hE;have HC:=θ hC;have d8:Hid ((bO L 0 (pth s 0) K:Nat)=K):=by
      show _=_;rw[iB E,mY e0.o.lt K (by have :=(aO2.1 HK.o).1;omega)]
     clear hE hC hJ hS hB a6 a7 hx f4;go_wp2_with fail;go_ret;rw[d8.o,W.o];exact⟨rfl,a,HE.o.mono (λi n=>Ei (Ei n)),HC.o⟩
    ·obtain rfl:x=(l:Int):=E;have k:l<9:=E;have F:=sR hs k;obtain⟨r0,r1,r2⟩:=hE.shelf k F;have rr:=hE.cells.1 l k;have c5:=d7.o l (pth s l) k F;have d2:cT (aF (O l (pth s l))) ((bO L (l+1) (pth s (l+1)) K:Nat):Int) (dN s l)=(bO L l (pth s l) K:Nat):=by
      rw[HO.o l _ k F];exact at7 HK.o k
     have a9:((l+1:Nat):Int)*((H:Int)+1)=(l:Int)*((H:Int)+1)+((H:Int)+1):=by push_cast;rw[Int.add_mul];omega
     have b5:0<=(l:Int)*((H:Int)+1):=Int.mul_nonneg E E;rw[a9]at a7;have f7:=hE.cells.2.2.2.2;have b1:Hid (∀d,d.heap=wr.heap->WaveE B (λi=>(X i\/(i=w.heap.size\/i=w.heap.size+1))\/i=R) d p D O L.length a bF->Box1 d w.heap.size (.int .i64 (bO L (l+1) (pth s (l+1)) K:Nat)) 3->Box1 d (w.heap.size+1) (.int .i64 s) 3->Box1 d R (.int .i64 (l:Int)) 3->BitTab d->
       Calls prog 156 #[.pointer (some ⟨p,0,none⟩),cI D l (pth s l), .func (.func 177) #[] #[.pointer (some ⟨w.heap.size,0,none⟩), .pointer (some ⟨w.heap.size+1,0,none⟩), .pointer (some ⟨R,0,none⟩)]] d λe b8=>
        e= .returned (.tuple #[])/\∃v:Nat,v<=aP (O l (pth s l))+1/\WaveE B (λi=>(X i\/(i=w.heap.size\/i=w.heap.size+1))\/i=R) b8 p D O L.length (a+v) bF/\Chg (λj=>exT B (λi=>(X i\/(i=w.heap.size\/i=w.heap.size+1))\/i=R) j\/j=w.heap.size) d b8/\Box1 b8 w.heap.size (.int .i64 (bO L l (pth s l) K:Nat)) 3):=λd _ h1 h2 h3 h4 h5=>by
      refine Ev h1 k F ⟨a6,E⟩ (M:=aP (O l (pth s l))+1) E (Y:=λi=>i=w.heap.size) (λi e=>Ei (Ej (Ei e))) _ _ _ (enters_of func177 Ek rfl) (λd=>Box1 d w.heap.size (.int .i64 (bO L l (pth s l) K:Nat)) 3) (λw1 c hb hc=>hb.chg hc (λe=>by have :=e5.o;omega)) (λw0 Z b3 hb f1=>?_);have :=wSel1 f1 (h5.below' hb) c7 hs k F (b3 _ (Ei (Ej (Ei rfl)))) (b3 _ (Ei (Ej (Ej rfl)))) (b3 _ (Ej rfl)) E E (h2.below hb) (h3.below hb) (h4.below hb);rw[d2]at this;exact this
     have c1:=θ (λw=>tV hs (E:l<=9) w);have kl:=hB.cell;have ks:=hS.cell;have c3:Hid (BitTab wr):=e6.o.below ((Chg.below hC (λb hb=>hb.1)) d9.o) c7;have HE:=θ hE;have HJ:=θ hJ;have HS:=θ hS;have HB:=θ hB;have HC:=θ hC;have e7:=θ a6;have e8:=θ a7;have c0:=θ c5;have e1:=θ k;have b9:Hid (∀(d:World) (v:Int) (X':Nat->Prop),WaveE B X' d p D O L.length v bF->(d.cell? ⟨p,l,none⟩=some (.slice (some ⟨D.G l,0,none⟩) (pw l) (D.C l))/\d.cell? ⟨D.G l,pth s l*3,none⟩=some (.pointer (some ⟨D.Q l (pth s l),0,none⟩))/\d.cell? ⟨D.G l,pth s l*3+1,none⟩=some (.int .i64 l)/\d.cell? ⟨D.G l,pth s l*3+2,none⟩=some (.int .i64 (pth s l:Nat)))):=λd v X' h=>⟨h.cells.1 l k,h.shelf k F⟩;have rr:wr.cell? ⟨p,l,none⟩=some (.slice (some ⟨D.G l,0,none⟩) (pw l) (D.C l)):=rr;have i0:(0:Int)<=(l:Int):=E;have i9:(l:Int)<9:=E;have j0:(0:Int)<=((pth s l:Nat):Int):=E;have j1:((pth s l:Nat):Int)<((pw l:Nat):Int):=E;clear hE hJ hS hB hC a6 a7 c5 d2 a9 b5 hx F;unfold cI at b1;obtain⟨U,b6⟩:∃U,pth s l=U:=⟨_,rfl⟩;have e4:=θ b6;rw[b6]at b1 c1 c0 b9 r0 r1 r2 j0 j1;clear b6;generalize D.Q l U=q at *;generalize D.G l=g at *;generalize D.C l=gc at *;go_wp2_with fail;refine aG (λd=>d.cell? ⟨R,0,none⟩=some (.int .i64 (l:Int))/\d.cell? ⟨w.heap.size+1,0,none⟩=some (.int .i64 s)/\d.cell? ⟨p,l,none⟩=some (.slice (some ⟨g,0,none⟩) (pw l) gc)/\d.cell? ⟨g,U*3,none⟩=some (.pointer (some ⟨q,0,none⟩))/\d.cell? ⟨g,U*3+1,none⟩=some (.int .i64 l)/\d.cell? ⟨g,U*3+2,none⟩=some (.int .i64 (U:Nat))) Ek (⟨kl,ks,rr,r0,r1,r2⟩) (λA=>?_);refine rV 0 1 2 3 A ?_;refine rV 4 5 6 7 A ?_;refine rU 8 12 A ?_;refine rc 9 (λw _=>c1.o w) A ?_;refine rU 10 11 A ?_;refine rg 13 λκ hK=>?_;go_simp
     ((refine(b1.o (wr.drewN 1) rfl (HE.o.drewN 1) HJ.o HS.o HB.o c3.o).mono ?_))
     rintro e c ⟨rfl,v,hv,z,r,c6⟩;have I:Box1 c (w.heap.size+1) (.int .i64 s) 3:=Box1.chg (w:=wr.drewN 1) HS.o r (λhk=>hk.elim (λhk=>hk.2 (Ei (Ej (Ej rfl)))) (λe=>E));have a0:Box1 c R (.int .i64 (l:Int)) 3:=Box1.chg (w:=wr.drewN 1) HB.o r (λhk=>hk.elim (λhk=>hk.2 (Ej rfl)) (λe=>E));have a3:Hid (c.cell? ⟨R,0,none⟩=some (.int .i64 (l:Int))/\c.cell? ⟨w.heap.size+1,0,none⟩=some (.int .i64 s)/\c.cell? ⟨p,l,none⟩=some (.slice (some ⟨g,0,none⟩) (pw l) gc)/\c.cell? ⟨g,U*3,none⟩=some (.pointer (some ⟨q,0,none⟩))/\c.cell? ⟨g,U*3+1,none⟩=some (.int .i64 l)/\c.cell? ⟨g,U*3+2,none⟩=some (.int .i64 (U:Nat))):=⟨a0.cell,I.cell,b9.o _ _ _ z⟩;have g2:=a0.cell;have g1:=a0.frz;have a2:=θ c6;have T:=θ I;have f8:=θ a0;have u:=θ z;have e9:=θ hv;have V:Hid (Chg (exT B X) w c):=(HC.o.drewN 1).trans r (λj P=>P.elim (λP=>Ei (cJ (λi n=>Ei (Ei n)) P)) (λe=>Ej E));clear I a0 z r c6 hv;refine hK.out _ _ (a3.o) ?_;intro A;try simp only[pt]
     refine rz ?_;clear A rr r0 r1 r2 kl ks i0 i9 j0 j1;have bl:=Box1.new c (.int .i64 ((l:Int)-1)) 3;have f:=aB c (.cells #[.int .i64 ((l:Int)-1)] 3);have e3:Hid ((∃a:Int,0<=a/\a<=18*((H:Int)+1)-l*((H:Int)+1)/\WaveE B (λi=>(X i\/(i=w.heap.size\/i=w.heap.size+1))\/i=c.heap.size) (c.alloc (.cells #[.int .i64 ((l:Int)-1)] 3)) p D O L.length a bF)/\Box1 (c.alloc (.cells #[.int .i64 ((l:Int)-1)] 3)) w.heap.size (.int .i64 (bO L l U K:Nat)) 3/\Box1 (c.alloc (.cells #[.int .i64 ((l:Int)-1)] 3)) (w.heap.size+1) (.int .i64 s) 3/\Box1 (c.alloc (.cells #[.int .i64 ((l:Int)-1)] 3)) c.heap.size (.int .i64 ((l:Int)-1)) 3/\Chg (exT B X) w (c.alloc (.cells #[.int .i64 ((l:Int)-1)] 3))/\w.heap.size+1<c.heap.size):=by
      refine⟨⟨a+v,by have :=e7.o;omega,by have :=e8.o;have :=e9.o;have :=c0.o;omega,u.o.less f (λi n=>n.elim (λg=>Ei (Ei g)) (λe=>Ej E)) (λi n=>n.elim (λg=>aV7 (u.o.x i (Ei g)) f.size) (λe=>by subst e;exact bl.lt))⟩,a2.o.below f,T.o.below f,bl,V.o.trans (Chg.of_below (S:=exT B X) f) (λj P=>Ei P),T.o.lt⟩
     have e2:Hid ((intOf (((c.alloc (.cells #[.int .i64 ((l:Int)-1)] 3)).cell? ⟨c.heap.size,0,none⟩).getD undef)+1).toNat<(intOf ((wr.cell? ⟨R,0,none⟩).getD undef)+1).toNat):=by
      rw[bl.cell,HB.o.cell];show ((l:Int)-1+1).toNat<((l:Int)+1).toNat;omega
     clear bl f;go_wp2_with fail;go_roundw;case rel=>
      have hq:=e3.o;exact⟨l,c.heap.size,_,by have :=e1.o;omega,rfl,rfl,hq.2.2.2.2.2,hq.1,by rw[e4.o];exact hq.2.1,hq.2.2.1,hq.2.2.2.1,hq.2.2.2.2.1⟩
     case measure=>exact e2.o
end
end Go.Proofs.YtchinbgemenenaaGreatDoor
