/- Lemmas and contracts under the claims of this seat. No condition. -/
import Derived.Laws.EntriesVeiled
import Derived.RangeFuncNested
import Derived.RangeFuncBound
import Derived.Test.YtchinbgemenenaaGreatDoorZs9
namespace Go.Proofs.YtchinbgemenenaaGreatDoor
open Go.Proofs.Tryz
set_option linter.unusedVariables false
set_option linter.unusedSimpArgs false
set_option maxRecDepth 100000
set_option maxHeartbeats 12800000
section
open Go.RowKit
structure RowsSt (B:Nat) (w:World) (n bn br qr gn g c1 c2 c3:Nat) (fr fn fk:Nat->Int):Prop where
 nb:w.heap[bn]? =some (.cells #[n] 3 (0,0))
 rb:w.heap[br]? =some (.cells #[.slice g n c3] 36 (0,0))
 rows:w.ownsRow B 3 1 (.slice qr n c1) n (aI (λi=> .int .i64 (fr i)) n)
 next:w.ownsRow B 3 1 (.slice gn n c2) n (aI (λi=> .int .i64 (fn i)) n)
 rank:w.ownsRow B 3 1 (.slice g n c3) n (aI (λi=> .int .i64 (fk i)) n)
 ne:qr≠gn/\qr≠g/\gn≠g/\bn≠qr/\bn≠gn/\bn≠g/\br≠qr/\br≠gn/\br≠g/\bn≠br
 lo:B<=bn/\B<=br
section
variable {B:Nat}{w w':World}{n bn br qr gn g c1 c2 c3:Nat}{fr fn fk:Nat->Int}
theorem RowsSt.chg (h:RowsSt B w n bn br qr gn g c1 c2 c3 fr fn fk){S:Nat->Prop}(d:Chg S w w')(e:¬S bn)(f:¬S br)(i:¬S qr)(j:¬S gn)(l:¬S g):RowsSt B w' n bn br qr gn g c1 c2 c3 fr fn fk:=by
 have b:∀q n c,(∀k,(Value.slice (some ⟨q,0,none⟩) n c).ownBlock=some k->k=q):=λq n c k a=>by simp[Value.ownBlock]at a;exact a.symm
 exact⟨d.heap h.nb e,d.heap h.rb f,d.own h.rows (λk a=>by rw[b _ _ _ k a];exact i),d.own h.next (λk a=>by rw[b _ _ _ k a];exact j),d.own h.rank (λk a=>by rw[b _ _ _ k a];exact l),h.ne,h.lo⟩
theorem RowsSt.still (h:RowsSt B w n bn br qr gn g c1 c2 c3 fr fn fk)(a:Below w w w'):RowsSt B w' n bn br qr gn g c1 c2 c3 fr fn fk:=
 h.chg (Chg.of_below (S:=λ_=>False) a) id id id id id
theorem RowsSt.drewN (h:RowsSt B w n bn br qr gn g c1 c2 c3 fr fn fk)(m:Nat):RowsSt B (w.drewN m) n bn br qr gn g c1 c2 c3 fr fn fk:=⟨h.nb,h.rb,h.rows,h.next,h.rank,h.ne,h.lo⟩
theorem ai8{f:Nat->Int}{j n:Nat}{x:Int}:aI (λi=>if i=j then Value.int .i64 x else Value.int .i64 (f i)) n=aI (λi=>Value.int .i64 (if i=j then x else f i)) n:=
 cY (λi _=>by split<;>rfl)
theorem RowsSt.setRows (h:RowsSt B w n bn br qr gn g c1 c2 c3 fr fn fk)(j:Nat)(x:Int):RowsSt B (w.setCell (qr,j) x) n bn br qr gn g c1 c2 c3 (λi=>if i=j then x else fr i) fn fk:=by
 have f:Chg (λb=>b=qr) w (w.setCell (qr,j) x):=Chg.refl.setCell (S:=λb=>b=qr) (qr,j) (Ei rfl) _;obtain⟨m,p,t,r,u,v,s,y,z,o⟩:=h.ne;have d:∀q n c,(∀k,(Value.slice (some ⟨q,0,none⟩) n c).ownBlock=some k->k=q):=λq n c k a=>by simp[Value.ownBlock]at a;exact a.symm
 have l:=Av h.rows j x;rw[ai8]at l;exact⟨f.heap h.nb r,f.heap h.rb s,l,f.own h.next (λk a e=>m ((d _ _ _ k a▸e:gn=qr).symm)),f.own h.rank (λk a e=>p ((d _ _ _ k a▸e:g=qr).symm)),h.ne,h.lo⟩
theorem RowsSt.setNext (h:RowsSt B w n bn br qr gn g c1 c2 c3 fr fn fk)(j:Nat)(x:Int):RowsSt B (w.setCell (gn,j) x) n bn br qr gn g c1 c2 c3 fr (λi=>if i=j then x else fn i) fk:=by
 have f:Chg (λb=>b=gn) w (w.setCell (gn,j) x):=Chg.refl.setCell (S:=λb=>b=gn) (gn,j) (Ei rfl) _;obtain⟨m,t,p,u,r,v,y,s,z,o⟩:=h.ne;have d:∀q n c,(∀k,(Value.slice (some ⟨q,0,none⟩) n c).ownBlock=some k->k=q):=λq n c k a=>by simp[Value.ownBlock]at a;exact a.symm
 have l:=Av h.next j x;rw[ai8]at l;exact⟨f.heap h.nb r,f.heap h.rb s,f.own h.rows (λk a e=>m (d _ _ _ k a▸e:qr=gn)),l,f.own h.rank (λk a e=>p ((d _ _ _ k a▸e:g=gn).symm)),h.ne,h.lo⟩
theorem RowsSt.swap (h:RowsSt B w n bn br qr gn g c1 c2 c3 fr fn fk):RowsSt B (w.setCell br (.slice gn n c2)) n bn br qr g gn c1 c3 c2 fr fk fn:=by
 have i:Chg (λb=>b=br) w (w.setCell br (.slice gn n c2)):=Chg.refl.setCell (S:=λb=>b=br) (br,0) (Ei rfl) _;obtain⟨o,p,r,s,t,u,j,l,m,f⟩:=h.ne;have d:∀q n c,(∀k,(Value.slice (some ⟨q,0,none⟩) n c).ownBlock=some k->k=q):=λq n c k a=>by simp[Value.ownBlock]at a;exact a.symm
 exact⟨i.heap h.nb f,bc7 w br 0 _ _ _ h.rb,i.own h.rows (λk a e=>j ((d _ _ _ k a▸e:qr=br).symm)),i.own h.rank (λk a e=>m ((d _ _ _ k a▸e:g=br).symm)),i.own h.next (λk a e=>l ((d _ _ _ k a▸e:gn=br).symm)),⟨p,o,λe=>r e.symm,s,u,t,j,m,l,f⟩,h.lo⟩
theorem RowsSt.cells (h:RowsSt B w n bn br qr gn g c1 c2 c3 fr fn fk):w.cell? bn=n/\w.cell? br=some (.slice g n c3)/\(∀j,j<n->w.cell? (qr,j)=some (.int .i64 (fr j)))/\(∀j,j<n->w.cell? (gn,j)=some (.int .i64 (fn j)))/\(∀j,j<n->w.cell? (g,j)=some (.int .i64 (fk j)))/\(∀j,w.frozen? ⟨qr,j,none⟩=false)/\(∀j,w.frozen? ⟨gn,j,none⟩=false)/\(∀j,w.frozen? ⟨br,j,none⟩=false):=
 ⟨by rw[bb8 w bn 0 _ _ _ h.nb];rfl,by rw[bb8 w br 0 _ _ _ h.rb];rfl,λj a=>kS h.rows a,λj a=>kS h.next a,λj a=>kS h.rank a,xI h.rows,xI h.next,λj=>bc4 w br j _ _ h.rb⟩
theorem RowsSt.newRows (h:RowsSt B w n bn br qr gn g c1 c2 c3 fr fn fk)(f:Chg (λb=>b=qr) w w'){fr':Nat->Int}(r:w'.ownsRow B 3 1 (.slice qr n c1) n (aI (λi=> .int .i64 (fr' i)) n)):RowsSt B w' n bn br qr gn g c1 c2 c3 fr' fn fk:=by
 obtain⟨j,m,s,o,t,u,p,v,x,l⟩:=h.ne;have d:∀q n c,(∀k,(Value.slice (some ⟨q,0,none⟩) n c).ownBlock=some k->k=q):=λq n c k a=>by simp[Value.ownBlock]at a;exact a.symm
 exact⟨f.heap h.nb o,f.heap h.rb p,r,f.own h.next (λk a e=>j ((d _ _ _ k a▸e:gn=qr).symm)),f.own h.rank (λk a e=>m ((d _ _ _ k a▸e:g=qr).symm)),h.ne,h.lo⟩
theorem RowsSt.congr (h:RowsSt B w n bn br qr gn g c1 c2 c3 fr fn fk){fr' b a:Nat->Int}(d:∀i,i<n->fr i=fr' i)(e:∀i,i<n->fn i=b i)(f:∀i,i<n->fk i=a i):RowsSt B w n bn br qr gn g c1 c2 c3 fr' b a:=
 ⟨h.nb,h.rb,by rw[cY (g:=λi=> .int .i64 (fr i)) (λi c=>by rw[d i c])];exact h.rows,by rw[cY (g:=λi=> .int .i64 (fn i)) (λi c=>by rw[e i c])];exact h.next,by rw[cY (g:=λi=> .int .i64 (fk i)) (λi c=>by rw[f i c])];exact h.rank,h.ne,h.lo⟩
end
def Xp(n:Nat)(l:List Int)(W:World)(e:Ending)(w':World):Prop:=∃g cap,e= .returned (.slice (some ⟨g,0,none⟩) n cap)/\w'.ownsRow W 3 1 (.slice g n cap) n (aI (λi=> .int .i64 (sy l i)) n)/\Below W W w'
theorem Re{l:List Int}{n:Nat}(h:l.length=n):l.map (Value.int .i64)=aI (λi=> .int .i64 (sy l i)) n:=by
 apply aM9;intro i;by_cases a:i<n
 ·rw[dP a,aO3,aO0 E,gK E];rfl
 ·rw[aO1 (by simp;omega),aO1 (by rw[cW];omega)]
theorem Yg{w0 W:World}{c b n:Nat}{l:List Int}(r:∀j,j<n->w0.cell? (c,j)=some (.int .i64 (sy l j)))(m:c<w0)(k:Below w0 w0 W)(o:l.length=n)(i:0<n)(s:n<=1000000000):Calls prog 92 #[.slice c n b] W (Xp n l W):=by
 refine(Tryz.slices_Clone_int c 0 n b l W E E (λj h=>?_)).mono ?_
 ·rw[aY0,(k.cell (p:=(c,j)) m).trans (r j E),gK h];simp[h]
 ·rintro e w' ⟨t,rfl,a,_,f⟩;obtain⟨g,d,rfl,_⟩:=cS a i;rw[aT9 E,Re o]at a;exact⟨g,d,rfl,a,f⟩
theorem yS{a W:World}(b:Below a a W)(o:Obj):∃W' q,W.alloc o=W'/\W.heap.size=q/\Hid (Below a a W')/\Hid (W'.heap[q]? =some o)/\Hid (∀S,Chg S W W')/\q<W'.heap.size/\a.heap.size<=q/\W.heap.size<=q:=
 ⟨_,_,rfl,rfl,b.alloc b.size o,bc6 W o,λS=>Chg.refl.alloc o,Es,b.size,aV3 _⟩
def zY(B:Nat)(w:World)(l:List Int)(e:Ending)(w':World):Prop:=∃r:List Nat,IsRows l r/\∃v,e= .returned v/\w'.ownsRow B 3 1 v r.length (r.map bP)/\Below B w w'
theorem Am{r:List Nat}{n:Nat}(h:r.length=n):r.map bP=aI (λi=> .int .i64 ((r[i]?.getD 0:Nat):Int)) n:=by
 apply aM9;intro i;by_cases a:i<n
 ·rw[dP a,aO3,aO0 E];rfl
 ·rw[aO1 (by simp;omega),aO1 (by rw[cW];omega)]
theorem pV{t:List Int}(h:oR t):aS t:=by
 intro x b;obtain⟨i,a,rfl⟩:=aP1 b;have :=h i a;rwa[cL a]at this
def sH(w:World)(v:Value):Nat:=match v with
 | .pointer (some p)=>(match w.cell? p with | some (.int _ x)=>x.toNat | _=>0)
 | _=>0
theorem Cd{w:World}{p:Addr}{k:IntKind}{x:Nat}(h:w.cell? p=some (.int k (x:Int))):sH w (.pointer (some p))=x:=by
 unfold sH;simp only[h];omega
theorem Fm(f:Nat->Int){n i:Nat}(h:i<n):sy ((List.range n).map f) i=f i:=by unfold sy;simp[h]
def az7(B:Nat)(w wr:World)(l:List Int)(n bn br qr c1:Nat)(v7 v9:Value):Prop:=
 ∃(bw gn g c2 c3 wide:Nat) (rk:List Int) (fn:Nat->Int) (r:List Nat),v7= .slice gn n c2/\v9= .pointer bw/\wr.heap[bw]? =some (.cells #[wide] 3 (0,0))/\
  RowsSt B wr n bn br qr gn g c1 c2 c3 (λi=>((r[i]?.getD 0:Nat):Int)) fn (sy rk)/\RankOf l wide rk/\r.Perm (List.range n)/\0<wide/\(wide<n\/wide=1)/\(∀i,i<n->sy rk i<=1000000)/\bw≠qr/\bw≠gn/\bw≠g/\B<=bw/\Below B w wr
structure RgI (W0:World) (n:Nat) (f3:Nat->Int) (b1 b3 b5 b6 b8:Bool) (q1 q3 c3 q5 q6:Nat) (W:World):Prop where
 bl:Below W0 W0 W
 o1:b1=true->W.heap[q1]? =some (.cells (aI (λ_=> .int .i64 0) n).toArray 3 (0,0))/\W0<=q1/\q1<W
 o3:b3=true->W.ownsRow W0 3 1 (.slice q3 n c3) n (aI (λi=> .int .i64 (f3 i)) n)/\W0<=q3/\q3<W
 o5:b5=true->W.heap[q5]? =some (.cells (aI (λ_=> .int .i64 0) n).toArray 3 (0,0))/\W0<=q5/\q5<W
 o6:b6=true->W.heap[q6]? =some (.cells #[if b8 then .slice q3 n c3 else .slice none 0 0] 36 (0,0))/\W0<=q6/\q6<W
 ne:(b1=true->b3=true->q1≠q3)/\(b1=true->b5=true->q1≠q5)/\(b1=true->b6=true->q1≠q6)/\(b3=true->b5=true->q3≠q5)/\(b3=true->b6=true->q3≠q6)/\(b5=true->b6=true->q5≠q6)
 b8:b8=true->b3=true
section
variable {W0 W W':World}{n q1 q3 c3 q5 q6 q:Nat}{f3:Nat->Int}{b1 b3 b5 b6 b8:Bool}
theorem RgI.grow (h:RgI W0 n f3 b1 b3 b5 b6 b8 q1 q3 c3 q5 q6 W)(b:Below W W W'):RgI W0 n f3 b1 b3 b5 b6 b8 q1 q3 c3 q5 q6 W':=by
 have d:=b.size;have a:Chg (λ_=>False) W W':=Chg.of_below b;exact⟨h.bl.trans (b.mono h.bl.size),λe=>by obtain⟨x,y,z⟩:=h.o1 e;exact⟨a.heap x id,y,E⟩,λe=>by obtain⟨x,y,z⟩:=h.o3 e;exact⟨a.own x (λ_ _ c=>c),y,E⟩,
  λe=>by obtain⟨x,y,z⟩:=h.o5 e;exact⟨a.heap x id,y,E⟩,λe=>by obtain⟨x,y,z⟩:=h.o6 e;exact⟨a.heap x id,y,E⟩,h.ne,h.b8⟩
theorem RgI.zero (a:Below W0 W0 W):RgI W0 n f3 false false false false false q1 q3 c3 q5 q6 W:=⟨a,Es,Es,Es,Es,Es,Es⟩
theorem RgI.mk1 (h:RgI W0 n f3 false b3 b5 b6 b8 q1 q3 c3 q5 q6 W):RgI W0 n f3 true b3 b5 b6 b8 W q3 c3 q5 q6 (W.alloc (.cells (aI (λ_=> .int .i64 0) n).toArray 3)):=by
 obtain⟨a,_,b,c,d,⟨l,m,o,i,j,k⟩,f⟩:=h.grow (aB W (.cells (aI (λ_=> .int .i64 0) n).toArray 3));exact⟨a,λ_=>⟨bc6 W _,h.bl.size,Es⟩,b,c,d,⟨λ_ e=>by have :=(h.o3 e).2.2;omega,λ_ e=>by have :=(h.o5 e).2.2;omega,λ_ e=>by have :=(h.o6 e).2.2;omega,i,j,k⟩,f⟩
theorem RgI.mk5 (h:RgI W0 n f3 b1 b3 false b6 b8 q1 q3 c3 q5 q6 W):RgI W0 n f3 b1 b3 true b6 b8 q1 q3 c3 W q6 (W.alloc (.cells (aI (λ_=> .int .i64 0) n).toArray 3)):=by
 obtain⟨a,b,c,_,d,⟨i,l,j,m,k,o⟩,f⟩:=h.grow (aB W (.cells (aI (λ_=> .int .i64 0) n).toArray 3));exact⟨a,b,c,λ_=>⟨bc6 W _,h.bl.size,Es⟩,d,⟨i,λe _=>by have :=(h.o1 e).2.2;omega,j,λe _=>by have :=(h.o3 e).2.2;omega,k,λ_ e=>by have :=(h.o6 e).2.2;omega⟩,f⟩
theorem RgI.mk6 (h:RgI W0 n f3 b1 b3 b5 false false q1 q3 c3 q5 q6 W):RgI W0 n f3 b1 b3 b5 true false q1 q3 c3 q5 W (W.alloc (.cells #[.slice none 0 0] 36)):=by
 obtain⟨a,b,c,d,_,⟨i,j,l,k,m,o⟩,f⟩:=h.grow (aB W (.cells #[.slice none 0 0] 36));exact⟨a,b,c,d,λ_=>⟨bc6 W _,h.bl.size,Es⟩,⟨i,j,λe _=>by have :=(h.o1 e).2.2;omega,k,λe _=>by have :=(h.o3 e).2.2;omega,λe _=>by have :=(h.o5 e).2.2;omega⟩,f⟩
theorem RgI.mk3 (h:RgI W0 n f3 b1 false b5 b6 false q1 q3 c3 q5 q6 W){c:Nat}(a:W'.ownsRow W 3 1 (.slice q n c) n (aI (λi=> .int .i64 (f3 i)) n))(b:Below W W W'):RgI W0 n f3 b1 true b5 b6 false q1 q c q5 q6 W':=by
 obtain⟨j,k,_,l,m,⟨t,o,p,u,v,r⟩,s⟩:=h.grow b;have d:W<=q/\q<W':=cH a rfl;have f:=h.bl.size;exact⟨j,k,λ_=>⟨gG a f,E,d.2⟩,l,m,⟨λe _=>by have :=(h.o1 e).2.2;omega,o,p,λ_ e=>by have :=(h.o5 e).2.2;omega,λ_ e=>by have :=(h.o6 e).2.2;omega,r⟩,λe=>nomatch e⟩
theorem RgI.mk8 (h:RgI W0 n f3 b1 true b5 true false q1 q3 c3 q5 q6 W):RgI W0 n f3 b1 true b5 true true q1 q3 c3 q5 q6 (W.setCell q6 (.slice q3 n c3)):=by
 obtain⟨c,m,o,p,r,⟨s,t,d,u,f,i⟩,D⟩:=h;have b:Chg (λj=>j=q6) W (W.setCell q6 (.slice q3 n c3)):=(Chg.refl (S:=λj=>j=q6) (w:=W)).setCell q6 (Ei rfl) _;obtain⟨v,A,F⟩:=r rfl;have C:(W.setCell q6 (.slice q3 n c3)).heap.size=W.heap.size:=by simp[World.setCell]
 refine⟨c.trans (b.below (λj e=>E) c.size),λe=>?_,λe=>?_,λe=>?_,λe=>⟨bc7 W q6 0 _ _ _ v,A,E⟩,⟨s,t,d,u,f,i⟩,λ_=>rfl⟩
 ·obtain⟨x,y,z⟩:=m e;exact⟨b.heap x (d e rfl),y,E⟩
 ·obtain⟨x,y,z⟩:=o e;exact⟨b.own x (λk a l=>by have a:some q3=some k:=a;injection a with a;exact f rfl rfl (a.trans l)),y,E⟩
 ·obtain⟨x,y,z⟩:=p e;exact⟨b.heap x (i e rfl),y,E⟩
end
theorem My(a:Option Addr)(c:Nat)(t:List Int)(w:World)(hr:Reads w .u8 a t)(hb:oR t)(hl:t.length<=1000000):Calls prog 49 #[.slice a t.length c] w (zY w w (aA t)):=by
 go_in;go_wp2_with fail;have j9:=aB w (.cells #[.slice a t.length c] 32);refine(Tf w 1 a c t _ Es Es (hr.below j9) hb E).mono ?_;rintro e w1 ⟨v,rfl,a6,n0⟩;obtain⟨g0,a3,rfl,o2,o3,_,_,g8,_⟩:=cS a6 E;have u:Below w w w1:=j9.trans (n0.mono Es);have e8:(aA t).length=t.length+1:=aE t;have k9:∀j,j<t.length+1->w1.cell? (g0,j)=some (.int .i64 (sy (aA t) j)):=by
  intro j hj;rw[g8 j hj];have e:t.map oO++[.int .i64 0]=(aA t).map (Value.int .i64):=by simp[aA,oO,Function.comp]
  rw[e,aO3,aO0 E,gK E];rfl
 have t9:g0<w1:=o3;have t8:w<=g0:=by simp at o2;omega
 clear a6 g8 j9 n0 o2 o3;go_upto_region 3 with fail
 have j8:((t.length:Int)+1)=((t.length+1:Nat):Int):=E;rw[j8];obtain⟨n,hn⟩:=Ey (t.length+1);have i5:0<n:=E;have u3:n<=1000001:=E;rw[hn]at e8 k9⊢;have HN:=θ hn;have O:=θ e8;have m6:=θ k9;have a8:=θ u;obtain⟨bn,e7⟩:=Ey w1.heap.size;obtain⟨X,h9⟩:=Ey (w1.alloc (.cells #[n] 3));have k2:X.cell? bn=n:=by rw[<-h9,<-e7];simp
 have p0:bn<X:=by rw[<-h9,<-e7];simp
 rw[e7,h9];have e0:=θ h9;have m0:=θ e7;have q9:=xE n E;have p3:Hid (∀W,Below X X W->∀j,j<n->W.cell? (g0,j)=some (.int .i64 (sy (aA t) j))):=by
  intro W hW j hj;rw[hW.cell (p:=(g0,j)) (by show g0<_;rw[<-e0.o];simp;omega),<-e0.o];rw[(aB w1 _).cell (p:=(g0,j)) (by show g0<_;omega)];exact m6.o j hj
 have m3:Hid (∀W,Below X X W->Calls prog 92 #[.slice g0 n a3] W (Xp n (aA t) W)):=by
  intro W hW;exact Yg (w0:=W) (p3.o W hW) (by
                         have :=hW.size;have :g0<X:=by rw[<-e0.o];simp;omega
                         omega) (aJ6 _ _) O.o i5 E
 clear e8 k9 u hn h9 e7;have l8:Hid (Below X X X.drew):=(aJ6 _ _).drew;have HH:Hid (∀W,Below X X W->W.cell? bn=n):=λW h=>(h.cell (p:=(bn,0)) p0).trans k2;have m5:Hid (∀W,Below X X W->W.heap[bn]? =some (.cells #[n] 3 (0,0))):=λW h=>(h.block bn p0).trans (by rw[<-e0.o,<-m0.o];exact bc6 _ _);have t1:w<=bn:=by rw[<-m0.o];exact a8.o.size
 go_cut [5,6,7] (λr5 r6 r7 wx=>∃br qr gn g c1 c2 c3,r5= .slice (some ⟨qr,0,none⟩) n c1/\r6= .pointer (some ⟨br,0,none⟩)/\r7= .slice (some ⟨gn,0,none⟩) n c2/\RowsSt w wx n bn br qr gn g c1 c2 c3 (λ_=>0) (λ_=>0) (sy (aA t))/\Below X X wx);case first=>as_aux_lemma=>
  clear k2;obtain⟨F,hF⟩:∃F:Value->Value->Value->Value->Value->Value->Value->Value->Value->Act,F=λs5 s6 s7 s1 s2 s3 s4 s9 t0=>{tmps:=#[.slice a t.length c,undef, .slice none 0 0, .slice g0 n a3, .pointer bn,s5,s6,s7,undef,undef,undef,undef,undef, .slice a t.length c, .slice w 1 1, .slice g0 n a3, .slice g0 n a3,n,s1,s2,s3,s4,s9,t0,undef,undef,undef,undef,undef,undef,undef,undef,undef,undef,undef,undef,undef,undef,undef,undef,undef,undef,undef,undef,undef,undef,undef,undef,undef,undef,undef,undef,undef,undef,undef,undef,undef,undef,undef,undef,undef,undef,undef,undef,undef,undef,undef,undef,undef,undef,undef,undef,undef,undef,undef,undef,undef,undef,undef,undef,undef,undef,undef,undef,undef,undef,undef,undef,undef,undef,undef,undef,undef,undef,undef,undef,undef,undef,undef,undef,undef],defers:=[]}:=⟨_,rfl⟩;refine as6 (λl a w=>∃(b0 b1 b2 b3 b4 b5 b6 Y b8 Z:Bool) (q1 q3 k3 q5 q6:Nat),l=#[b0,b1,b2,b3,b4,b5,b6,Y,b8,Z]/\
   a=F (if Y then .slice q1 n n else undef) (if b6 then .pointer q6 else undef) (if Z then .slice q5 n n else undef) (if b0 then .int .i64 n else undef) (if b1 then .slice q1 n n else undef) (if b2 then .slice g0 n a3 else undef) (if b3 then .slice q3 n k3 else undef) (if b4 then .int .i64 n else undef) (if b5 then .slice q5 n n else undef)/\
   (Y=true->b1=true)/\(b8=true->b6=true)/\(Z=true->b5=true)/\RgI X n (sy (aA t)) b1 b3 b5 b6 b8 q1 q3 k3 q5 q6 w) Ek ?hz ?h0 ?hs ?he Ek
  case hz=>rintro l A W ⟨b0,b1,b2,b3,b4,b5,b6,Y,b8,Z,q1,q3,k3,q5,q6,rfl,_⟩;rfl
  case h0=>
   exact⟨false,false,false,false,false,false,false,false,false,false,0,0,0,0,0,rfl,by rw[hF];rfl,Es,Es,Es,RgI.zero l8.o⟩
  case he=>
   rintro l A W ⟨b0,b1,b2,b3,b4,b5,b6,Y,b8,Z,q1,q3,k3,q5,q6,rfl,rfl,_,_,_,hI⟩ f;obtain rfl:b0=true:=f 0 Ed;obtain rfl:b1=true:=f 1 Ed;obtain rfl:b2=true:=f 2 Ed;obtain rfl:b3=true:=f 3 Ed;obtain rfl:b4=true:=f 4 Ed;obtain rfl:b5=true:=f 5 Ed;obtain rfl:b6=true:=f 6 Ed;obtain rfl:Y=true:=f 7 Ed;obtain rfl:b8=true:=f 8 Ed;obtain rfl:Z=true:=f 9 Ed;have HI:=θ hI;clear hI f;simp only[bd1];rw[hF];clear hF F;go_wp2_with fail;go_meet;case rel=>
    obtain⟨k0,k1,s0,k5,k6,⟨n1,n2,n3,n4,n5,n6⟩,_⟩:=HI.o;obtain⟨x1,y1,z1⟩:=k1 rfl;obtain⟨x3,y3,z3⟩:=s0 rfl;obtain⟨x5,y5,z5⟩:=k5 rfl;obtain⟨x6,y6,z6⟩:=k6 rfl;have o0:w<=X.heap.size:=by have :=a8.o.size;rw[<-e0.o];simp;omega
    exact⟨q6,q1,q5,q3,n,n,k3,rfl,rfl,rfl,⟨m5.o _ k0,x6,tT x1 E (by unfold maxLen;omega),tT x5 E (by unfold maxLen;omega),gG x3 o0,by have :=n1 rfl rfl;have :=n2 rfl rfl;have :=n3 rfl rfl;have :=n4 rfl rfl;have :=n5 rfl rfl;have :=n6 rfl rfl;omega,E,E⟩,k0⟩
  case hs=>
   rintro l A W i ⟨b0,b1,b2,b3,b4,b5,b6,Y,b8,Z,q1,q3,k3,q5,q6,rfl,rfl,Q,R,T,hI⟩ hi;obtain⟨H,o,D,f⟩:=bd3.1 hi;clear hi;have e7:W.cell? bn=n:=HH.o _ hI.bl;have HI:=θ hI;clear hI;rw[hF];match i,H,D,f with
   | 0,H,D,f=>
    obtain rfl:b0=false:=H;refine mU rfl rfl (λK U=>?_);go_simp;exact U.out _ _ ⟨true,b1,b2,b3,b4,b5,b6,Y,b8,Z,q1,q3,k3,q5,q6,rfl,rfl,Q,R,T,HI.o⟩
   | 1,H,D,f=>
    obtain rfl:b1=false:=H;injection D with D
    subst D;obtain rfl:b0=true:=f ⟨0, .data⟩ Es rfl;obtain rfl:Y=false:=by cases Y with | false=>rfl | true=>exact absurd (Q rfl) Ed
    refine mU rfl rfl (λK U=>?_);go_simp;exact U.out _ _ ⟨true,true,b2,b3,b4,b5,b6,false,b8,Z,W.heap.size,q3,k3,q5,q6,rfl,rfl,λ_=>rfl,R,T,HI.o.mk1⟩
   | 2,H,D,f=>
    obtain rfl:b2=false:=H;refine mU rfl rfl (λK U=>?_);go_simp;exact U.out _ _ ⟨b0,b1,true,b3,b4,b5,b6,Y,b8,Z,q1,q3,k3,q5,q6,rfl,rfl,Q,R,T,HI.o⟩
   | 3,H,D,f=>
    obtain rfl:b3=false:=H;injection D with D
    subst D;obtain rfl:b2=true:=f ⟨2, .data⟩ Es rfl;obtain rfl:b8=false:=by cases b8 with | false=>rfl | true=>exact absurd (HI.o.b8 rfl) Ed
    refine mU rfl rfl (λK U=>?_);go_simp;refine(m3.o _ HI.o.bl).mono ?_;rintro e x2 ⟨q,cp,rfl,a6,n7⟩;have p7:=θ (HI.o.mk3 a6 n7);clear a6 n7;exact U.out _ _ ⟨b0,b1,true,true,b4,b5,b6,Y,false,Z,q1,q,cp,q5,q6,rfl,rfl,Q,R,T,p7.o⟩
   | 4,H,D,f=>
    obtain rfl:b4=false:=H;refine mU rfl rfl (λK U=>?_);go_simp;exact U.out _ _ ⟨b0,b1,b2,b3,true,b5,b6,Y,b8,Z,q1,q3,k3,q5,q6,rfl,rfl,Q,R,T,HI.o⟩
   | 5,H,D,f=>
    obtain rfl:b5=false:=H;injection D with D
    subst D;obtain rfl:b4=true:=f ⟨4, .data⟩ Es rfl;obtain rfl:Z=false:=by cases Z with | false=>rfl | true=>exact absurd (T rfl) Ed
    refine mU rfl rfl (λK U=>?_);go_simp;exact U.out _ _ ⟨b0,b1,b2,b3,true,true,b6,Y,b8,false,q1,q3,k3,W.heap.size,q6,rfl,rfl,Q,R,λ_=>rfl,HI.o.mk5⟩
   | 6,H,D,f=>
    obtain rfl:b6=false:=H;obtain rfl:b8=false:=by cases b8 with | false=>rfl | true=>exact absurd (R rfl) Ed
    refine mU rfl rfl (λK U=>?_);go_simp;exact U.out _ _ ⟨b0,b1,b2,b3,b4,b5,true,Y,false,Z,q1,q3,k3,q5,W.heap.size,rfl,rfl,Q,λ_=>rfl,T,HI.o.mk6⟩
   | 7,H,D,f=>
    obtain rfl:Y=false:=H;injection D with D
    subst D;obtain rfl:b1=true:=f ⟨1, .data⟩ Es rfl;refine mU rfl rfl (λK U=>?_);go_simp;exact U.out _ _ ⟨b0,true,b2,b3,b4,b5,b6,true,b8,Z,q1,q3,k3,q5,q6,rfl,rfl,λ_=>rfl,R,T,HI.o⟩
   | 8,H,D,f=>
    obtain rfl:b8=false:=H;injection D with D
    subst D;obtain rfl:b6=true:=f ⟨6, .data⟩ Es rfl;obtain rfl:b3=true:=f ⟨3, .data⟩ Es rfl;refine mU rfl rfl (λK U=>?_);have x6:=(HI.o.o6 rfl).1;have c6:=bb8 W q6 0 _ _ _ x6;have f6:=bc4 W q6 0 _ _ x6;clear x6;go_simp;exact U.out _ _ ⟨b0,b1,b2,true,b4,b5,true,Y,true,Z,q1,q3,k3,q5,q6,rfl,rfl,Q,λ_=>rfl,T,HI.o.mk8⟩
   | 9,H,D,f=>
    obtain rfl:Z=false:=H;injection D with D
    subst D;obtain rfl:b5=true:=f ⟨5, .data⟩ Es rfl;refine mU rfl rfl (λK U=>?_);go_simp;exact U.out _ _ ⟨b0,b1,b2,b3,b4,true,b6,Y,b8,true,q1,q3,k3,q5,q6,rfl,rfl,Q,R,λ_=>rfl,HI.o⟩
   | n+10,H,_,_=>simp at H
 case rest=>
  obtain⟨br,qr,gn,g,c1,c2,c3,rfl,rfl,rfl,s,hb⟩:=hcut;have u:Below w w wc:=by
   have h1:Below w w X:=by rw[<-e0.o];exact a8.o.alloc a8.o.size _
   exact h1.trans (hb.mono h1.size)
  have t2:(n:Int)<=1000001:=E;clear k2 hb l8 HH m5 m3 m6 q9 hr;go_wp2;go_loopw [26,8] (λi s8 wr=>∃k:Nat,k<=n/\i= .int .i64 k/\RowsSt w wr n bn br qr gn g c1 c2 c3 (λj=>if j<k then (j:Int)else 0) (λ_=>0) (sy (aA t))/\Below w w wr) (λi _ _=>n-(intOf i).toNat);exact⟨0,aY1 _,rfl,s.congr (λi _=>Es) (λ_ _=>rfl) (λ_ _=>rfl),u⟩;case round=>
   clear s u;obtain⟨k,hk,rfl,s,u⟩:=hrel;have hs:=u.size;by_cases c4:k<n
   ·obtain⟨_,_,M,_,_,d6,_,_⟩:=s.cells;have e3:=M k c4;have e6:=d6 k;simp only[aV5,bc8]at e3;have P:=θ s;have hq:=(cH s.rows (k:=qr) rfl).1;clear M d6 s;go_wp2;go_roundw;case rel=>
     refine⟨k+1,E,by go_num,(P.o.setRows k k).congr (λi _=>?_) (λ_ _=>rfl) (λ_ _=>rfl),dX u hs hq _⟩;by_cases e:i=k
     ·subst e;simp
     ·rw[bc9 e];by_cases e2:i<k
      ·rw[bd0 e2,bd0 E]
      ·rw[bc9 e2,bc9 E]
    case measure=>simp[intOf];omega
   ·obtain rfl:k=n:=E;have s:=s.congr (fr':=λi=>(((List.range k)[i]?.getD 0:Nat):Int)) (λi hi=>by simp[hi]) (λ_ _=>rfl) (λ_ _=>rfl);have P:=θ s;have a8:=θ u;clear s;go_wp2;go_loopw [7,9] (λv7 v9 wr=>az7 w w wr (aA t) k bn br qr c1 v7 v9) (λ_ v9 wr=>k+1-sH wr v9);case atStart=>
     have u:=a8.o;have hs:=u.size;have a9:=bc6 wr (.cells #[.int .i64 1] 3);have N:=P.o.still (aB wr (.cells #[.int .i64 1] 3));have l1:=(cH P.o.rows (k:=qr) rfl).2;have l2:=(cH P.o.next (k:=gn) rfl).2;have l3:=(cH P.o.rank (k:=g) rfl).2;refine⟨wr.heap.size,gn,g,c2,c3,1,aA t,_,List.range k,rfl,rfl,a9,N,Vm (dE (pV hb)).nn,aK9 _,E,Ej rfl,?_,E,E,E,hs,u.alloc hs _⟩;intro i hi;have :=(mV (pV hb)) (sy (aA t) i) (by rw[gK (by rw[O.o];exact hi)];exact aP0 _);omega
    case round=>
     clear u P a8 hs c4;obtain⟨wo,rfl⟩:∃wo:World,wo=wr:=⟨_,rfl⟩;obtain⟨bw,gn,g,c2,c3,d,I,fn,r,rfl,rfl,J,s,h6,hp,r4,u6,o9,o8,k8,u5,t7,u⟩:=hrel;have hs:=u.size;have d0:I.length=k:=by rw[h6.len];exact O.o
     have G:r.length=k:=by have :=hp.length_eq;simpa using this
     have u7:d<=1000001:=E;have m4:Hid (sH wo (.pointer bw)=d):=Cd (bb8 wo bw 0 _ _ _ J);have N:=s.still (aB wo (.cells #[.func (.func 93) #[] #[.pointer bw, .pointer bn, .pointer br]] 87));have g7:=aT (aB wo (.cells #[.func (.func 93) #[] #[.pointer bw, .pointer bn, .pointer br]] 87)) J;have c0:=bc6 wo (.cells #[.func (.func 93) #[] #[.pointer bw, .pointer bn, .pointer br]] 87);have g5:=u.alloc hs (.cells #[.func (.func 93) #[] #[.pointer bw, .pointer bn, .pointer br]] 87);go_wp2_with fail;have l1:=(cH s.rows (k:=qr) rfl);have l2:=(cH s.next (k:=gn) rfl);have l3:=(cH s.rank (k:=g) rfl);have l4:=(aJ2.1 s.nb).1;have l5:=(aJ2.1 s.rb).1;have l6:=(aJ2.1 J).1;generalize wo.alloc (.cells #[.func (.func 93) #[] #[.pointer bw, .pointer bn, .pointer br]] 87)=w3 at *;generalize wo.heap.size=bf at *;have h7:∀i,-1<=sy I i/\sy I i<=1000000000:=by
      intro i;by_cases hi:i<I.length
      ·have a1:=h6.nn i hi;have a2:=o9 i E;omega
      ·rw[eO E];omega
     obtain⟨d1,d2,M,d4,d5,d6,d7,d8⟩:=N.cells;have c7:=af1 (l:=aA t) (r:=r) (capr:=c1) (B:=w.heap.size) ⟨by rw[bb8 w3 bw 0 _ _ _ g7];rfl,by rw[d0];exact d1,by rw[d0];exact d2,λi hi=>d5 i E⟩
      (by rw[bb8 w3 bf 0 _ _ _ c0];rfl) h6 (by rw[O.o];exact hp) (by rw[Am G,G];exact N.rows) ⟨o8,s.ne.2.2.2.1,s.ne.2.2.2.2.2.2.1,E,λe=>s.ne.2.1 e.symm⟩ (by rw[O.o];exact i5) (by rw[O.o];omega) E h7
     rw[G]at c7;clear d1 d2 M d4 d5 d6 d7 d8;refine c7.mono ?_;clear c7;rintro e w4 ⟨rfl,C,a7,k4,h5,a4⟩;have h8:=N.newRows a4 (fr':=λi=>((C[i]?.getD 0:Nat):Int)) (by rw[<-Am k4];exact h5);have j3:=a4.heap g7 (λe=>o8 e);have j2:=a4.heap c0 (λe=>by have e:bf=qr:=e;omega);have g6:Below w w w4:=g5.trans (a4.below (B:=w.heap.size) (λb h=>by rw[h];exact l1.1) g5.size);have c5:∀i,i<k->C[i]?.getD 0<k:=by
      intro i hi;have h1:i<C.length:=E;have h2:=aR8.1 (a7.1.mem_iff.1 (aP0 h1));have h3:=O.o;rw[cL h1];omega
     clear h5 a4 N g7 c0 g5 s J hp G l4 l5;clear o9;obtain⟨d1,d2,M,d4,d5,d6,d7,d8⟩:=h8.cells;have e1:=M 0 i5;have r1:=c5 0 i5;have e2:=d4 (C[0]?.getD 0) r1;have e3:=d7 (C[0]?.getD 0);have j5:=h8.setNext (C[0]?.getD 0) 0;have j0:=θ j5;have i9:=θ j3;have i7:=θ j2;have i3:=θ a7;have i2:=θ c5;have i1:=θ h6;have m7:=θ h7;have L:=θ d0;have g1:=θ k4;clear d1 d2 M d4 d5 d6 d7 d8 h8 j5 j3 j2 a7 c5 h6 h7 d0 k4;generalize j4:C[0]?.getD 0=r0 at *;have p9:=θ j4;clear j4;go_wp2_with fail;obtain⟨wq,rfl⟩:∃wq:World,wq=w4:=⟨_,rfl⟩;go_loopw [12] (λl7 wr=>∃(j:Nat) (fn:Nat->Int),1<=j/\j<=k/\l7= .int .i64 j/\RowsSt w wr k bn br qr gn g c1 c2 c3 (λi=>((C[i]?.getD 0:Nat):Int)) fn (sy I)/\
      wr.heap[bw]? =some (.cells #[d] 3 (0,0))/\
      wr.heap[bf]? =some (.cells #[.func (.func 93) #[] #[.pointer bw, .pointer bn, .pointer br]] 87 (0,0))/\
      (∀i,i<j->fn (C[i]?.getD 0)=(dJ I d C i:Int))/\Below w w wr) (λl7 _=>k-(intOf l7).toNat)
     case atStart=>
      have hc:Chg (λb=>b=gn) wq (wq.setCell (gn,r0) (.int .i64 0)):=Chg.refl.setCell (S:=λb=>b=gn) (gn,r0) (Ei rfl) _;refine⟨1,_,E,E,rfl,j0.o,hc.heap i9.o (λe=>k8 e),hc.heap i7.o (λe=>by have e:bf=gn:=e;omega),?_,g6.trans (hc.below (λb h=>by rw[h];exact l2.1) g6.size)⟩;intro i hi;obtain rfl:i=0:=E;rw[p9.o,bd0 rfl];rfl
     case round=>
      clear g6 j0 i9 i7 e1 e2 e3 hs u;obtain⟨j,fn,u0,u1,rfl,s,J,c0,a5,u⟩:=hrel;have hs:=u.size;have P:=θ s;have p5:=θ J;have p4:=θ c0;have f9:=θ a5;obtain⟨d1,d2,M,d4,d5,d6,d7,d8⟩:=s.cells;by_cases c4:j<k
      ·obtain⟨i,rfl⟩:∃i,j=i+1:=⟨j-1,E⟩;have e1:=M (i+1) c4;have e2:=M i E;have ha:=i2.o (i+1) c4;have q7:=i2.o i E;have e3:=d4 (C[i]?.getD 0) q7;have e4:=d4 (C[i+1]?.getD 0) ha;have e5:=d7 (C[i+1]?.getD 0);have e6:w.heap.size<=gn:=l2.1;clear d2 M d4 d5 d6 d7 d8 s J c0 a5;generalize m9:C[i+1]?.getD 0=V at *;generalize n8:C[i]?.getD 0=rb at *;have d9:=θ m9;have j6:=θ n8;clear m9 n8;generalize p1:fn rb=x at *;generalize p2:fn V=y at *;have q2:=θ p1;have t5:=θ p2;clear p1 p2;have hx:x=(dJ I d C i:Int):=by rw[<-q2.o,<-j6.o];exact f9.o i E
       have r8:=sI I d C i;have v0:0<=x:=E;have v1:x<=1000001:=E;have HX:=θ hx;have i4:Chg (λb=>b=gn) wr (wr.setCell (gn,V) x).drew:=(Chg.refl.setCell (S:=λb=>b=gn) (gn,V) (Ei rfl) _).drew;have a0:Hid (RowsSt w (wr.setCell (gn,V) x).drew k bn br qr gn g c1 c2 c3 (λi=>((C[i]?.getD 0:Nat):Int)) (λz=>if z=V then x else fn z) (sy I)):=(P.o.setNext V x).drewN 1;have c9:=θ (i4.heap p5.o (λe=>k8 e));have c8:=θ (i4.heap p4.o (λe=>by have e:bf=gn:=e;omega));have e9:=θ (u.trans (i4.below (B:=w.heap.size) (λb h=>by rw[h];exact l2.1) u.size));have g9:dJ I d C (i+1)=dJ I d C i+(if iA I d rb V=0 then 0 else 1):=by rw[<-d9.o,<-j6.o];rfl
       have g2:=θ g9;have o5:∀z,z<=i->C[z]?.getD 0≠V:=by
        intro z hz e;have hn:C.Nodup:=i3.o.1.nodup_iff.2 aS4;have h1:z<C.length:=by have :=g1.out;omega
        have h2:i+1<C.length:=by have :=g1.out;omega
        rw[<-d9.o,cL h1,cL h2]at e;exact aS7.1 hn z (i+1) h1 h2 E e
       have j7:=θ o5;clear g9 o5 hx r8 i4;go_wp2;go_region;clear e1 e2 e3 e4 e5 d1;generalize (wr.setCell (gn,V) x).drew=w6 at *;have g3:Hid (∀m,Calls prog 94 #[rb,V, .pointer br, .pointer bf] (w6.drewN m) λe w'=>e= .returned (iA I d rb V:Int)/\∃q,w'=w6.drewN q):=by
        intro m;obtain⟨d1,d2,M,d4,d5,d6,d7,d8⟩:=a0.o.cells;have q4:RkAt w6 bw bn br g c3 d I:=⟨by rw[bb8 w6 bw 0 _ _ _ c9.o];rfl,by rw[L.o];exact d1,by rw[L.o];exact d2,λi hi=>d5 i (by have :=L.o;omega)⟩;refine(Hp (q4.drewN m) (by show w6.cell? _=_;rw[bb8 w6 bf 0 _ _ _ c8.o];rfl) rb V (by have :=L.o;omega) (by have :=L.o;omega) (by have :=L.o;omega) E m7.o).mono ?_;rintro e w' ⟨rfl,q,rfl⟩;exact⟨rfl,_,bb0 _ _ _⟩
       obtain⟨d1,d2,M,d4,d5,d6,d7,d8⟩:=a0.o.cells;have e1:=M (i+1) c4;have e2:=M i E;rw[d9.o]at e1;rw[j6.o]at e2;clear d1 d2 M d4 d5 d6 d7 d8;generalize D:iA I d rb V=o at *;have HO:=θ D;clear D;by_cases i6:o=0
       ·subst i6;go_wp2;go_quiet ((go_at_call 94;exact g3.o _));go_wp2;go_roundw;case rel=>
         refine⟨i+2,_,E,E,by go_num,a0.o.drewN _,c9.o,c8.o,?_,aW e9.o _⟩;intro z hz;by_cases e:z<=i
         ·rw[bc9 (j7.o z e)];exact f9.o z E
         ·obtain rfl:z=i+1:=E;have h1:=HX.o;have h2:=g2.o;simp only[bd1,aU7]at h2;rw[d9.o,bd0 rfl,h2];exact h1
        case measure=>simp[intOf];omega
       ·have u4:(o != 0)=true:=by simp[i6]
        have p8:=θ i6;clear i6;go_wp2;go_quiet ((go_at_call 94;exact g3.o _));have j1:Hid (RowsSt w (w6.drewN nq) k bn br qr gn g c1 c2 c3 (λi=>((C[i]?.getD 0:Nat):Int)) (λz=>if z=V then x else fn z) (sy I)):=a0.o.drewN nq;have m1:Hid ((w6.drewN nq).heap[bw]? =_):=c9.o;have l9:Hid ((w6.drewN nq).heap[bf]? =_):=c8.o;have i8:=θ (aW e9.o nq);clear g3 e1 e2 a0 c9 c8 e9;generalize w6.drewN nq=w7 at *;obtain⟨d1,d2,M,d4,d5,d6,d7,d8⟩:=j1.o.cells;have e1:=M (i+1) c4;rw[d9.o]at e1;have e2:=d4 V ha;rw[bd0 rfl]at e2;have e3:=d7 V;clear d1 d2 M d4 d5 d6 d7 d8;go_wp2;go_roundw;case rel=>
         have hc:Chg (λb=>b=gn) w7 (w7.setCell (gn,V) (x+1:Int)):=Chg.refl.setCell (S:=λb=>b=gn) (gn,V) (Ei rfl) _;refine⟨i+2,_,E,E,by go_num,j1.o.setNext V (x+1),hc.heap m1.o (λe=>k8 e),hc.heap l9.o (λe=>by have e:bf=gn:=e;omega),?_,i8.o.trans (hc.below (B:=w.heap.size) (λb h=>by rw[h];exact l2.1) i8.o.size)⟩;intro z hz;by_cases e:z<=i
         ·rw[bc9 (j7.o z e),bc9 (j7.o z e)];exact f9.o z E
         ·obtain rfl:z=i+1:=E;rw[d9.o,bd0 rfl,g2.o,bc9 p8.o];have :=HX.o;omega
        case measure=>simp[intOf];omega
      ·obtain rfl:j=k:=E;obtain⟨i,rfl⟩:∃i,j=i+1:=⟨j-1,E⟩;have l0:=s.swap;have hc:Chg (λb=>b=br) wr (wr.setCell br (.slice gn (i+1) c2)):=Chg.refl.setCell (S:=λb=>b=br) (br,0) (Ei rfl) _;have n9:br≠bw:=λe=>by
        have h1:=s.rb;rw[e,J]at h1;injection h1 with h1;injection h1 with h1 h2 _
        exact absurd h2 Ed
       have m2:=θ (hc.heap J (λe=>n9 e.symm));have f0:=θ (u.trans (hc.below (B:=w.heap.size) (λb h=>by rw[h];exact s.lo.2) u.size));have g4:=θ l0;have t4:=θ s.rows;have G:=i2.o i E;have hm:=a5 i E;have p6:=θ a5;have u2:=sI I d C i;have t6:=d8 0;obtain⟨f1,f2,f3,f4,f5,f6,f7,f8⟩:=l0.cells;have e1:=f3 i E;have e2:=f5 (C[i]?.getD 0) G;rw[hm]at e2;clear s J c0 a5 hc n9 l0 M d4 d5 d6 d7 d8 f3 f4 f5 f6 f7 f8 hm;generalize C[i]?.getD 0=rl at *;generalize o4:dJ I d C i=m at *;have HM:=θ o4;clear o4;by_cases h4:m=i
       ·have dm:((m:Int)==(i:Int))=true:=by simp[h4]
        have i0:=θ h4;clear h4;go_wp2;go_quiet (fail);go_wp2;go_ret;have G:=g1.out;refine⟨C,ad4 i1.o i3.o (by rw[G];show dJ I d C i=i;have :=HM.o;have :=i0.o;omega),_,rfl,?_,aW f0.o _⟩;rw[G,Am G];exact(g4.o.drewN nq).rows
       ·have dm:((m:Int)==(i:Int))=false:=by simp;omega
        have i0:=θ h4;clear h4;have u9:(0:Int)<=(d:Int):=E;have t3:(d:Int)<=1000001:=E;have q8:=bb8 _ bw 0 _ _ _ m2.o;simp only[aO7,List.getElem?_cons_zero]at q8;go_wp2;go_quiet (fail);go_wp2;go_roundw;case rel=>
         have G:=g1.out;have e8:=O.o;have a7:=i3.o;have o7:Nn (aA t):=(dE (pV hb)).nn;have k7:=Hz o7 i1.o a7 (by rw[G];show dJ I d C i≠i;have :=HM.o;have :=i0.o;omega);have o1:∀z,z<i+1->fn (C[z]?.getD 0)=(dJ I d C z:Int):=p6.o;have r2:RankOf (aA t) (d+d) ((List.range (i+1)).map fn):=by
          refine ac9 i1.o r4 o7 a7 (by simp[e8]) (λz hz=>?_);rw[Fm fn (i2.o z E)];exact o1 z E
         have hz:(wr.setCell br (.slice gn (i+1) c2)).heap.size=wr.heap.size:=by simp[World.setCell]
         have q0:=(g4.o.drewN nq).still (aB _ (.cells #[.int .i64 ((d:Int)*2)] 3));have z1:=(cH g4.o.rows (k:=qr) rfl).2;have z2:=(cH g4.o.next (k:=g) rfl).2;have z3:=(cH g4.o.rank (k:=gn) rfl).2;rw[hz]at z1 z2 z3;have a9:=bc6 ((wr.setCell br (.slice gn (i+1) c2)).drewN nq) (.cells #[.int .i64 ((d:Int)*2)] 3);have r3:((wr.setCell br (.slice gn (i+1) c2)).drewN nq).heap.size=wr.heap.size:=hz;rw[r3]at a9;have m8:=aW f0.o nq;refine⟨wr.heap.size,g,gn,c3,c2,d+d,(List.range (i+1)).map fn,_,C,rfl,rfl,?_,q0.congr (λ_ _=>rfl) (λ_ _=>rfl) (λz hz=>(Fm fn hz).symm),r2,e8▸a7.1,E,Ei E,?_,E,E,E,by have :=f0.o.size;omega,m8.alloc m8.size _⟩
         ·have e:((d+d:Nat):Int)=(d:Int)*2:=E;rw[a9,e]
         ·intro z hz;rw[Fm fn hz];obtain⟨y,hy,r9⟩:=aP1 (a7.1.mem_iff.2 (aR8.2 (show z<(aA t).length by omega)));have h1:=o1 y E;rw[cL hy,r9]at h1;have h2:=sI I d C y;omega
        case measure=>
         have hz:((wr.setCell br (.slice gn (i+1) c2)).drewN nq).heap.size=wr.heap.size:=by show (wr.setCell _ _).heap.size=_;simp[World.setCell]
         have a9:=bc6 ((wr.setCell br (.slice gn (i+1) c2)).drewN nq) (.cells #[.int .i64 ((d:Int)*2)] 3);rw[hz]at a9;have h2:sH _ (.pointer wr)=d*2:=Cd (k:= .i64) (bb8 _ wr 0 _ _ _ a9);rw[m4.o,h2];have k7:=Hz (dE (pV hb)).nn i1.o i3.o (by rw[g1.out];show dJ I d C i≠i;have :=HM.o;have :=i0.o;omega);have :=O.o;omega
def Xq(B:Nat)(w:World)(m:List Int)(e:Ending)(w':World):Prop:=∃v,e= .returned v/\w'.ownsRow B 3 1 v m.length (m.map (Value.int .i64))/\Below B w w'
def tB(B:Nat)(w:World)(t:List Int)(e:Ending)(w':World):Prop:=∃m,IsLast t m/\Xq B w m e w'
theorem ao4(n:Nat)(h:n<=1000000000)(w:World):(Instr.makeSlice 36 (.int .i64 0) (.int .i64 (n:Int))).run prog w= .ok (.slice w 0 n) (w.alloc (.cells (aI (λ_=> .int .i64 0) n).toArray 3)):=by
 obtain⟨i,e,b,c,a⟩:=bd2 Tryz.infoIntG;have d:=run_make (P:=prog) w 36 3 i (.int .i64 0) ba0 e b .i64 .i64 0 (n:Int) E E (by rw[a];omega) E;rw[d,c,aK5,aW5];show Result.ok (Value.slice _ (0:Int).toNat n) (w.alloc (.cells (madeCells #[.int .i64 0] n) 3))=_;rw[sO];rfl
theorem aD8{w:World}{q n a:Nat}{f:Nat->Value}{e:TypeId}(h:w.heap[q]? =some (.cells (aI f n).toArray e (0,0)))(b:a<=q)(c:n<=maxLen):w.ownsRow a e 1 (.slice q 0 n) 0 []:=
 ⟨rfl, .inr ⟨q,n,(aI f n).toArray,rfl,b,h,aY1 _,c,by simp[cW],Es⟩⟩
theorem Lf(a:Option Addr)(c:Nat)(t:List Int)(w:World)(hr:Reads w .u8 a t)(hb:oR t)(hl:t.length<=1000000):Calls prog 89 #[.slice a t.length c] w (tB w w t):=by
 have HR:=θ hr;have a6:(aA t).length=t.length+1:=aE t;have l:=θ a6;clear a6;go_in;go_wp2_with fail;have O:=aB w (.cells #[.slice a t.length c] 32);refine(Tf w 1 a c t _ Es Es (hr.below O) hb E).mono ?_;rintro e A ⟨v,rfl,d,a2⟩;obtain⟨B,d4,rfl,d2,Q,_,_,C,_⟩:=cS d E;have z:Below w w A:=O.trans (a2.mono Es);have b0:∀j,j<t.length+1->A.cell? (B,j)=some (.int .i64 (sy (aA t) j)):=by
  intro j D;rw[C j D];have e:t.map oO++[.int .i64 0]=(aA t).map (Value.int .i64):=by simp[aA,oO,Function.comp]
  rw[e,aO3,aO0 (by have :=l.o;omega),gK (by have :=l.o;omega)];rfl
 have M:Hid (∀W,Below A A W->∀j,j<t.length+1->W.cell? (B,j)=some (.int .i64 (sy (aA t) j))):=λW X j D=>(X.cell (p:=(B,j)) Q).trans (b0 j D);have G:=θ z;have d8:B<A:=Q;clear d C O a2 d2 Q b0 hr z;obtain⟨n,hn⟩:=Ey (t.length+1);have T:0<n:=E;have e1:n<=1000001:=E;have e0:=ao4 n E;rw[hn]at M l⊢;have HN:=θ hn;clear hn;go_wp2_with fail;have d:(A.alloc (.cells (aI (λ_=> .int .i64 0) n).toArray 3)).ownsRow w 3 1 (.slice A 0 n) 0 []:=aD8 (heap_alloc_new A _) G.o.size (by unfold maxLen;omega);have h:=G.o.alloc G.o.size (.cells (aI (λ_=> .int .i64 0) n).toArray 3);have J:Hid (∀W,Below (A.alloc (.cells (aI (λ_=> .int .i64 0) n).toArray 3)).heap.size (A.alloc (.cells (aI (λ_=> .int .i64 0) n).toArray 3)) W->∀j,j<n->W.cell? (B,j)=some (.int .i64 (sy (aA t) j))):=
  λW X=>M.o W ((aB A _).trans (X.mono Es))
 generalize A.alloc (.cells (aI (λ_=> .int .i64 0) n).toArray 3)=w2 at *;generalize A.heap.size=q0 at *;have HO:=θ d;have a0:=θ h;have d3:=h.size;have e2:q0<w2:=(cH d (k:=q0) rfl).2;have b1:Reads w2 .u8 a t:=by
  intro i hi;obtain⟨b,b3,V,h2,h3⟩:=HR.o i hi;exact⟨b,b3,V,E,λj D=>(h.cell (p:=(b,b3+j)) h2).trans (h3 j D)⟩
 clear d h;refine(My a c t w2 b1 hb hl).mono ?_;rintro e w3 ⟨r,I,v,rfl,d,s⟩;have U:r.length=n:=by rw[I.len];exact l.o
 rw[U]at d;obtain⟨N,d5,rfl,d6,K,_,_,a3,_⟩:=cS d T;have d7:=s.size;have c5:=θ (rG HO.o s (λk Y=>(cH HO.o Y).2));have b4:=θ (a0.o.trans (s.mono d3));have b5:Hid (∀W,Below w3 w3 W->∀j,j<n->W.cell? (N,j)=some (.int .i64 ((r[j]?.getD 0:Nat):Int))/\W.cell? ⟨B,(r[j]?.getD 0+n-1)%n,none⟩=some (.int .i64 (sy (aA t) ((r[j]?.getD 0+n-1)%n)))):=by
  intro W X j D;refine⟨(X.cell (p:=(N,j)) K).trans ?_,J.o W (s.trans (X.mono s.size)) _ (aW2 _ T)⟩;rw[a3 j D,aO3,aO0 E];rfl
 have c0:Hid (∀k,k<n->(aO (aA t) r)[k]? =some (sy (aA t) ((r[k]?.getD 0+n-1)%n))):=by
  intro k Y;have V:=l.o;unfold aO;rw[aO3,aO0 (show k<r.length by omega),V];simp
 have b9:Hid (IsLast t (aO (aA t) r)):=⟨pV hb,r,I,rfl⟩;have a7:(aO (aA t) r).length=n:=by rw[fX];exact U
 have a1:=θ a7;have L:∀k,k<n->r[k]?.getD 0<n:=by
  intro k Y;have V:k<r.length:=E;have h2:=I.lt V;have h3:=l.o;rw[cL V];omega
 have c9:=θ L;clear d s I a3 U a7 L M J HO b1 hb G a0;generalize aO (aA t) r=m at *;go_wp2;go_loopw [4,16] (λv i wr=>∃k:Nat,k<=n/\i= .int .i64 k/\wr.ownsRow w 3 1 v k ((m.take k).map (Value.int .i64))/\Below w w wr/\(∀q,v.ownBlock=some q->q≠N/\q≠B)/\N<wr/\B<wr/\∀j,j<n->wr.cell? (N,j)=some (.int .i64 ((r[j]?.getD 0:Nat):Int))/\wr.cell? ⟨B,(r[j]?.getD 0+n-1)%n,none⟩=some (.int .i64 (sy (aA t) ((r[j]?.getD 0+n-1)%n)))) (λ_ i _=>n-(intOf i).toNat);exact⟨0,Nat.zero_le _,rfl,by simpa using c5.o,b4.o,(λq hq=>by simp[Value.ownBlock]at hq;omega),K,E,b5.o w3 (aJ6 _ _)⟩;case round=>
  obtain⟨k,Y,rfl,d,z,a9,e6,e7,P⟩:=hrel;have hs:=z.size;by_cases R:k<n
  ·obtain⟨c1,c2⟩:=P k R;have b8:=θ P;have hx:=c9.o k R;have hm:=c0.o k R;have b2:m.take (k+1)=m.take k++[sy (aA t) ((r[k]?.getD 0+n-1)%n)]:=by
    rw[aT5,hm];rfl
   have d0:=θ b2;clear P b2 hm;generalize r[k]?.getD 0=x at *;generalize hu:(x+n-1)%n=u at *;have e4:(((x:Int)+(n:Int)-1)%(n:Int))=(u:Int):=by
    have e:((x+n-1:Nat):Int)=(x:Int)+(n:Int)-1:=E;rw[<-hu,<-e];rfl
   have e5:u<n:=by rw[<-hu];exact aW2 _ T
   have HU:=θ hu;clear hu;generalize sy (aA t) u=y at *;obtain⟨a4,c4,rfl,_,_⟩:=aD d;have HQ:=θ a9;have c7:=θ d;clear a9;go_wp2_with (at_builtin;refine qV rfl _ _ 36 rfl w 3 Tryz.infoIntG ba0 rfl _ _ _ rfl d rfl rfl ?c1 ?c2 ?c3 ?_);case c1=>unfold maxLen;omega
   case c2=>omega
   case c3=>omega
   intro g d1 Z F f a8 d9;have a5:Below w w Z:=z.grown f hs (λj D=>(c7.o.lt j D).1);have H:Chg (λb=>(Value.slice a4 k c4).ownBlock=some b) wr Z:=(Chg.refl (S:=λb=>(Value.slice a4 k c4).ownBlock=some b)).grown f (λk Y=>Ei Y);have c6:Hid (Z.ownsRow w 3 1 (.slice g (k+1) d1) (k+1) ((m.take (k+1)).map (Value.int .i64))):=by
    show Z.ownsRow _ _ _ _ _ _;rw[d0.o,aQ2,aQ8];exact F
   have b7:=θ a5;have b6:Hid (∀j,j<n->Z.cell? (N,j)=some (.int .i64 ((r[j]?.getD 0:Nat):Int))/\Z.cell? ⟨B,(r[j]?.getD 0+n-1)%n,none⟩=some (.int .i64 (sy (aA t) ((r[j]?.getD 0+n-1)%n)))):=by
    intro j D;obtain⟨k1,k2⟩:=b8.o j D;exact⟨H.cell k1 (λe=>(HQ.o _ e).1 rfl),H.cell k2 (λe=>(HQ.o _ e).2 rfl)⟩
   have c8:Hid (g≠N/\g≠B):=by
    rcases a8 with e | e
    ·exact HQ.o g e
    ·exact⟨E,E⟩
   have e3:=H.size;clear d F f a8 a5 H;go_wp2;go_roundw;exact⟨k+1,E,by go_num,c6.o,b7.o,(λq hq=>by simp[Value.ownBlock]at hq;rw[<-hq];exact c8.o),E,E,b6.o⟩;simp[intOf];omega
  ·obtain rfl:k=n:=E;rw[aT9 (by rw[a1.o];exact aV3 _)]at d;go_wp2;go_ret;exact⟨m,b9.o,_,rfl,by rw[a1.o];exact d,z⟩
theorem ae0(a b:Option Addr)(n k c d:Nat)(f g:List Int)(w:World)(A:Reads w .i64 a f)(B:Reads w .i64 b g)(z:n=f.length)(x:k=g.length)(F:f.length<=1000000000)(y:g.length<=1000000000):Calls prog 139 #[.slice a n c, .slice b k d] w λe h=>e= .returned (.bool (decide (f=g)))/\∃q,h=w.drewN q:=by
 subst z;subst x;have v:Calls prog 193 #[.slice a f.length c, .slice b g.length d] w λe h=>e= .returned (.bool (decide (f=g)))/\∃q,h=w.drewN q:=by
  by_cases u:f.length=0
  ·have t:f=[]:=aM7 u;subst t;refine(Tryz.slices_Equal_int_empty a b c g.length d w E).mono ?_;rintro e h ⟨rfl,rfl⟩;refine⟨dO ?_,0,rfl⟩;cases g<;>simp
  ·by_cases o:f.length=g.length
   ·obtain⟨p,C,rfl,_,i⟩:=A.some E;obtain⟨s,D,rfl,_,l⟩:=B.some E;refine(Tryz.slices_Equal_int p C f.length c s D g.length d f g w (aV3 _) (aV3 _) E E (λj m=>?_) (λj m=>?_)).mono ?_
    ·rw[i j m];simp
    ·rw[l j m];simp
    ·rintro e h ⟨rfl,q,rfl⟩;refine⟨dO ?_,q,rfl⟩;rw[aT8,aT8];by_cases e:f=g<;>simp[e]
   ·refine(Tryz.slices_Equal_int_lens a b f.length c g.length d w o).mono ?_;rintro e h ⟨rfl,rfl⟩;exact⟨dO (bc0 (λe=>o (by rw[e]))).symm,0,rfl⟩
 generalize decide (f=g)=r at *;go_enter func139,ntmps139;go_wp2_with (go_at_call 193;refine v.mono ?_;rintro e h ⟨rfl,q,rfl⟩);go_ret;exact⟨rfl,q,rfl⟩
theorem ag8{w:World}{a:Option Addr}{c j:Nat}{l:List Int}(P:Reads w .i64 a l)(O:j<l.length)(s:∀i (U:i<j),0<=l[i]'(E)/\l[i]'(E)<257)(t:¬(0<=l[j]/\l[j]<257))(K:l.length<=2147483648):Calls prog 136 #[.slice a l.length c] w λe w'=>e= .returned (.tuple #[.pointer none, .int .i64 1])/\Below w w w':=by
 have X:=tzero;have I:IsTally (w.alloc (.cells (tlV Tl.zero) 202)) w Tl.zero:=⟨Tl.zero_ok,bc6 w _⟩;generalize N:tlV Tl.zero=V at *;have L:=θ I;clear I N;go_in;go_wp2;go_loopw [12] (λi wr=>∃k:Nat,k<=j/\i= .int .i64 k/\IsTally wr w (Tl.of (l.take k))/\Below w w wr) (λi _=>l.length-(intOf i).toNat);exact⟨0,E,rfl,L.o,(aJ6 _ _).alloc (aV3 _) _⟩;case round=>
  obtain⟨k,W,rfl,u,m⟩:=hrel;have D:=m.size;have h:k<l.length:=E;obtain⟨b,F,rfl,z,d⟩:=P.some E;have C:=(m.cell (p:=(b,F+k)) z).trans (d k h);rw[aO0 h,aY3]at C;by_cases r:k<j
  ·have g:=s k r;have e:l.take (k+1)=l.take k++[((l[k].toNat:Nat):Int)]:=by
    rw[List.take_succ_eq_append_getElem h,aK6 g.1]
   have H:Tl.of (l.take (k+1))=(Tl.of (l.take k)).add l[k].toNat 1:=by rw[e,Tl.of_snoc]
   have M:=u.ok.pos l[k].toNat E;have J:(1:Int)<=2147483648-(Tl.of (l.take k)).all:=by
    show (1:Int)<=2147483648-((l.take k).length:Int);rw[aQ1];omega
   have f:=yA u g.1 g.2 (n:=1) E J;rw[<-H]at f;have q:=θ f;have G:=θ t;have S:=θ s;clear t s g;generalize l[k]=x at *;clear d e H M J f;go_wp2_with fail;refine q.o.mono ?_;rintro e R ⟨rfl,v,A⟩;have y:Below w w R:=m.trans (A.below (λb m=>by subst m;exact aV3 _) D);clear u;go_wp2;go_roundw;exact⟨k+1,E,Es,v,y⟩;simp[intOf];omega
  ·obtain rfl:k=j:=E;have G:=θ t;clear t s d;generalize l[k]=x at *;go_wp2_with fail;refine Cq (ay0 G.o) ?_;go_wp2;go_ret2;exact⟨rfl,m⟩
def Jo(B:Nat)(w:World)(m:List Int)(e:Ending)(w':World):Prop:=∃v ok,e= .returned (.tuple #[v, .bool ok])/\Below B w w'/\
 (ok=true->IsLast (eL m) m/\w'.ownsRow B 5 1 v (eL m).length ((eL m).map (Value.int .u8)))/\(ok=false->v= .slice none 0 0/\∀t,¬IsLast t m)
theorem pE{B:Nat}{w w':World}{m:List Int}(h:∀t,¬IsLast t m)(a:Below B w w'):Jo B w m (.returned (.tuple #[.slice none 0 0, .bool false])) w':=
 ⟨_,_,rfl,a,(λh=>by cases h),λ_=>⟨rfl,h⟩⟩
theorem aI5(w:World):(zeroValue 174).run prog w= .ok (.agg (aI (λ_=> .int .i64 0) 257).toArray) w:=Ek
structure BackSt (B:Nat) (w:World) (p qs qt Q n:Nat) (T:Tl) (fs ft ff:Nat->Int):Prop where
 tally:IsTally w p T
 seen:w.heap[qs]? =some (.cells (aI (λi=> .int .i64 (fs i)) n).toArray 3 (0,0))
 lead:w.heap[qt]? =some (.cells (aI (λi=> .int .i64 (ft i)) n).toArray 3 (0,0))
 first:w.heap[Q]? =some (.cells (aI (λi=> .int .i64 (ff i)) 257).toArray 174 (0,0))
 ne:qs≠qt/\qs≠Q/\qt≠Q/\p≠qs/\p≠qt/\p≠Q
 lo:B<=p/\B<=qs/\B<=qt/\B<=Q
section
variable {B:Nat}{w w':World}{p qs qt Q n:Nat}{T:Tl}{fs ft ff:Nat->Int}
theorem BackSt.chg (h:BackSt B w p qs qt Q n T fs ft ff){S:Nat->Prop}(a:Chg S w w')(b:¬S p)(c:¬S qs)(d:¬S qt)(e:¬S Q):BackSt B w' p qs qt Q n T fs ft ff:=
 ⟨h.tally.chg a b,a.heap h.seen c,a.heap h.lead d,a.heap h.first e,h.ne,h.lo⟩
theorem BackSt.still (h:BackSt B w p qs qt Q n T fs ft ff)(a:Below w w w'):BackSt B w' p qs qt Q n T fs ft ff:=h.chg (Chg.of_below (S:=λ_=>False) a) id id id id
theorem Ge{f:Nat->Int}{j n:Nat}{x:Int}{k:IntKind}:aI (λi=>if i=j then Value.int k x else Value.int k (f i)) n=aI (λi=>Value.int k (if i=j then x else f i)) n:=
 cY (λi _=>by split<;>rfl)
theorem BackSt.setSeen (h:BackSt B w p qs qt Q n T fs ft ff)(j:Nat)(x:Int):BackSt B (w.setCell (qs,j) x) p qs qt Q n T (λi=>if i=j then x else fs i) ft ff:=by
 have a:Chg (λb=>b=qs) w (w.setCell (qs,j) x):=Chg.refl.setCell (S:=λb=>b=qs) (qs,j) (Ei rfl) _;obtain⟨d,f,k,g,l,m⟩:=h.ne;have c:=pP (s:=j) h.seen x;rw[Ge]at c;exact⟨h.tally.chg a g,c,a.heap h.lead (λe=>d e.symm),a.heap h.first (λe=>f e.symm),h.ne,h.lo⟩
theorem BackSt.setTo (h:BackSt B w p qs qt Q n T fs ft ff)(j:Nat)(x:Int):BackSt B (w.setCell (qt,j) x) p qs qt Q n T fs (λi=>if i=j then x else ft i) ff:=by
 have a:Chg (λb=>b=qt) w (w.setCell (qt,j) x):=Chg.refl.setCell (S:=λb=>b=qt) (qt,j) (Ei rfl) _;obtain⟨d,k,f,l,g,m⟩:=h.ne;have c:=pP (s:=j) h.lead x;rw[Ge]at c;exact⟨h.tally.chg a g,a.heap h.seen d,c,a.heap h.first (λe=>f e.symm),h.ne,h.lo⟩
theorem BackSt.setFirst (h:BackSt B w p qs qt Q n T fs ft ff)(j:Nat)(x:Int):BackSt B (w.setCell (Q,j) x) p qs qt Q n T fs ft (λi=>if i=j then x else ff i):=by
 have a:Chg (λb=>b=Q) w (w.setCell (Q,j) x):=Chg.refl.setCell (S:=λb=>b=Q) (Q,j) (Ei rfl) _;obtain⟨g,d,e,k,l,f⟩:=h.ne;have c:=pP (s:=j) h.first x
 rw[Ge]at c;exact⟨h.tally.chg a f,a.heap h.seen d,a.heap h.lead e,c,h.ne,h.lo⟩
theorem BackSt.congr (h:BackSt B w p qs qt Q n T fs ft ff){fs' ft' ff':Nat->Int}(b:∀i,i<n->fs i=fs' i)(c:∀i,i<n->ft i=ft' i)(d:∀i,i<257->ff i=ff' i):BackSt B w p qs qt Q n T fs' ft' ff':=
 ⟨h.tally,by rw[cY (g:=λi=> .int .i64 (fs i)) (λi a=>by rw[b i a])];exact h.seen,by rw[cY (g:=λi=> .int .i64 (ft i)) (λi a=>by rw[c i a])];exact h.lead,by rw[cY (g:=λi=> .int .i64 (ff i)) (λi a=>by rw[d i a])];exact h.first,h.ne,h.lo⟩
theorem BackSt.cells (h:BackSt B w p qs qt Q n T fs ft ff):(∀j,j<n->w.cell? (qs,j)=some (.int .i64 (fs j)))/\(∀j,j<n->w.cell? (qt,j)=some (.int .i64 (ft j)))/\(∀j,j<257->w.cell? (Q,j)=some (.int .i64 (ff j)))/\(∀j,w.frozen? ⟨qs,j,none⟩=false)/\(∀j,w.frozen? ⟨qt,j,none⟩=false)/\(∀j,w.frozen? ⟨Q,j,none⟩=false):=
 ⟨λj a=>kJ h.seen a,λj a=>kJ h.lead a,λj a=>kJ h.first a,λj=>bc4 w qs j _ _ h.seen,λj=>bc4 w qt j _ _ h.lead,λj=>bc4 w Q j _ _ h.first⟩
end
theorem Tryz.infoU8:(prog.info? 5).map (λi=>(i.zero,i.size,i.bytes))=some (some (.int .u8 0),1,1):=Ek
theorem Uj(n:Nat)(h:n<=1000000000)(w:World):(Instr.makeSlice 32 (.int .i64 (n:Int)) (.int .i64 (n:Int))).run prog w= .ok (.slice w n n) (w.alloc (.cells (aI (λ_=> .int .u8 0) n).toArray 5)):=
 xS Tryz.infoU8 Tryz.underlying32 rfl n E (by unfold maxLen;omega) w
theorem aj8(a:Option Addr)(c:Nat)(m:List Int)(w:World)(hr:Reads w .i64 a m)(hl:m.length<=1000000):Calls prog 80 #[.slice a m.length c] w (Jo w w m):=by
 by_cases U:∀x∈m,0<=x/\x<257
 ·have b5:=θ U;have D:=Im (c:=c) hr U E;have I:=θ D;clear D U;go_in;go_wp2_with fail;refine I.o.mono ?_;rintro e w1 ⟨rfl,hT,a2⟩;have HT:=θ hT;have M:=θ a2;have l6:=a2.size;have l8:=hT.lt;have h9:tOf (Tl.of m) 0=(cnt m 0:Int):=rfl;have b0:=Tg hT 0;rw[h9]at b0;have a0:=θ b0;obtain⟨p,hp⟩:=Ey w.heap.size;rw[hp]at HT a0 l8⊢;have HP:=θ hp;clear hT a2 h9 b0 I hp;by_cases u:cnt m 0=1
  ·have n0:=θ u;rw[u]at a0;have e9:0<m.length:=by
    rcases aV0 m.length with e | e
    ·have G:m=[]:=aM7 e;rw[G]at u;cases u
    ·exact e
   clear u;go_upto_region 4 with (go_at_call 137;refine Cq a0.o ?_)
   have l5:=xE m.length E;obtain⟨b,b3,rfl,l0,h6⟩:=hr.some e9;have d8:Hid (∀W,Below w w W->∀j,j<m.length->W.cell? (b,b3+j)=some (.int .i64 (sy m j))):=by
    intro W hW j hj;rw[(hW.cell (p:=(b,b3+j)) l0).trans (h6 j hj),gK hj];simp[hj]
   have g0:Hid (Below w1 w1 w1.drew):=(aJ6 _ _).drew;clear h6 hr a0;go_cut [6,7] (λr6 r7 wx=>∃qs qt,r6= .slice (some ⟨qs,0,none⟩) m.length m.length/\r7= .slice (some ⟨qt,0,none⟩) m.length m.length/\wx.heap[qs]? =some (.cells (aI (λ_=> .int .i64 0) m.length).toArray 3 (0,0))/\
    wx.heap[qt]? =some (.cells (aI (λ_=> .int .i64 0) m.length).toArray 3 (0,0))/\qs≠qt/\w1.heap.size<=qs/\w1.heap.size<=qt/\Below w1 w1 wx)
   case first=>as_aux_lemma=>
    refine aG (λ_=>True) Ek trivial (λY=>?_);generalize w1.drew=x0 at *;refine bG (i:=0) (v:=?mv1) rfl Ek rfl Y ?my1 ?mr1;case my1=>(intro w g;(try dsimp only at g);go_simp;all_goals with_reducible rfl)
    try simp only[pt]
    refine bG (i:=1) (v:=?mv2) rfl Ek rfl Y ?my2 ?mr2;case my2=>(intro w g;(try dsimp only at g);go_simp;all_goals with_reducible rfl)
    try simp only[pt]
    refine bG (i:=3) (v:=?mv3) rfl Ek rfl Y ?my3 ?mr3;case my3=>(intro w g;(try dsimp only at g);go_simp;all_goals with_reducible rfl)
    try simp only[pt]
    refine bG (i:=4) (v:=?mv4) rfl Ek rfl Y ?my4 ?mr4;case my4=>(intro w g;(try dsimp only at g);go_simp;all_goals with_reducible rfl)
    try simp only[pt]
    refine be2 (rs:=[2,5]) Ek Es (iP rfl rfl (λK hK=>?_) (iP rfl rfl (λK hK=>?_) (aI9)))
    ·go_simp;obtain⟨x1,qs,C,L,M,d7,j6,m0,m1,m2⟩:=yS g0.o (.cells (aI (λ_=> .int .i64 0) m.length).toArray 3);rw[C,L];clear C L;refine hK.out _ _ trivial (λY=>?_);clear hK K;try simp only[pt]
     refine bG (i:=6) (v:=?mv5) rfl Ek rfl Y ?my5 ?mr5;case my5=>(intro w g;(try dsimp only at g);go_simp;all_goals with_reducible rfl)
     try simp only[pt]
     refine be2 (rs:=[5]) Ek Es (iP rfl rfl (λK hK=>?_) (aI9))
     ·go_simp;obtain⟨x2,qt,C,L,c9,Z,d0,m3,m4,m5⟩:=yS M.o (.cells (aI (λ_=> .int .i64 0) m.length).toArray 3);rw[C,L];clear C L;refine hK.out _ _ trivial (λY=>?_);clear hK K;try simp only[pt]
      refine bG (i:=7) (v:=?mv6) rfl Ek rfl Y ?my6 ?mr6;case my6=>(intro w g;(try dsimp only at g);go_simp;all_goals with_reducible rfl)
      try simp only[pt]
      refine rz ?_;go_wp2_with fail;go_meet;case rel=>exact⟨qs,qt,rfl,rfl,(d0.o (λ_=>False)).heap d7.o (λh=>h),(Chg.refl (S:=(λ_=>False))).heap Z.o (λh=>h),E,E,E,c9.o⟩
    ·go_simp;obtain⟨x1,qt,C,L,M,Z,j6,m0,m1,m2⟩:=yS g0.o (.cells (aI (λ_=> .int .i64 0) m.length).toArray 3);rw[C,L];clear C L;refine hK.out _ _ trivial (λY=>?_);clear hK K;try simp only[pt]
     refine be2 (rs:=[2]) Ek Es (iP rfl rfl (λK hK=>?_) (aI9))
     ·go_simp;obtain⟨x2,qs,C,L,c9,d7,d0,m3,m4,m5⟩:=yS M.o (.cells (aI (λ_=> .int .i64 0) m.length).toArray 3);rw[C,L];clear C L;refine hK.out _ _ trivial (λY=>?_);clear hK K;try simp only[pt]
      refine bG (i:=6) (v:=?mv7) rfl Ek rfl Y ?my7 ?mr7;case my7=>(intro w g;(try dsimp only at g);go_simp;all_goals with_reducible rfl)
      try simp only[pt]
      refine bG (i:=7) (v:=?mv8) rfl Ek rfl Y ?my8 ?mr8;case my8=>(intro w g;(try dsimp only at g);go_simp;all_goals with_reducible rfl)
      try simp only[pt]
      refine rz ?_;go_wp2_with fail;go_meet;case rel=>exact⟨qs,qt,rfl,rfl,(Chg.refl (S:=(λ_=>False))).heap d7.o (λh=>h),(d0.o (λ_=>False)).heap Z.o (λh=>h),E,E,E,c9.o⟩
   case rest=>as_aux_lemma=>
    obtain⟨qs,qt,rfl,rfl,f2,f3,f0,l2,l3,a4⟩:=hcut;have hz:=aI5;have d:BackSt w (wc.alloc (.cells (aI (λ_=> .int .i64 0) 257).toArray 174)) p qs qt wc m.length (Tl.of m) (λ_=>0) (λ_=>0) (λ_=>0):=by
     have N:=aB wc (.cells (aI (λ_=> .int .i64 0) 257).toArray 174);have z1:=(aJ2.1 f2).1;have z2:=(aJ2.1 f3).1;have z3:=a4.size;have z4:=HP.o;exact⟨(HT.o.chg (Chg.of_below (S:=λ_=>False) a4) id).chg (Chg.of_below (S:=λ_=>False) N) id,aT N f2,aT N f3,bc6 wc _,⟨f0,E,E,E,E,E⟩,⟨E,E,E,E⟩⟩
    have f:Below w w (wc.alloc (.cells (aI (λ_=> .int .i64 0) 257).toArray 174)):=(M.o.trans (a4.mono l6)).alloc (by have :=a4.size;omega) _;have g9:=θ d;have g3:=θ f;generalize hV:aI (λ_=>Value.int .i64 0) 257=V at *;clear f2 f3 f0 l2 l3 d f hV l5 HT;go_wp2_with fail;generalize wc.alloc (.cells V.toArray 174)=wa at *;generalize wc.heap.size=Q at *;go_loopw [35,9] (λf8 _ wr=>∃k:Nat,k<=257/\f8= .int .i64 k/\BackSt w wr p qs qt Q m.length (Tl.of m) (λ_=>0) (λ_=>0) (λs=>if s<k then (aN m (s:Int):Int)else 0)/\Below w w wr) (λf8 _ _=>257-(intOf f8).toNat);exact⟨0,E,rfl,g9.o.congr (λ_ _=>rfl) (λ_ _=>rfl) (λi _=>Es),g3.o⟩;case round=>
     clear a4 hz;obtain⟨k,hk,rfl,d,f⟩:=hrel;have hs:=f.size;by_cases A:k<257
     ·have a6:=Dz d.tally (k:Int);have h8:∀x∈m,0<=x:=λx C=>(b5.o x C).1;have e:cC (Tl.of m) (k:Int)=(aN m (k:Int):Int):=by
       rw[<-kM h8 k];unfold cC iM;congr 1;omega
      rw[e]at a6;have g2:=θ a6;obtain⟨_,_,d3,_,_,d6⟩:=d.cells;have e1:=d3 k A;have G:=d6 k;simp only[aV5,bc8]at e1;have l:=θ (d.setFirst k (aN m (k:Int):Int));have O:=d.lo.2.2.2;clear a6 e h8 d3 d6 d;generalize hy:(aN m (k:Int):Int)=y at *;have HY:=θ hy;clear hy;go_wp2_with (go_at_call 138;refine Cq g2.o ?_);go_roundw;case rel=>
       refine⟨k+1,E,by go_num,l.o.congr (λ_ _=>rfl) (λ_ _=>rfl) (λi _=>?_),dX f hs O _⟩;by_cases e:i=k
       ·subst e;rw[bd0 rfl,bd0 E];exact HY.o.symm
       ·rw[bc9 e];by_cases G:i<k
        ·rw[bd0 G,bd0 E]
        ·rw[bc9 G,bc9 E]
      case measure=>simp[intOf];omega
     ·obtain rfl:k=257:=E;rw[show ((257:Nat):Int)=257 from rfl];have l:=θ (d.congr (fs':=λ_=>0) (ft':=λi=>if i<0 then (lfL m i:Int)else 0) (ff':=λs=>((aN m (s:Int)+cnt (m.take 0) (s:Int):Nat):Int)) (λ_ _=>rfl) (λi _=>Es) (λi hi=>by rw[bd0 hi];simp[cnt]));have F:=θ f;clear d f hs hk A;go_wp2;go_loopw [46] (λf9 wr=>∃k:Nat,k<=m.length/\f9= .int .i64 k/\BackSt w wr p qs qt Q m.length (Tl.of m) (λ_=>0) (λi=>if i<k then (lfL m i:Int)else 0) (λs=>((aN m (s:Int)+cnt (m.take k) (s:Int):Nat):Int))/\Below w w wr) (λf9 _=>m.length-(intOf f9).toNat);exact⟨0,E,rfl,l.o,F.o⟩;case round=>
       clear l F;obtain⟨k,hk,rfl,d,f⟩:=hrel;have hs:=f.size;by_cases A:k<m.length
       ·have C:=b5.o m[k] (aP0 _);obtain⟨x,X⟩:=aK0 C.1;have f5:sy m k=(x:Int):=by rw[gK A,X]
        have e1:=d8.o wr f k A;rw[f5]at e1;have f6:x<257:=E;have e7:lfL m k=aN m (x:Int)+cnt (m.take k) (x:Int):=by unfold lfL;rw[f5]
        have m6:=Zm A;have i7:∀s:Nat,cnt (m.take (k+1)) (s:Int)=cnt (m.take k) (s:Int)+(if s=x then 1 else 0):=by
         intro s;rw[List.take_succ_eq_append_getElem A,Kk,X];by_cases e:s=x
         ·subst e;simp
         ·rw[bc9 e,bc9 E]
        obtain⟨_,d2,d3,_,d5,d6⟩:=d.cells;have G:=d2 k A;have e3:=d3 x f6;have e4:=d5 k;have e5:=d6 x;simp only[aV5,bc8]at G;rw[<-e7]at e3;have O:=d.lo;have f1:=d.ne.2.2.1;have c8:=(d.setTo k (lfL m k:Int)).setFirst x ((lfL m k:Int)+1);have J:=θ c8;have k6:=θ i7;have j8:=θ e7;clear C X f5 e7 i7 d2 d3 d5 d6 d c8;generalize hy:lfL m k=y at *;have HY:=θ hy;clear hy;go_wp2;go_roundw;case rel=>
         refine⟨k+1,E,by go_num,J.o.congr (λ_ _=>rfl) (λi _=>?_) (λi _=>?_),?_⟩
         ·by_cases e:i=k
          ·subst e;rw[bd0 rfl,bd0 E,HY.o]
          ·rw[bc9 e];by_cases G:i<k
           ·rw[bd0 G,bd0 E]
           ·rw[bc9 G,bc9 E]
         ·have u:=k6.o i;by_cases e:i=x
          ·subst e;rw[bd0 rfl]at u⊢;have :=j8.o;omega
          ·rw[bc9 e]at u⊢;rw[u];rfl
         ·exact dX (dX f hs O.2.2.1 _) (by simp[World.setCell];exact hs) O.2.2.2 _
        case measure=>simp[intOf];omega
       ·obtain rfl:k=m.length:=E;have l:=θ (d.congr (fs':=λi=>(iE m 0 i:Int)) (ft':=λi=>(lfL m i:Int)) (ff':=λs=>((aN m (s:Int)+cnt (m.take m.length) (s:Int):Nat):Int)) (λi _=>by simp[iE]) (λi hi=>by rw[bd0 hi]) (λ_ _=>rfl));have F:=θ f;obtain⟨n,hn⟩:∃n,m.length=n+1:=⟨m.length-1,E⟩;have h7:=Uj n E;have n1:(n:Int)<=1000000:=E;have HN:=θ hn;clear d f hs hk A;have a1:((m.length:Nat):Int)=(n:Int)+1:=by have :=HN.o;omega
        have m9:=θ a1;rw[show (n:Int)=(m.length:Int)-1 by omega]at h7;clear a1 hn;go_wp2_with fail;clear h7;have J:=θ (l.o.still (aB wr (.cells (aI (λ_=> .int .u8 0) n).toArray 5)));have L:=bc6 wr (.cells (aI (λ_=> .int .u8 0) n).toArray 5);have c1:=θ (F.o.alloc F.o.size (.cells (aI (λ_=> .int .u8 0) n).toArray 5));have f4:qs<wr.heap.size/\qt<wr.heap.size/\Q<wr/\p<wr/\w<=wr.heap.size:=
         ⟨(aJ2.1 l.o.seen).1,(aJ2.1 l.o.lead).1,(aJ2.1 l.o.first).1,l.o.tally.lt,F.o.size⟩
        generalize wr.alloc (.cells (aI (λ_=> .int .u8 0) n).toArray 5)=wb at *;generalize wr.heap.size=qx at *;have HQ:=θ L;have g8:=θ f4;clear L f4 l F;go_loopw [13,14] (λl9 f7 wr=>∃r:Nat,r<=n/\f7= .int .i64 ((r:Int)-1)/\l9= .int .i64 (bU m (n-r):Int)/\BackSt w wr p qs qt Q m.length (Tl.of m) (λi=>(iE m (n-r) i:Int)) (λi=>(lfL m i:Int)) (λs=>((aN m (s:Int)+cnt (m.take m.length) (s:Int):Nat):Int))/\
         wr.heap[qx]? =some (.cells (aI (λi=> .int .u8 (if r<=i then (eL m)[i]?.getD 0 else 0)) n).toArray 5 (0,0))/\(∀j,j<n-r->1<=sy m (bU m j))/\Below w w wr) (λ_ f7 _=>(intOf f7+1).toNat)
        case atStart=>
         refine⟨n,aV3 _,?_,?_,?_,?_,?_,c1.o⟩
         ·rfl
         ·rw[aW9];rfl
         ·rw[aW9];exact J.o
         ·rw[HQ.o,cY (λi hi=>?_)];rw[bc9 E]
         ·intro j hj;omega
        case round=>
         clear J HQ c1;obtain⟨r,n3,rfl,rfl,d,R,b7,f⟩:=hrel;have hs:=f.size;have b8:=Ad e9 (n-r);have e1:=d8.o wr f (bU m (n-r)) b8;have j1:=b5.o (sy m (bU m (n-r))) (by rw[gK b8];exact aP0 _);have l:=θ d;have j5:=θ b7;have k2:=θ R;have hn:=HN.o;rcases aV0 r with rfl | n2
         ·rw[aX0]at *;have i3:sy m (bU m n)=0\/∀t,¬IsLast t m:=by
           by_cases e:sy m (bU m n)=0
           ·exact Ei e
           ·refine Ej (λt h=>e ?_);have u:=h.len;have h2:=h.stop;rwa[show t.length=n by omega]at h2
          have i8:(eL m).length=n:=by rw[Eg];omega
          have b1:wr.ownsRow w 5 1 (.slice qx n n) n ((eL m).map (Value.int .u8)):=by
           have e:(eL m).map (Value.int .u8)=aI (λi=> .int .u8 (if 0<=i then (eL m)[i]?.getD 0 else 0)) n:=by
            apply aM9;intro z;by_cases hz:z<n
            ·rw[dP hz,aO3,aO0 E];simp
            ·rw[aO1 (by simp;omega),aO1 (by rw[cW];omega)]
           rw[e];exact tT R (by have :=g8.o;omega) (by unfold maxLen;omega)
          have c4:oR (eL m):=by
           intro z hz;have l7:z<m.length-1:=E;rw[vL l7,aY3];have u:=b7 (m.length-2-z) E;have h2:=Ad e9 (m.length-2-z);have h3:=b5.o (sy m (bU m (m.length-2-z))) (by rw[gK h2];exact aP0 _);omega
          have i1:Reads wr .u8 (some (qx,0)) (eL m):=by
           have u:=cB b1;exact u
          have k4:=θ i3;have b6:=θ i8;have c3:=θ b1;have g4:=θ c4;have k3:=θ i1;clear hn i3 i8 b1 c4 i1 R b7 d j1;generalize a8:bU m n=ρ at *;have g5:=θ a8;clear a8;generalize C:sy m ρ=x at *;have HX:=θ C;clear C;by_cases c0:x=0
          ·subst c0;have e0:=Lf (some (qx,0)) n (eL m) wr k3.o g4.o (by have :=b6.o;omega);rw[b6.o]at e0;have j7:=θ e0;clear e0;go_wp2_with fail;refine j7.o.mono ?_;rintro e w5 ⟨m',e8,v,rfl,H,a3⟩;obtain⟨a5,c5,rfl,_,_⟩:=aD H;have i0:=cB H;have i2:Reads w5 .i64 (some (b,b3)) m:=by
            intro z hz;refine⟨b,b3,rfl,by have :=a3.size;omega,λj hj=>?_⟩;rw[d8.o w5 (f.trans (a3.mono hs)) j hj,gK hj,aO0 hj];rfl
           have l4:m'.length=m.length:=by rw[e8.len,b6.o,HN.o]
           have b2:=ae0 a5 (some (b,b3)) m'.length m.length c5 c m' m w5 i0 i2 rfl rfl E E;have d9:=θ b2;have g6:=θ e8;have g1:=θ (f.trans (a3.mono hs));have Z:=θ (rG c3.o a3 (λk hk=>(cH c3.o hk).2));clear H i0 i2 l4 b2 e8 a3;go_wp2_with fail;refine d9.o.mono ?_;rintro e w6 ⟨rfl,nd,rfl⟩;by_cases P:m'=m
           ·have dd:decide (m'=m)=true:=bc2 P;rw[dd];have j9:=θ P;clear P dd;go_wp2;go_ret2;refine⟨_,_,rfl,aW g1.o nd,λ_=>⟨?_,?_⟩,λh=>by cases h⟩
            ·have :=g6.out;rwa[j9.o]at this
            ·rw[b6.o];exact Z.o
           ·have dd:decide (m'=m)=false:=bc0 P;rw[dd];have q:Hid (∀t,¬IsLast t m):=λt h=>P (by
             have e:=h.text
             subst e
             exact g6.out.same h)
            clear P dd;go_wp2;go_ret2;exact pE q.o (aW g1.o nd)
          ·have d1:(x != 0)=true:=by simp[c0]
           have q:Hid (∀t,¬IsLast t m):=(k4.o).resolve_left c0;clear c0;go_wp2;go_ret2;exact pE q.o f
         ·obtain⟨i,rfl⟩:∃i,r=i+1:=⟨r-1,E⟩;have a9:lfL m (bU m (n-(i+1)))=bU m (n-i):=by
           rw[show n-i=(n-(i+1))+1 by omega];rfl
          have i9:(eL m)[i]?.getD 0=sy m (bU m (n-(i+1)))-1:=by
           rw[vL E,aY3,show m.length-2-i=n-(i+1) by omega]
          have c6:sy m (bU m (n-(i+1)))=0->∀t,¬IsLast t m:=λe t h=>by
           have u:=h.len;have h2:=h.sym (k:=n-(i+1)) E;rw[e]at h2;have h3:=h.1 _ (aP0 (show t.length-1-(n-(i+1))<t.length by omega));omega
          have c7:0<iE m (n-(i+1)) (bU m (n-(i+1)))->∀t,¬IsLast t m:=λe t h=>by
           obtain⟨y,hy,he⟩:=ae2 e;have u:=h.len;exact h.ne (j:=y) (k:=n-(i+1)) E E E he
          have i4:=at3 m (n-(i+1)) (bU m (n-(i+1)));obtain⟨d1,d2,_,d4,_,_⟩:=d.cells;have G:=d1 (bU m (n-(i+1))) b8;have e3:=d2 (bU m (n-(i+1))) b8;have e4:=d4 (bU m (n-(i+1)));have e5:=kJ R (show i<n by omega);rw[bc9 E]at e5;have e6:wr.frozen? (qx,i)=false:=bc4 wr qx i _ _ R;rw[a9]at e3;have i5:∀z,iE m (n-i) z=iE m (n-(i+1)) z+(if bU m (n-(i+1))=z then 1 else 0):=λz=>by
           rw[show n-i=(n-(i+1))+1 by omega,Vz]
          have k5:=θ i5;have k7:=θ i9;have g7:=θ c6;have c2:=θ c7;have f4:=g8.o;have O:=d.lo;clear hn a9 i9 c6 c7 i5 d1 d2 d4 d R b7;generalize a8:bU m (n-(i+1))=ρ at *;generalize i6:iE m (n-(i+1)) ρ=sv at *;generalize X:sy m ρ=x at *;generalize j2:bU m (n-i)=ζ at *;have g5:=θ a8;have h4:=θ i6;have k8:=θ X;have k9:=θ j2;clear a8 i6 X j2;by_cases j0:1<=x
          ·have a7:=λw=>zR x w j0 j1.2;have b4:=θ a7;clear a7;by_cases b9:sv=0
           ·rw[b9,show ((0:Nat):Int)=0 from rfl]at G;rw[b9]at h4;clear c2 i4 b9;have N:BackSt w ((wr.setCell (qs,ρ) (.int .i64 1)).setCell (qx,i) (.int .u8 (x-1))) p qs qt Q m.length (Tl.of m) (λz=>(iE m (n-i) z:Int)) (λi=>(lfL m i:Int)) (λs=>((aN m (s:Int)+cnt (m.take m.length) (s:Int):Nat):Int)):=by
             have u:=l.o.setSeen ρ 1;have h2:=u.chg (Chg.refl.setCell (S:=λb=>b=qx) (qx,i) (Ei rfl) (.int .u8 (x-1))) (λe=>by have e:p=qx:=e;omega) (λe=>by have e:qs=qx:=e;omega) (λe=>by have e:qt=qx:=e;omega) (λe=>by have e:Q=qx:=e;omega);refine h2.congr (λz _=>?_) (λ_ _=>rfl) (λ_ _=>rfl);rw[k5.o z];by_cases e:z=ρ
             ·subst e;rw[bd0 rfl,bd0 rfl,h4.o];rfl
             ·rw[bc9 e,bc9 (λh=>e h.symm)];rfl
            have f1:((wr.setCell (qs,ρ) (.int .i64 1)).setCell (qx,i) (.int .u8 (x-1))).heap[qx]? =some (.cells (aI (λz=> .int .u8 (if i<=z then (eL m)[z]?.getD 0 else 0)) n).toArray 5 (0,0)):=by
             have h0:=(Chg.refl.setCell (S:=λb=>b=qs) (w:=wr) (qs,ρ) (Ei rfl) (.int .i64 1)).heap k2.o (λe=>by have e:qx=qs:=e;omega);rw[pP h0,cY];intro z hz;by_cases e:z=i
             ·subst e;rw[bd0 rfl,bd0 (aV3 _),k7.o]
             ·rw[bc9 e];by_cases G:i<=z
              ·rw[bd0 G,bd0 E]
              ·rw[bc9 G,bc9 E]
            have h5:Below w w ((wr.setCell (qs,ρ) (.int .i64 1)).setCell (qx,i) (.int .u8 (x-1))):=dX (dX f hs O.2.1 _) (by simp[World.setCell];exact hs) E _;have j3:=θ N;have k1:=θ f1;have j4:=θ h5;have f0:qx≠qs:=E;have m7:qt≠qs:=λe=>l.o.ne.1 e.symm;have m8:qt≠qx:=E;clear N f1 h5;go_wp2_with (go_at_call 58;refine Cq (b4.o _) ?_);go_roundw;case rel=>
             refine⟨i,E,by go_num,by rw[k9.o],j3.o,k1.o,λj hj=>?_,j4.o⟩;by_cases e:j<n-(i+1)
             ·exact j5.o j e
             ·obtain rfl:j=n-(i+1):=E;rw[g5.o,k8.o];exact j0
            case measure=>simp[intOf]
           ·have d1:decide (0<sv)=true:=by simp;omega
            have d2:0<sv:=E;have q:Hid (∀t,¬IsLast t m):=c2.o E;clear b9;go_wp2_with (go_at_call 58;refine Cq (b4.o _) ?_);go_ret2;exact pE q.o f
          ·have a7:=λw=>Ws x w E;have b4:=θ a7;have q:Hid (∀t,¬IsLast t m):=g7.o E;clear a7;go_wp2_with (go_at_call 58;refine Cq (b4.o _) ?_);go_ret2;exact pE q.o f
  ·have d1:((cnt m 0:Int) != 1)=true:=by rw[bne_iff_ne];omega
   have q:Hid (∀t,¬IsLast t m):=λt h=>u h.zero;clear u;generalize (cnt m 0:Int)=z at *;go_wp2_with (go_at_call 137;refine Cq a0.o ?_);go_ret2;exact pE q.o M.o
 ·have q:Hid (∀t,¬IsLast t m):=λt h=>U h.range;obtain⟨k0,l1,u,h2⟩:=Gy U;have D:=ag8 (c:=c) hr l1 u h2 E;have I:=θ D;clear D u h2 U;go_in;go_wp2_with fail;refine I.o.mono ?_;rintro e w1 ⟨rfl,a2⟩;go_wp2;go_ret2;exact pE q.o a2
theorem aq5{w:World}{b:Nat}{e:TypeId}{v:Value}{n:Nat}{l:List Value}(h:w.ownsRow b e 1 v n l)(p:0<n):∃g a,v= .slice (some ⟨g,0,none⟩) n a/\w.ownsRow b e 1 (.slice g 0 a) 0 []:=by
 rcases h.2 with ⟨_,m⟩ | ⟨g,a,c,k,d,f,o,i,j,q⟩
 ·omega
 ·exact⟨g,a,k,rfl, .inr ⟨g,a,c,rfl,d,f,aY1 _,i,j,Es⟩⟩
theorem al6(n:Nat)(v:n<=1000000)(w:World):Calls prog 87 #[.slice none 0 0,n] w (pR w w []):=by
 have l:decide ((n:Int)<0)=false:=bc0 E;rcases aV0 n with rfl | u
 ·have e:((0:Nat):Int)=0:=rfl;rw[e]at l⊢;go_in;go_wp2;go_ret;exact⟨_,rfl,bb2 _ _ _ _,aJ6 _ _⟩
 ·have s:decide ((0:Int)<(n:Int))=true:=bc2 E;have p:∀w:World,(Instr.slice 32 (.slice none 0 0) none (some (.int .i64 0)) none).run prog w= .ok (.slice none 0 0) w:=λw=>by
   have :=jR (P:=prog) (w:=w) (t:=32) (a:=none) (len:=0) (cap:=0) (k:=0) aZ9 Ek E;exact this
  go_in;go_wp2_with (at_builtin;refine Gg rfl _ _ 32 3 rfl w 5 Tryz.infoU8 aZ9 aZ8 rfl rfl _ 0 [] rfl (bb2 _ _ _ _) n rfl E (aV3 _) ?_);intro x r b d;obtain⟨g,c,rfl,h⟩:=aq5 b E;have f:Below w w r:=(aJ6 _ _).grown d (aV3 _) (λk m=>by simp[Value.ownBlock]at m);have j:=θ h;have i:=θ f;have q:∀w:World,(Instr.slice 32 (.slice g (0+n) c) none (some (.int .i64 0)) none).run prog w= .ok (.slice g 0 c) w:=λw=>by
   have :=jR (P:=prog) (w:=w) (t:=32) (a:=some ⟨g,0,none⟩) (len:=0+n) (cap:=c) (k:=0) aZ9 Ek E;exact this
  clear b d h f;go_wp2;go_ret;exact⟨_,rfl,j.o,i.o⟩
def bC(ps:List Row):List Int:=ps.flatMap (·.l)
def mJ(r:Row):Value:= .slice r.a r.l.length r.cap
theorem Yd(a:List Row)(r:Row):bC (a++[r])=bC a++r.l:=by unfold bC;simp
theorem Gm{a:List Row}{k:Nat}{r:Row}(h:a[k]? =some r):bC (a.take (k+1))=bC (a.take k)++r.l:=by
 rw[aT5,h];exact Yd _ _
theorem Ro{ps:List Row}(k:Nat):(bC (ps.take k)).length<=(bC ps).length:=by
 unfold bC;have :ps=ps.take k++ps.drop k:=(aT6 k ps).symm;conv=>rhs;rw[this,aN2,aP3]
 omega
theorem oT(pa:Option Addr)(pc:Nat)(c:List Row)(w:World)(Z:ReadsV w pa (c.map mJ))(hr:∀r∈c,Reads w .u8 r.a r.l/\(r.a=none->r.l.length=0/\r.cap=0))(hl:(bC c).length<=1000000)(hk:c.length<=1000000):Calls prog 46 #[.slice pa c.length pc] w (pR w w (bC c)):=by
 have Y:=θ Z;have HR:=θ hr;clear Z hr;go_in;go_wp2;go_loopw [3,11] (λs i N=>∃k:Nat,k<=c.length/\i= .int .i64 k/\s= .int .i64 ((bC (c.take k)).length:Nat)/\∃m,N=w.drewN m) (λ_ i _=>c.length-(intOf i).toNat);exact⟨0,aY1 _,rfl,rfl,0,rfl⟩;as_aux_lemma=>
  obtain⟨k,S,rfl,rfl,m,D⟩:=hrel;have G:=θ D;clear D;by_cases u:k<c.length
  ·have g:=aO0 u;obtain⟨b,y,rfl,J,d⟩:=Y.o.some (by rw[aP7];omega);have R:wr.cell? (b,y+k)=some (mJ c[k]):=by
    have :=d k (mJ c[k]) (by rw[aO3,g];rfl);rw[G.o];exact this
   have h:=Gm g;have B:=Ro (ps:=c) (k+1);generalize c[k]=r at *;have n:(bC (c.take (k+1))).length=(bC (c.take k)).length+r.l.length:=by rw[h,aP3]
   have t:=θ n;obtain⟨n0,M⟩:=Ey ((bC (c.take k)).length);rw[M]at n⊢;have V:n0+r.l.length<=1000000:=E;have U:(0:Int)<=(k:Int):=E;have L:(k:Int)<(c.length:Int):=E;unfold mJ at R;have T:k<=1000000:=E;have d2:decide ((n0:Int)+(r.l.length:Int)<0)=false:=bc0 E;clear g d h B n;go_wp2;go_roundw;exact⟨k+1,E,by first | rfl | go_num,by rw[t.o,M];first | rfl | go_num,m,G.o⟩;simp[intOf];omega
  ·obtain rfl:k=c.length:=E;rw[aT8];have X:=θ (al6 (bC c).length hl wr);clear u;go_wp2_with fail;refine X.o.mono ?_;rintro e w1 ⟨v1,rfl,q,I⟩;have A:Below w w w1:=by
    have D:=G.o;subst D;exact(bb5 (aJ6 _ _) m).trans I
   have f:Hid (w1.ownsRow w 5 1 v1 0 []):=θ (by have D:=G.o;subst D;exact q);have z:=θ A;clear q I A X G;go_wp2;go_loopw [6,27] (λv i N=>∃k:Nat,k<=c.length/\i= .int .i64 k/\N.ownsRow w 5 1 v (bC (c.take k)).length ((bC (c.take k)).map (Value.int .u8))/\Below w w N) (λ_ i _=>c.length-(intOf i).toNat);exact⟨0,aY1 _,rfl,f.o,z.o⟩;as_aux_lemma=>
    clear f z;obtain⟨k,S,rfl,q,A⟩:=hrel;have z:=θ A;have f:=θ q;by_cases u:k<c.length
    ·have g:=aO0 u;obtain⟨b,y,rfl,J,d⟩:=Y.o.some (by rw[aP7];omega);have R:wr.cell? (b,y+k)=some (mJ c[k]):=by
      have :=d k (mJ c[k]) (by rw[aO3,g];rfl);exact(A.cell (p:=(b,y+k)) J).trans this
     have h:=Gm g;have B:=Ro (ps:=c) (k+1);have C:=HR.o c[k] (aP0 u);generalize c[k]=r at *;have n:(bC (c.take (k+1))).length=(bC (c.take k)).length+r.l.length:=by rw[h,aP3]
     have t:=θ n;have F:=θ h;have V:(bC (c.take k)).length+r.l.length<=1000000:=E;have Q:Hid (ReadsV wr r.a (r.l.map (Value.int .u8))):=θ (as2 (Reads.below C.1 A));have H:=θ C.2;have U:(0:Int)<=(k:Int):=E;have L:(k:Int)<(c.length:Int):=E;unfold mJ at R;have T:k<=1000000:=E;clear g d h B n C q A;go_wp2_with (at_builtin;refine dT rfl _ _ 32 rfl w 5 Tryz.infoU8 Tryz.underlying32 rfl _ _ _ rfl f.o r.a r.l.length r.cap (r.l.map (Value.int .u8)) rfl Es H.o Q.o.hnews (tR .u8 _) (by unfold maxLen;omega) E z.o.size ?_);intro a' c' w3 x K W;have P:Hid (w3.ownsRow w 5 1 (.slice a' ((bC (c.take k)).length+r.l.length) c') (bC (c.take (k+1))).length ((bC (c.take (k+1))).map (Value.int .u8))):=θ (by rw[t.o,F.o,aQ2];exact x);have O:Hid (Below w w w3):=θ (z.o.grown K z.o.size (λj hj=>(f.o.lt j hj).1));clear x K W;go_wp2;go_roundw;exact⟨k+1,E,by first | rfl | go_num,P.o,O.o⟩;simp[intOf];omega
    ·obtain rfl:k=c.length:=E;rw[aT8]at f;clear q;go_wp2;go_ret;exact⟨_,rfl,f.o,z.o⟩
theorem ao9(l:List Nat):(xG l).map (Value.int .u64)=l.map λn:Nat=>Value.int .u64 (n:Int):=by unfold xG;rw[aQ6];rfl
theorem Vp{w:World}{b:Nat}{l:List Nat}{T:TypeId}(h:w.heap[b]? =some (.cells (l.map λn:Nat=>Value.int .u64 (n:Int)).toArray T (0,0))):Reads w .u64 (some (b,0)) (xG l):=by
 intro i c;refine⟨b,0,rfl,(aJ2.1 h).1,λj a=>?_⟩;rw[aY0,bb8 w b j _ _ _ h,aO7,<-ao9,aO3,aO0 a];rfl
theorem lN(l:List Nat)(d:∀n∈l,n<2^64)(c:l.length<=10000)(w:World)(T:TypeId):Calls prog 67 #[.slice w l.length l.length] (w.alloc (.cells (l.map λn:Nat=>Value.int .u64 (n:Int)).toArray T)) (pR w w (cK l)):=by
 have h:=Uo (some (w,0)) l.length l (w.alloc (.cells (l.map λn:Nat=>Value.int .u64 (n:Int)).toArray T)) (Vp (bc6 w _)) d c;refine h.mono ?_;rintro e f ⟨v,rfl,b,a⟩;rw[bb3]at b a;exact⟨v,rfl,gG b E,(aB w _).trans (a.mono E)⟩
def GivesC(B:Nat)(w:World)(m:List Int)(e:Ending)(w':World):Prop:=∃a c,e= .returned (.tuple #[.slice a m.length c, .int .i64 0])/\w'.ownsRow B 5 1 (.slice a m.length c) m.length (m.map (Value.int .u8))/\Below B w w'
theorem Vv{l:List Int}(pa:Option Addr)(pc:Nat)(w:World)(hp:Reads w .i64 pa l)(hl:∀x∈l,0<=x/\x<257)(a1:l.length<=10000):Calls prog 65 #[.slice pa l.length pc] w (GivesC w w (bR l)):=by
 have HO:=θ (ad6 pa pc w hp E);have d:=fY l;have b2:=fZ l;have HK:Hid (∀r∈aU l,∃x:Nat,r.1=x/\x<257/\r.2<=10000):=θ (λr h=>by
  have h1:=hl r.1 (by have :=kZ h (d.pos r h);rwa[d.un]at this)
  exact⟨r.1.toNat,E,E,aV4 (gX h) a1⟩)
 have HE:Hid (bR l=aK (aU l).length++bL (aU l)):=θ rfl;generalize aU l=R at *;clear hp hl d;have hR:R.length<2^64:=E;go_in;go_wp2_with fail;refine HO.o.mono ?_;rintro e t ⟨v,rfl,a,c⟩;obtain⟨a4,c4,rfl,B,K⟩:=aD a;have Q:=θ (And.intro a (And.intro c K));have b5:((R.length:Nat):Int)%18446744073709551616=R.length:=E;clear a c B K;have A:=θ (lN [R.length] (by simpa using hR) Es t 69);rw[show cK [R.length]=aK R.length by simp[cK]]at A;go_wp2_with fail;refine A.o.mono ?_;rintro e w2 ⟨v,rfl,a,c⟩;have HV:=θ (And.intro a c);clear a c A;go_wp2;go_loopw [5,7,17] (λv _ i wx=>∃k:Nat,k<=R.length/\i= .int .i64 k/\wx.ownsRow t 5 1 v (aK R.length++bL (R.take k)).length ((aK R.length++bL (R.take k)).map (Value.int .u8))/\Below t t wx) (λ_ _ i _=>R.length-(intOf i).toNat);exact⟨0,aY1 _,rfl,by rw[aU2,show bL []=[]from rfl,aL2];exact HV.o.1,HV.o.2⟩;as_aux_lemma=>
  obtain⟨k,hk,rfl,a,c⟩:=hrel;have a2:=c.size;by_cases a0:k<R.length
  ·obtain⟨⟨s,n⟩,h⟩:∃r,R[k]? =some r:=⟨_,aO0 a0⟩;obtain⟨x,rfl,hx,hn⟩:=HK.o _ (aR5 h);have HT:=θ (xQ h);have a7:(bL (R.take k)).length<=200000:=by
    have :=pO (R:=R.take k) (λr h=>by obtain⟨y,e1,e2,e3⟩:=HK.o r (aR7 h);omega);rw[aQ1]at this;omega
   have P:=cD hR;have b4:(aK R.length).length<=10:=by rw[aQ];omega
   obtain⟨g,b0,hv,b1,J,_,_,b,_⟩:=rH (Q.o.1) E;obtain⟨rfl,-,rfl⟩:=Value.slice.inj hv;have c0:=(c.cell (p:=(g,k*2)) J).trans (b _ _ (qM h).1);have c1:=(c.cell (p:=(g,k*2+1)) J).trans (b _ _ (qM h).2);have M:eA (x:Int)=true:=dD E E;have S:Hid (∀w,Calls prog 122 #[(x:Int)] w λe w'=>e= .returned (.bool true)/\w=w'):=λw=>by rw[<-M];exact cM _ w
   have a9:(x:Int)%18446744073709551616=x:=E;have a8:(n:Int)%18446744073709551616=n:=E;have N:(cK [x,n]).length<=20:=yV (by intro m hm;simp at hm;omega);have F:Hid (∀w T,Calls prog 67 #[.slice (some ⟨w.heap.size,0,none⟩) 2 2] (w.alloc (.cells #[.int .u64 x, .int .u64 n] T)) (pR w.heap.size w (cK [x,n]))):=θ (λw T=>lN [x,n] (by intro m hm;simp at hm;omega) Es w T);rw[show cK [x,n]=aK x++aK n by simp[cK]]at F N;simp only[aK5]at HT;generalize aK x++aK n=z at *;have HB:=θ c;have D:=θ a;clear c a h b M P hv;go_wp2_with (go_at_call 122;refine Cq (S.o _) ?_);have Y:=F.o (wr.alloc (.cells #[x,n] 167)) 69;rw[bb3]at Y;refine Y.mono ?_;clear Y;rintro e w3 ⟨v3,rfl,C,G⟩;have q:Below wr wr w3:=(aB wr _).trans (G.mono E);have b6:=q.size;have W:=θ (fE D.o q);have u:=θ (HB.o.trans (q.mono a2));obtain⟨a3,c3,rfl,O,_⟩:=aD C;have V:=θ O;have X:=θ (dM C);have U:Hid (∀j,u5.ownBlock=some j->t.heap.size<=j):=θ (λj Z=>(D.o.lt j Z).1);clear C G q O;have b3:(aK R.length++bL (R.take k)).length<=200010:=by rw[aP3];omega
   have HY:Hid (aK R.length++bL (R.take (k+1))=aK R.length++bL (R.take k)++z):=θ (by rw[HT.o,aL1]);generalize aK R.length++bL (R.take k)=y at *;go_wp2_with (at_builtin;refine dT rfl _ _ 32 rfl t 5 Tryz.infoU8 Tryz.underlying32 rfl _ _ _ rfl W.o a3 z.length c3 (z.map (Value.int .u8)) rfl Es V.o X.o.hnews (tR .u8 _) (by unfold maxLen;omega) E u.o.size ?_);intro a6 c6 w6 f L I;have H:Below t t w6:=u.o.grown L u.o.size (λj Z=>U.o j Z);have H6:=θ (And.intro f H);clear f L I H;go_wp2_with fail;refine⟨⟨k+1,E,by first | rfl | go_num,?_,H6.o.2⟩,by simp[intOf];omega⟩;rw[HY.o,aP3,aQ2];exact H6.o.1
  ·obtain rfl:k=R.length:=E;rw[aT8,<-HE.o]at a;obtain⟨a5,c5,rfl,_,_⟩:=aD a;have HF:=θ (And.intro (gG a Q.o.2.1.size) (Q.o.2.1.trans (c.mono Q.o.2.1.size)));clear a c;go_wp2;go_ret2;exact⟨_,_,rfl,HF.o⟩
def oV(R:List (Int×Nat))(k:Nat):Nat:=if k=0 then 257 else ((R[k-1]?).map (·.1.toNat)).getD 0
theorem Ue{R:List (Int×Nat)}{k x n:Nat}(h:R[k]? =some ((x:Int),n)):oV R (k+1)=x:=by
 unfold oV;rw[bc9 E,aU5,h];simp
theorem am2{l:List Int}{R:List (Int×Nat)}(c:RunInv l R){k x n:Nat}(h:R[k]? =some ((x:Int),n))(g:x<257)(d:∀r∈R,0<=r.1):x≠oV R k:=by
 cases k with
 | zero=>unfold oV;rw[bd0 rfl];omega
 | succ k=>
  obtain⟨r,a⟩:∃r,R[k]? =some r:=⟨_,aO0 (by have :=(aO2.1 h).1;omega)⟩;have b:=c.ne k _ _ a h;have f:=d r (aR5 a);unfold oV;rw[bc9 E,aU5,a];simp only[aY6,aY3];intro e;exact b (by show r.1=(x:Int);omega)
theorem Vt{l:List Int}{most:Nat}(J:Option Addr)(pc:Nat)(w:World)(hp:Reads w .u8 J (bR l))(hl:∀x∈l,0<=x/\x<257)(b4:l.length<=10000)(hm:l.length<=most)(c4:most<=1000000)(I:(bR l).length<=pc)(C:pc<=9223372036854775807):Calls prog 79 #[.slice J (bR l).length pc,most] w λe g=>∃a c,e= .returned (.tuple #[.slice a l.length c, .int .i64 0])/\g.ownsRow w 3 1 (.slice a l.length c) l.length (l.map (Value.int .i64))/\Below w w g:=by
 have d:=fY l;have b9:=fZ l;have HK:Hid (∀(k:Nat) r,(aU l)[k]? =some r->∃x n:Nat,r=((x:Int),n)/\x<257/\n<=10000/\1<=n/\x≠oV (aU l) k):=θ (λk r P=>by
  have f:=aR5 P
  have U:=λr f=>hl (r:Int×Nat).1 (by have :=kZ f (d.pos r f);rwa[d.un]at this)
  obtain⟨s,n⟩:=r
  have X:=U _ f
  obtain⟨x,rfl⟩:=aK0 X.1
  exact⟨x,n,rfl,by have :=X.2;simp at this;omega,aV4 (gX f) b4,d.pos _ f,am2 d P (by have :=X.2;simp at this;omega) (λr f=>(U r f).1)⟩)
 have HU:Hid (eI (aU l)=l):=θ d.un;have a6:Hid (∀k,(eI ((aU l).take k)).length<=l.length):=θ (λk=>by have :=Om (R:=aU l) k;rwa[d.un]at this);have a7:(bL (aU l)).length<=200000:=by
  have :=pO (R:=aU l) (λr f=>by
   obtain⟨k,P⟩:=aO4 f
   obtain⟨x,n,rfl,X,h2,_⟩:=HK.o k r P
   simp only[aK5];omega)
  omega
 have Y:bR l=aK (aU l).length++bL (aU l):=rfl;generalize aU l=R at *;have Z:R.length<2^64:=E;have h9:=cD Z;have q:(bR l).length=nJ R.length+1+(bL R).length:=by rw[Y,aP3,aQ]
 have F:Hid (∀W,Below w w W->Calls prog 135 #[.slice J (bR l).length pc, .int .i64 0] W (λe g=>e= .returned (.tuple #[.int .u64 R.length,((nJ R.length+1:Nat):Int), .int .i64 0])/\g=W)):=θ (λW hW=>by
  have :=tQ (a:=0) (r:=bL R) J pc W (hp.below hW) (by rw[bi7];exact Y) Z E I C
  rw[aY0]at this;exact this)
 have HG:Hid (∀W a n r,Below w w W->(bR l).drop a=aK n++r->n<2^64->Calls prog 135 #[.slice J (bR l).length pc,(a:Nat)] W (λe g=>e= .returned (.tuple #[.int .u64 n, .int .i64 ((a+(nJ n+1):Nat):Int), .int .i64 0])/\g=W)):=θ (λW a n r hW ha hn=>
  tQ J pc W (hp.below hW) ha hn E I C)
 have HD:Hid (∀k,(bR l).drop (nJ R.length+1+(bL (R.take k)).length)=bL (R.drop k)):=θ (λk=>by
  have e:bR l=(aK R.length++bL (R.take k))++bL (R.drop k):=by rw[Y,aL1,<-Na,aT6]
  rw[e,show nJ R.length+1+(bL (R.take k)).length=(aK R.length++bL (R.take k)).length by rw[aP3,aQ],List.drop_left])
 clear Y hp hl d I;generalize (bR l).length=m at *;obtain⟨H,O⟩:∃H,nJ R.length+1=H:=⟨_,rfl⟩;rw[O]at F HD q;have M:=θ q;have b6:=θ (And.intro h9 Z);clear O q h9 Z;go_enter func79,ntmps79;go_wp2_with fail;refine(F.o w (aJ6 _ _)).mono ?_;rintro e g ⟨rfl,rfl⟩;go_wp2_with fail;go_loopw [6,7,9,10] (λn a v s V=>∃k:Nat,k<=R.length/\n= .int .u64 (R.length-k:Nat)/\a= .int .i64 (H+(bL (R.take k)).length:Nat)/\s= .int .u64 (oV R k)/\V.ownsRow g 3 1 v (eI (R.take k)).length ((eI (R.take k)).map (Value.int .i64))/\Below g g V) (λn _ _ _ _=>(intOf n).toNat);case atStart=>exact⟨0,aY1 _,rfl,rfl,rfl,bb2 _ _ _ _,aJ6 _ _⟩
 case round=>as_aux_lemma=>
  obtain⟨k,P,rfl,rfl,rfl,b,h⟩:=hrel;have A:=h.size;by_cases a8:k<R.length
  ·obtain⟨r,f⟩:∃r,R[k]? =some r:=⟨_,aO0 a8⟩;obtain⟨x,n,rfl,hx,hn,c6,T⟩:=HK.o k r f;have u:=HD.o k;rw[ad5 f,aK5]at u;have B:(bR l).drop (H+(bL (R.take k)).length+(nJ x+1))=aK n++bL (R.drop (k+1)):=by
    rw[<-List.drop_drop,u,<-aQ,List.drop_left]
   have a3:Hid (H+(bL (R.take k)).length+(nJ x+1)+(nJ n+1)=H+(bL (R.take (k+1))).length):=θ (by
    have e:=bb9 List.length (xQ f)
    simp only[aP3,aQ,aK5]at e
    omega)
   have K:=θ (HG.o wr _ x _ h u E);have L:=θ (HG.o wr _ n _ h B E);have HY:=θ (Et f);have hq:=a6.o (k+1);rw[HY.o,aP3,aP9]at hq;have a4:=θ (Ue f);have b3:((n:Int)==0)=false:=by rw[bb6];omega
   have b5:((x:Int)==(oV R k:Int))=false:=by rw[bb6];omega
   have c7:(x:Int)<257:=E;have Q:(0:Int)<((R.length-k:Nat):Int):=E;have S:((R.length-k:Nat):Int)-1=((R.length-(k+1):Nat):Int):=E;have c3:(eI (R.take k)).length<=10000:=E;have HB:=θ h;have HO:=θ b;have b7:=θ T;obtain⟨a9,c9,rfl,_,_⟩:=aD b;clear u B f h b T a7;generalize H+(bL (R.take k)).length=a0 at *;generalize oV R k=ls at *;generalize eI (R.take k)=y at *;generalize a0+(nJ x+1)=a1 at *;generalize a1+(nJ n+1)=a2 at *;generalize R.length-k=rk at *;have b2:max (most:Int) 0=most:=E;have b0:((most:Int)-(y.length:Int))%18446744073709551616=((most-y.length:Nat):Int):=E;have b1:¬((most-y.length:Nat):Int)<(n:Int):=E;simp only at hq HY;go_wp2_with fail;refine K.o.mono ?_;rintro e w9 ⟨rfl,rfl⟩;go_wp2_with fail;refine L.o.mono ?_;rintro e w9 ⟨rfl,rfl⟩;go_wp2_with fail;clear HG F K L;have G:Hid (IntKind.u64.wrap ((rk:Int)-1)=((R.length-(k+1):Nat):Int)/\(0:Int)<rk/\R.length-(k+1)<rk):=θ ⟨by rw[S,aK7];omega,Q,E⟩;clear S Q b2 b0 b1 b3 b5 A;go_loopw [9,73] (λv i V=>∃j:Nat,j<=n/\i= .int .u64 j/\V.ownsRow g 3 1 v (y++List.replicate j (x:Int)).length ((y++List.replicate j (x:Int)).map (Value.int .i64))/\Below g g V) (λ_ i _=>n-(intOf i).toNat);case atStart=>exact⟨0,aY1 _,rfl,by rw[List.replicate_zero,aL2];exact HO.o,HB.o⟩
   case round=>as_aux_lemma=>
    clear HO HB;obtain⟨j,hj,rfl,b,h⟩:=hrel;have A:=h.size;by_cases c1:j<n
    ·have HR:Hid (y++List.replicate (j+1) (x:Int)=y++List.replicate j (x:Int)++[(x:Int)]):=θ (by rw[List.replicate_succ',aL1]);have c2:(y++List.replicate j (x:Int)).length<=20000:=by rw[aP3,aP9];omega
     have b8:(j:Int)<(n:Int):=E;generalize y++List.replicate j (x:Int)=z at *;go_wp2_with (at_builtin;refine fM rfl _ _ 36 rfl g 3 Tryz.infoIntG ba0 rfl _ _ _ rfl b rfl rfl ?d1 ?d2 ?d3 ?_);case d1=>unfold maxLen;omega
     case d2=>omega
     case d3=>exact A
     intro v' w1 t p;have N:Below g g w1:=h.grown p A (λj hj=>(b.lt j hj).1);have D:=θ (And.intro t N);clear b t h N p;go_wp2_with fail;refine⟨⟨j+1,E,by first | rfl | go_num,?_,D.o.2⟩,by simp[intOf];omega⟩;rw[HR.o,aP3,aQ2];exact D.o.1
    ·obtain rfl:j=n:=E;rw[<-HY.o]at b;have D:=θ (And.intro b h);clear b h;go_wp2_with fail;refine⟨⟨k+1,E,by rw[G.o.1],by rw[a3.o],by rw[a4.o],D.o.1,D.o.2⟩,?_⟩;rw[G.o.1];simp[intOf];have :=G.o;omega
  ·obtain rfl:k=R.length:=E;rw[aT8]at b⊢;rw[HU.o]at b;obtain⟨a5,c5,rfl,_,_⟩:=aD b;have D:=θ (And.intro b h);clear b h;rw[aW9,<-M.o];go_wp2_with fail;go_ret2;exact⟨_,_,rfl,D.o⟩
theorem sB{w b:World}{B n c:Nat}{a:Option Addr}{d:List Int}(h:w.ownsRow B 5 1 (.slice a n c) n (d.map (Value.int .u8)))(e:Below w w b):Reads b .u8 a d:=(cB h).below e
theorem vX{l:List Int}(a:Option Addr)(pc:Nat)(w:World)(T:TypeId)(g:Reads w .u8 a l)(f:∀c∈l,0<=c/\c<256)(h:l.length<=1000000):Calls prog 70 #[.slice w 1 1] (w.alloc (.cells #[.slice a l.length pc] T)) (λe d=>e= .returned (.int .u32 (cQ l:Nat))/\Below w w d):=by
 refine(Yo a pc _ 1 _ (fP (bc6 w (.cells #[.slice a l.length pc] T))) (g.below (aB w _)) f E).mono ?_;rintro e d ⟨rfl,b⟩;rw[bb3]at b;exact⟨rfl,(aB w _).trans (b.mono E)⟩
theorem Dr{l:List Int}(g:Option Addr)(pc:Nat)(w:World)(S:Reads w .u8 g l)(k:g=none->l.length=0/\pc=0)(R:∀c∈l,0<=c/\c<256)(hn:l.length<=500000):Calls prog 68 #[.slice g l.length pc] w (pR w w (bT l)):=by
 have Q:=θ S;have K:=θ k;have W:=θ R;have a:=θ (lN [l.length] (by simp;omega) Es w 69);rw[show cK [l.length]=aK l.length by simp[cK]]at a;have X:((l.length:Nat):Int)%18446744073709551616=l.length:=E;have h9:=cD (show l.length<2^64 by omega);have L:=θ (aQ l.length);clear S k R;go_in;go_wp2_with fail;refine a.o.mono ?_;rintro e N ⟨v1,rfl,q,n⟩;obtain⟨u,v,rfl,C,_⟩:=aD q;have G:=θ (And.intro q (And.intro n C));have O:=θ (vX g pc N 32 (Q.o.below n) W.o E);have B:=lZ l;clear q n C a;have U:Hid (bT l=bC [⟨u,v,aK l.length⟩,⟨g,pc,l⟩]++bW (cQ l)):=θ (by simp[bT,bC]);generalize cQ l=z at *;go_wp2_with fail;refine O.o.mono ?_;rintro e Y ⟨rfl,x⟩;have f:=θ x;have V:=θ (xH z Y B);clear x O B;go_wp2_with fail;refine V.o.mono ?_;rintro e h ⟨v3,rfl,s,p⟩;obtain⟨H,I,rfl,D,_⟩:=aD s;have b:Below w w h:=G.o.2.1.trans ((f.o.trans (p.mono f.o.size)).mono G.o.2.1.size);have j:Below N N h:=f.o.trans (p.mono f.o.size);have t:=θ b;have d:=oT (some (h,0)) 3 [⟨u,v,aK l.length⟩,⟨g,pc,l⟩,⟨H,I,bW z⟩] (h.alloc (.cells #[.slice u (aK l.length).length v, .slice g l.length pc, .slice H (bW z).length I] 32))
  (fP (bc6 h _)) (by
   have m:=aB h (.cells #[.slice u (aK l.length).length v, .slice g l.length pc, .slice H (bW z).length I] 32)
   intro r T
   simp at T
   rcases T with rfl | rfl | rfl
   ·exact⟨(sB G.o.1 j).below m,G.o.2.2⟩
   ·exact⟨(Q.o.below b).below m,K.o⟩
   ·exact⟨(cB s).below m,D⟩) (by simp[bC];rw[L.o,eM];omega) Es
 rw[bb3]at d;have i:=θ d;have J:Hid (bT l=bC [⟨u,v,aK l.length⟩,⟨g,pc,l⟩,⟨H,I,bW z⟩]):=θ (by rw[U.o];simp[bC]);clear s p b j d D;generalize (aK l.length).length=n1 at *;generalize (bW z).length=n3 at *;go_wp2_with fail;refine i.o.mono ?_;rintro e Z ⟨v4,rfl,F,y⟩;have M:=t.o.size;have A:Below h h Z:=(aB h _).trans (y.mono E);have P:=θ (And.intro (gG (base':=w.heap.size) F E) (t.o.trans (A.mono M)));rw[<-J.o]at P;clear F y A i;go_wp2;go_ret;exact⟨_,rfl,P.o⟩
attribute [local go_sem] Oper.semAt_some
theorem aj7(l m w n O:Nat)(D:Option Addr)(s:List Int)(V:s.length=n)(U:n<=1000000)(J:Nat->World->Prop)(f:∀k W,J k W->W.cell? w=some (.slice D n O)/\Reads W .u8 D s)(I:∀k t,k<n->J k t->YieldAt Fence.wide m prog l #[.int .i64 ((n:Int)-1-k), .int .u8 (s[n-1-k]?.getD 0)] t λe g=>e= .returned (.bool true)/\J (k+1) g)(W:World)(y:J 0 W):CallsIn Fence.wide (m+1) prog 180 #[.func (.yield l) #[] #[], .pointer w] W λe g=>(∃v,e= .returned v)/\J n g:=by
 obtain⟨P,r0⟩:=f 0 W y;have M:IntKind.i64.wrap ((n:Int)-1)=(n:Int)-1:=aK8 _ E;refine callsIn_of_wp func180 rfl trivial ?_ rfl;simp only[ntmps180,aT3,aP4,aP8,Nat.reduceAdd,Nat.reduceSub,Array.replicate_succ,Array.replicate_zero,List.push_toArray,List.append_toArray,aS0,aL4]
 gi_wp2
 gi_loopw [3] (λp wr=>∃k:Nat,k<=n/\p= .int .i64 ((n:Int)-1-k)/\J k wr) (λp _=>(intOf p+1).toNat)
 exact⟨0,aY1 _,Es,y⟩;case round=>
  obtain⟨k,T,rfl,i⟩:=hrel;by_cases r:k<n
  ·obtain⟨Q,C⟩:=f k wr i;obtain⟨S,F,h,u,B,z⟩:=I k wr r i;obtain⟨b,N,rfl,K,a⟩:=C.some E;have c:=a (n-1-k) E;obtain⟨x,A⟩:=Ey (s[n-1-k]?.getD 0);obtain⟨j,L⟩:=Ey (n-1-k);have d:(n:Int)-1-k=(j:Int):=E;rw[A]at B c;rw[L]at c;rw[d]at B;rw[d];have R:decide ((0:Int)<=(j:Int))=true:=bc2 E;have Y:(0:Int)<=(j:Int):=E;have Z:(j:Int)<(n:Int):=E;have X:IntKind.i64.wrap ((j:Int)-1)=(j:Int)-1:=aK8 _ E;have G:=θ z;clear a C z i A
   gi_wp2
   refine G.o.mono ?_;rintro e g ⟨rfl,q⟩
   gi_wp2
   go_roundw;exact⟨k+1,E,by congr 1;omega,q⟩;simp[intOf]
  ·obtain rfl:k=n:=E;have H:(k:Int)-1-k= -1:=E;rw[H]
   gi_wp2
   go_end0;exact⟨⟨_,rfl⟩,i⟩
theorem yN(w:World)(o:Obj){r:Nat}(h:r<w):(w.alloc o).heap[r]? =w.heap[r]? :=((aJ6 w w).alloc (aV3 _) o).block r h
section
variable {P:Program}{ops:Array Oper}{Q:Exit->Act->World->Prop}
theorem aq1(r n:Nat){o:Oper}(C:∀c,o.op≠ .defer c){a:Act}{w:World}{u p:Act->World->Prop}(h:o.wp P a w u Q)(m:∀a w,u a w->p a w):o.wpIn (Fence.wide.inRound r) n P a w p Q:=by
 refine⟨λ_ _=>trivial,?_⟩;rw[Oper.semAt_plain _ _ _ C];unfold Oper.wp at h;cases hr:(execOp a.eval o).run P w with
 | ok x D=>
  rw[hr]at h;cases x with
  | value v=>exact m _ _ h
  | skip=>exact m _ _ h
  | defer d=>exact m _ _ h
  | enter f g=>
   refine⟨λh=>(nomatch h),CallsIn.inRound r (callsIn_wide.2 (Calls.mono h λe y q=>?_))⟩;cases e with
   | returned v=>exact m _ _ q
   | panicked c=>exact q
   | outgrown=>exact q
  | row row g=>
   refine⟨λh=>(nomatch h),λc z _=>?_⟩;obtain⟨v,y,A,B⟩:=h c z;exact⟨v,y,m _ _ A,stepsIn_wide.2 B⟩
  | round l f t s b=>exact(h:False).elim
  | _=>exact(h:False).elim
 | halt x D=>
  rw[hr]at h;cases x with
  | panic v=>exact h
  | _=>exact(h:False).elim
theorem rF(d:∀(i:Nat) (o:Oper),ops[i]? =some o->∀c,o.op≠ .defer c)(b:∀a w,¬Q .outgrown a w)(r n:Nat):∀(l:List Nat) (a:Act) (w:World),wpOps P ops Q l a w->wpOpsIn (Fence.wide.inRound r) n P ops Q l a w
 | [],_,_,h=>h
 | i::rest,a,w,h=>by
  unfold wpOps at h;unfold wpOpsIn;cases ho:ops[i]? with
  | none=>rw[ho]at h;exact rF d b r n rest a w h
  | some o=>
   rw[ho]at h;simp only at h⊢;by_cases e:Region.wanted o (yielded ops a.tmps)=true
   ·rw[bd0 e]at h⊢;rcases h with h | ⟨_,f,g,h⟩
    ·exact aq1 r n (d i o ho) h (λa w=>rF d b r n rest a w)
    ·exact(b f g h).elim
   ·rw[bc9 e]at h⊢;exact⟨λ_ _=>trivial,rF d b r n rest _ w h⟩
def So(o:Oper):Bool:=match o.op with | .defer _=>false | _=>true
theorem Qe{l:List Oper}{a:Act}{w:World}{p r n:Nat}(S:World->Prop)(g:P.follows .mixedOrders=true)(d:S w.drew)(f:l.all So=true)(b:∀a w,¬Q .outgrown a w)(h:S w.drew->wpAnyH P .any l.toArray (NoPanic Q) S l.length (Array.replicate l.length false) a w.drew):(Code.region p l.toArray true).wpIn (Fence.wide.inRound r) n P Q a w:=by
 refine wpIn_mono (wpIn_region_draw (Q:=NoPanic Q) λt=>?_) NoPanic.imp;simp only[Region.schedule,g,Bool.true_or,bd1];refine rF (Q:=NoPanic Q) (λi o m c e=>?_) b r n _ _ _ (show wpOps P l.toArray (NoPanic Q) (Region.linearise .any l.toArray t) a w.drew from wpAny_sound l.toArray.size t _ a _ (wpAny_of_held (S:=S) _ _ _ _ ?_))
 ·have :=List.all_eq_true.1 f o (List.mem_of_getElem? (by simpa using m));unfold So at this;rw[e]at this;cases this
 ·rw[aT3];exact h d
end
def qW(P:Program)(Q:Exit->Act->World->Prop)(o:Oper)(a:Act)(v:Value)(w:World):Prop:=∀K:Act->World->Prop,K (a.put o.dst v) w->o.wp P a w K (NoPanic Q)
section
variable {P:Program}{md:Region.Mode}{l:List Oper}{Q:Exit->Act->World->Prop}{S:World->Prop}{i j k:Nat}{oi oj ok:Oper}{fuel:Nat}{listed:Array Bool}{a:Act}{w:World}{vi vj vk:Value}
theorem mL{b:Array Bool}(h:qW P Q oi a vi w)(f:Region.wanted oi (yielded l.toArray a.tmps)=true)(d:S w)(e:wpAnyH P md l.toArray (NoPanic Q) S fuel b (a.put oi.dst vi) w)(K:Act->World->Prop)(c:Shut (∀a w,S w->(S w->wpAnyH P md l.toArray (NoPanic Q) S fuel b a w)->K a w)):(if Region.wanted oi (yielded l.toArray a.tmps)=true then oi.wp P a w K (NoPanic Q)else K (a.put oi.dst undef) w):=by
 rw[bd0 f];exact h K (c.out _ _ d (λ_=>e))
theorem set_comm(x:Array Bool)(i j:Nat):(x.setIfInBounds i true).setIfInBounds j true=(x.setIfInBounds j true).setIfInBounds i true:=by
 by_cases h:i=j
 ·rw[h]
 ·exact Array.setIfInBounds_comm _ _ h
theorem Be(b:S w)(h:wpAnyH P md l.toArray (NoPanic Q) S fuel ((listed.setIfInBounds i true).setIfInBounds j true) ((a.put oi.dst vi).put oj.dst vj) w)(o:(l.drop i).head?=some oi)(p:(l.drop j).head?=some oj)(t:Region.ready md l.toArray listed=[i,j])(c:Region.ready md l.toArray (listed.setIfInBounds i true)=[j])(e:Region.ready md l.toArray (listed.setIfInBounds j true)=[i])(s:∀d,oi.dst=some d->oj.dst≠some d)(x:Region.wanted oi (yielded l.toArray a.tmps)=true)(y:Region.wanted oj (yielded l.toArray a.tmps)=true)(m:Region.wanted oi (yielded l.toArray (a.put oj.dst vj).tmps)=true)(n:Region.wanted oj (yielded l.toArray (a.put oi.dst vi).tmps)=true)(u:qW P Q oi a vi w)(f:qW P Q oi (a.put oj.dst vj) vi w)(v:qW P Q oj a vj w)(g:qW P Q oj (a.put oi.dst vi) vj w):wpAnyH P md l.toArray (NoPanic Q) S (fuel+2) listed a w:=
 be2 t Es (aI8 (dH o) (mL u x b (be2 c Es (aI8 (dH p) (mL g n b h) aI9)))
  (aI8 (dH p) (mL v y b (be2 e Es (aI8 (dH o) (mL f m b (by rw[set_comm,aI6 _ _ _ (λd q r=>s d r q)];exact h)) aI9))) aI9))
theorem aF4(e:S w)(h:wpAnyH P md l.toArray (NoPanic Q) S fuel (((listed.setIfInBounds i true).setIfInBounds j true).setIfInBounds k true) (((a.put oi.dst vi).put oj.dst vj).put ok.dst vk) w)(s:(l.drop i).head?=some oi)(u:(l.drop j).head?=some oj)(v:(l.drop k).head?=some ok)(M:Region.ready md l.toArray listed=[i,j,k]/\Region.ready md l.toArray (listed.setIfInBounds i true)=[j,k]/\Region.ready md l.toArray (listed.setIfInBounds j true)=[i,k]/\Region.ready md l.toArray (listed.setIfInBounds k true)=[i,j])(x:Region.ready md l.toArray ((listed.setIfInBounds i true).setIfInBounds j true)=[k]/\Region.ready md l.toArray ((listed.setIfInBounds i true).setIfInBounds k true)=[j]/\Region.ready md l.toArray ((listed.setIfInBounds j true).setIfInBounds k true)=[i])(K:(∀d,oi.dst=some d->oj.dst≠some d)/\(∀d,oi.dst=some d->ok.dst≠some d)/\(∀d,oj.dst=some d->ok.dst≠some d))(N:oi.guard=none/\oj.guard=none/\ok.guard=none)(n:∀b,b=a\/b=a.put oj.dst vj\/b=a.put ok.dst vk\/b=(a.put oj.dst vj).put ok.dst vk->qW P Q oi b vi w)(p:∀b,b=a\/b=a.put oi.dst vi\/b=a.put ok.dst vk\/b=(a.put oi.dst vi).put ok.dst vk->qW P Q oj b vj w)(q:∀b,b=a\/b=a.put oi.dst vi\/b=a.put oj.dst vj\/b=(a.put oi.dst vi).put oj.dst vj->qW P Q ok b vk w):wpAnyH P md l.toArray (NoPanic Q) S (fuel+3) listed a w:=by
 obtain⟨O,R,T,U⟩:=M;obtain⟨D,F,G⟩:=x;obtain⟨B,C,r⟩:=K;obtain⟨f,g,m⟩:=N;have c:∀(o:Oper) (t:Array Bool) (y:Option Tmp),o.guard=none->∀a:Act,Region.wanted o (yielded l.toArray a.tmps)=true:=λo _ _ L a=>by simp[Region.wanted,L]
 have z:=aI6 a vi vj B;have A:=aI6 a vi vk C;have H:=aI6 a vj vk r;refine be2 O Es (aI8 (dH s) (mL (n a (.inl rfl)) (c _ listed none f _) e ?_) (aI8 (dH u) (mL (p a (.inl rfl)) (c _ listed none g _) e ?_) (aI8 (dH v) (mL (q a (.inl rfl)) (c _ listed none m _) e ?_) aI9)))
 ·exact Be e h u v R D F r (c _ listed none g _) (c _ listed none m _) (c _ listed none g _) (c _ listed none m _) (p _ (.inr (.inl rfl))) (p _ (.inr (.inr (.inr rfl)))) (q _ (.inr (.inl rfl))) (q _ (.inr (.inr (.inr rfl))))
 ·exact Be e (by rw[set_comm listed j i,<-z];exact h) s v T (by rw[set_comm];exact D) G C (c _ listed none f _) (c _ listed none m _) (c _ listed none f _) (c _ listed none m _) (n _ (.inr (.inl rfl))) (n _ (.inr (.inr (.inr rfl)))) (q _ (.inr (.inr (.inl rfl)))) (q _ (.inr (.inr (.inr z.symm))))
 ·exact Be e (by rw[set_comm listed k i,set_comm _ k j,<-A,aI6 _ _ _ (λd I J=>r d J I)];exact h) s u U (by rw[set_comm];exact F) (by rw[set_comm];exact G) B (c _ listed none f _) (c _ listed none g _) (c _ listed none f _) (c _ listed none g _) (n _ (.inr (.inr (.inl rfl)))) (n _ (.inr (.inr (.inr H.symm)))) (p _ (.inr (.inr (.inl rfl)))) (p _ (.inr (.inr (.inr A.symm))))
end
theorem ac8{P:Program}{g:Operand}{ps:Array Tmp}{assign body:Code}{Q:Exit->Act->World->Prop}{a:Act}{w:World}{gf:Nat}{lb:Array Value}{m N:Nat}(hg:a.eval g= .func (.func gf) #[] lb)(eg:∀args w,(callFunc gf args).run P w= .ok (.enter gf args) w)(I:Nat->World->Prop)(x:Nat->Array Value)(hps:∀k,(x k).size=ps.size)(hit:∀(l:Nat) (J:Nat->World->Prop),(∀k W,J k W->I k W)->(∀k W1,k<N->J k W1->YieldAt Fence.wide m P l (x k) W1 λe W'=>e= .returned (.bool true)/\J (k+1) W')->∀W,J 0 W->CallsIn Fence.wide (m+1) P gf (#[.func (.yield l) #[] #[]]++lb) W λe W'=>(∃v,e= .returned v)/\J N W')(hI:∀k A o,w.heap.size+1<A.heap.size->I k A->I k (A.putObj (w.heap.size+1) o))(h0:∀o o',I 0 ((w.alloc o).alloc o'))(hround:∀(l k:Nat) (W:World),k<N->assign.wpIn (Fence.wide.inRound l) m P (Exit.then (λa1 W1=>W1=W/\∀W2,w.heap.size+1<W2.heap.size->I k W2->body.wpIn (Fence.wide.inRound l) m P (λe _ W'=>e= .normal/\I (k+1) W'/\W'.heap[w.heap.size]? =W2.heap[w.heap.size]? /\W'.heap[w.heap.size+1]? =W2.heap[w.heap.size+1]?) a1 W2) (λ_ _ _=>False)) {tmps:=(ps.zip (x k)).foldl (λt (p,v)=>t.setIfInBounds p v) a.tmps,defers:=[]} W)(hdone:∀W,I N W->w.heap.size<W.heap.size->W.heap[w.heap.size]? =some (.deferred (some []))->Q .normal {a with defers:={target:= .collected w.heap.size,args:=#[]}::a.defers} W):(Code.rangeFunc g ps assign body).wpIn Fence.wide (m+2) P Q a w:=by
 refine wpIn_rangeFunc ?_;intro fn hfn;obtain⟨rec,hrec⟩:∃rec:LoopState->Option Code->Loop,rec=λst pe=>{state:=st,pending:=pe,fn,tmps:=a.tmps,params:=ps,assign,body,defers:=w.heap.size}:=⟨_,rfl⟩;obtain⟨W1,hW1⟩:∃W1,(w.alloc (.deferred (some []))).alloc (.loop (rec .ready none))=W1:=⟨_,rfl⟩;have hL1:W1.heap[w.heap.size+1]? =some (.loop (rec .ready none)):=by
  rw[<-hW1];have :=World.alloc_heap_new (w.alloc (.deferred (some []))) (.loop (rec .ready none));rwa[bb3]at this
 have hK1:W1.heap[w.heap.size]? =some (.deferred (some [])):=by
  rw[<-hW1];exact(aJ5 _ _ _ Es).trans (World.alloc_heap_new w _)
 have hI1:I 0 W1:=by rw[<-hW1];exact h0 _ _
 have hlt:∀(W:World) (o:Obj),W.heap[w.heap.size+1]? =some o->w.heap.size+1<W.heap.size:=λW o h=>(aJ2.1 h).1;refine⟨w.heap.size+1,[{target:= .collected w.heap.size,args:=#[]}],W1,{target:= .fn (.func gf) lb,args:=#[.func (.yield (w.heap.size+1)) #[] #[]]},W1,gf,
  #[.func (.yield (w.heap.size+1)) #[] #[]]++lb,W1,?_,?_,λ_ _=>trivial,?_,λh=>(nomatch h),?_⟩
 ·rw[<-hW1,hrec];exact run_enterLoop_outer _ _ _ _ _
 ·simp only[resolve,hg];simp[go_sem]
 ·simp[invoke,go_sem,eg]
 ·refine CallsIn.mono (hit (w.heap.size+1) (λk W=>I k W/\W.heap[w.heap.size+1]? =some (.loop (rec .ready none))/\W.heap[w.heap.size]? =some (.deferred (some []))) (λk W h=>h.1) ?_ W1 ⟨hI1,hL1,hK1⟩) ?_
  ·rintro k W hk ⟨hi,hl,hd⟩;have hy:=run_yield (P:=P) (args:=x k) hl (by rw[hrec];exact hps k);rw[hrec]at hy;refine⟨fn,_,assign,body,hy,roundIn_of_wpIn trivial (wpIn_mono (hround _ k W hk) ?_)⟩;rintro e a1 W2 h;cases e with
   | normal=>
    obtain⟨rfl,hbody⟩:=h;refine⟨_,run_beginRound hl (by rw[hrec]),?_⟩;have hs:=hlt _ _ hl;have hl2:=World.putObj_heap_same (o:= .loop {rec .ready none with state:= .busy}) hs;have hd2:(W2.putObj (w.heap.size+1) (.loop {rec .ready none with state:= .busy})).heap[w.heap.size]? =some (.deferred (some [])):=(World.putObj_heap_other E).trans hd;refine wpIn_mono (hbody _ (hlt _ _ hl2) (hI _ _ _ hs hi)) ?_;rintro e a3 W3 ⟨rfl,hi3,hk3,hl3⟩;rw[hd2]at hk3;rw[hl2]at hl3;have hr:=run_endRound (P:=P) none hl3;have hs3:=hlt _ _ hl3;rw[hrec]at hr⊢;refine⟨_,_,hr,rfl,hI _ _ _ hs3 hi3,?_,(World.putObj_heap_other E).trans hk3⟩;exact World.putObj_heap_same hs3
   | _=>exact h.elim
  ·rintro e W2 ⟨⟨v,rfl⟩,hi,hl,hk⟩;have hr:=run_endLoop (P:=P) hl (by rw[hrec];simp);have hs:=hlt _ _ hl;rw[hrec]at hr;exact⟨none,_,hr,hdone _ (hI _ _ _ hs hi) (by simp[World.putObj];omega) ((World.putObj_heap_other E).trans hk)⟩
def RowsAt(B:Nat)(w:World)(t:List Int)(e:Ending)(w':World):Prop:=∃a c r,e= .returned (.slice a (t.length+1) c)/\IsRows (aA t) r/\w'.ownsRow B 3 1 (.slice a (t.length+1) c) (t.length+1) (r.map bP)/\Below B w w'
theorem aF7{n:Nat}{w:World}(a:Option Addr)(c:Nat)(t:List Int)(l:n=t.length)(m:Reads w .u8 a t)(j:oR t)(k:t.length<=1000000):Calls prog 49 #[.slice a n c] w (RowsAt w w t):=by
 subst l;refine(My a c t w m j k).mono ?_;rintro e o ⟨r,f,v,rfl,b,g⟩;have d:r.length=t.length+1:=by rw[f.len,aE]
 rw[d]at b;obtain⟨h,i,rfl,_,_⟩:=aD b;exact⟨h,i,r,rfl,f,b,g⟩
def LastAt(B:Nat)(w:World)(t:List Int)(e:Ending)(w':World):Prop:=∃a c m,e= .returned (.slice a (t.length+1) c)/\IsLast t m/\w'.ownsRow B 3 1 (.slice a (t.length+1) c) (t.length+1) (m.map (Value.int .i64))/\Below B w w'
theorem aC1{n:Nat}{w:World}(a:Option Addr)(c:Nat)(t:List Int)(k:n=t.length)(l:Reads w .u8 a t)(i:oR t)(j:t.length<=1000000):Calls prog 89 #[.slice a n c] w (LastAt w w t):=by
 subst k;refine(Lf a c t w l i j).mono ?_;rintro e o ⟨m,f,v,rfl,b,d⟩;rw[f.len]at b;obtain⟨g,h,rfl,_,_⟩:=aD b;exact⟨g,h,m,rfl,f,b,d⟩
theorem Zo(a:List Int)(W:World):Reads (W.alloc (.cells (a.map (Value.int .i64)).toArray 3)) .i64 (some (W,0)) a:=λi c=>⟨_,_,rfl,Es,λj b=>by
 rw[aY0,bb8 _ W j _ _ _ (bc6 W _)];simp[b]⟩
end
end Go.Proofs.YtchinbgemenenaaGreatDoor
