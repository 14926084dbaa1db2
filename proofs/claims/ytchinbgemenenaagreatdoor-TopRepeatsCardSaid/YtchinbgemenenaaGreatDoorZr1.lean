/- Lemmas and contracts under the claims of this seat. No condition. -/
import Derived.Below
import Derived.Test.YtchinbgemenenaaGreatDoorProg
import Derived.WalkKit
import Derived.WalkLawsBesides
import Derived.WalkSpells
import Derived.Lib.Hide
import Derived.Deep.RegionHeld3
import Derived.Laws.AppendOwnNone
import Derived.Deep.Draws
import Derived.OneCell
import Derived.Deep.AppendLies
import Derived.Deep.QuietTactic
import Derived.BigQuiet
import Derived.Laws.MakeOwn
import Derived.ProofKit
import Derived.OpenShut
import Derived.ShutString
import Derived.ChangeOld
import Derived.Deep.SlicePairs
import Derived.Lib.TrailingZeros
namespace Go.Proofs.YtchinbgemenenaaGreatDoor
set_option linter.unusedVariables false
set_option linter.unusedSimpArgs false
set_option maxRecDepth 100000
set_option maxHeartbeats 12800000
theorem al5:type_of% @Go.Addr.add_lit:=@Go.Addr.add_lit
theorem al6:type_of% @Go.AllReadyH.cons:=@Go.AllReadyH.cons
theorem al7:type_of% @Go.AllReadyH.nil:=@Go.AllReadyH.nil
theorem al8:type_of% @Array.extract_eq_self_of_le:=@Array.extract_eq_self_of_le
theorem al9:type_of% @Array.getElem?_append_left:=@Array.getElem?_append_left
theorem am0:type_of% @Array.getElem?_eq_some_iff:=@Array.getElem?_eq_some_iff
theorem am1:type_of% @Array.getElem?_toList:=@Array.getElem?_toList
theorem am2:type_of% @Array.toList_setIfInBounds:=@Array.toList_setIfInBounds
theorem am3:type_of% @Go.RowKit.Below.heap_alloc:=@Go.RowKit.Below.heap_alloc
theorem am4:type_of% @Go.RowKit.Below.refl:=@Go.RowKit.Below.refl
theorem am5:type_of% @Bool.and_eq_true:=@Bool.and_eq_true
theorem am6:type_of% @Bool.eq_iff_iff:=@Bool.eq_iff_iff
theorem am7:type_of% @Bool.not_eq_true:=@Bool.not_eq_true
theorem am8:type_of% @Int.eq_ofNat_of_zero_le:=@Int.eq_ofNat_of_zero_le
theorem am9:type_of% @Int.mul_le_mul_of_nonneg_right:=@Int.mul_le_mul_of_nonneg_right
theorem ao0:type_of% @Int.tdiv_eq_ediv_of_nonneg:=@Int.tdiv_eq_ediv_of_nonneg
theorem ao1:type_of% @Int.tmod_eq_emod_of_nonneg:=@Int.tmod_eq_emod_of_nonneg
theorem ao2:type_of% @Int.toNat_natCast:=@Int.toNat_natCast
theorem ao3:type_of% @Go.IntKind.wrap_u64:=@Go.IntKind.wrap_u64
theorem ao4:type_of% @Go.IntWalk.i64_in:=@Go.IntWalk.i64_in
theorem ao5:type_of% @List.Perm.refl:=@List.Perm.refl
theorem ao6:type_of% @List.any_eq_true:=@List.any_eq_true
theorem ao7:type_of% @List.append_assoc:=@List.append_assoc
theorem ao8:type_of% @List.append_nil:=@List.append_nil
theorem ao9:type_of% @List.attach_map_subtype_val:=@List.attach_map_subtype_val
theorem ap1:type_of% @List.cons_append:=@List.cons_append
theorem ap2:type_of% @List.countP_append:=@List.countP_append
theorem ap3:type_of% @List.countP_congr:=@List.countP_congr
theorem ap4:type_of% @List.countP_cons:=@List.countP_cons
theorem ap5:type_of% @List.countP_eq_zero:=@List.countP_eq_zero
theorem ap6:type_of% @List.countP_le_length:=@List.countP_le_length
theorem ap7:type_of% @List.countP_map:=@List.countP_map
theorem ap8:type_of% @List.count_append:=@List.count_append
theorem ap9:type_of% @List.count_cons:=@List.count_cons
theorem aq0:type_of% @List.drop_append:=@List.drop_append
theorem aq1:type_of% @List.drop_append_of_le_length:=@List.drop_append_of_le_length
theorem aq2:type_of% @List.eq_nil_of_length_eq_zero:=@List.eq_nil_of_length_eq_zero
theorem aq3:type_of% @List.ext_getElem?:=@List.ext_getElem?
theorem aq4:type_of% @List.filter_append:=@List.filter_append
theorem aq5:type_of% @List.filter_cons:=@List.filter_cons
theorem aq6:type_of% @List.flatMap_append:=@List.flatMap_append
theorem aq7:type_of% @List.flatMap_cons:=@List.flatMap_cons
theorem aq8:type_of% @List.getElem?_append:=@List.getElem?_append
theorem aq9:type_of% @List.getElem?_append_left:=@List.getElem?_append_left
theorem ar0:type_of% @List.getElem?_append_right:=@List.getElem?_append_right
theorem ar1:type_of% @List.getElem?_cons_succ:=@List.getElem?_cons_succ
theorem ar2:type_of% @List.getElem?_drop:=@List.getElem?_drop
theorem ar3:type_of% @List.getElem?_eq_getElem:=@List.getElem?_eq_getElem
theorem ar4:type_of% @List.getElem?_eq_none:=@List.getElem?_eq_none
theorem ar5:type_of% @List.getElem?_eq_some_iff:=@List.getElem?_eq_some_iff
theorem ar6:type_of% @List.getElem?_map:=@List.getElem?_map
theorem ar7:type_of% @List.getElem?_of_mem:=@List.getElem?_of_mem
theorem ar8:type_of% @List.getElem?_set:=@List.getElem?_set
theorem ar9:type_of% @List.getElem?_take:=@List.getElem?_take
theorem as0:type_of% @List.getElem?_toArray:=@List.getElem?_toArray
theorem as1:type_of% @List.getElem_drop:=@List.getElem_drop
theorem as2:type_of% @List.getElem_map:=@List.getElem_map
theorem as3:type_of% @List.getElem_mem:=@List.getElem_mem
theorem as4:type_of% @List.getElem_of_mem:=@List.getElem_of_mem
theorem as5:type_of% @List.getElem_take:=@List.getElem_take
theorem as6:type_of% @List.length_append:=@List.length_append
theorem as7:type_of% @List.length_cons:=@List.length_cons
theorem as8:type_of% @List.length_drop:=@List.length_drop
theorem as9:type_of% @List.length_filter_le:=@List.length_filter_le
theorem at1:type_of% @List.length_map:=@List.length_map
theorem at2:type_of% @List.length_nil:=@List.length_nil
theorem at3:type_of% @List.length_replicate:=@List.length_replicate
theorem at4:type_of% @List.length_set:=@List.length_set
theorem at5:type_of% @List.length_take:=@List.length_take
theorem at6:type_of% @List.map_append:=@List.map_append
theorem at7:type_of% @List.map_congr_left:=@List.map_congr_left
theorem at8:type_of% @List.map_cons:=@List.map_cons
theorem at9:type_of% @List.map_drop:=@List.map_drop
theorem av0:type_of% @List.map_map:=@List.map_map
theorem av5:type_of% @List.map_nil:=@List.map_nil
theorem av6:type_of% @List.map_take:=@List.map_take
theorem av7:type_of% @List.map_toArray:=@List.map_toArray
theorem av8:type_of% @List.mem_append:=@List.mem_append
theorem av9:type_of% @List.mem_cons:=@List.mem_cons
theorem ax0:type_of% @List.mem_cons_self:=@List.mem_cons_self
theorem ax1:type_of% @List.mem_map:=@List.mem_map
theorem ax2:type_of% @List.mem_of_getElem?:=@List.mem_of_getElem?
theorem ax3:type_of% @List.mem_of_mem_take:=@List.mem_of_mem_take
theorem ax4:type_of% @List.mem_range:=@List.mem_range
theorem ax5:type_of% @List.nil_append:=@List.nil_append
theorem ax6:type_of% @List.nodup_append:=@List.nodup_append
theorem ax7:type_of% @List.nodup_cons:=@List.nodup_cons
theorem ax8:type_of% @List.nodup_nil:=@List.nodup_nil
theorem ax9:type_of% @List.nodup_range:=@List.nodup_range
theorem ay0:type_of% @List.not_mem_nil:=@List.not_mem_nil
theorem ay1:type_of% @List.pairwise_cons:=@List.pairwise_cons
theorem ay2:type_of% @List.pairwise_iff_getElem:=@List.pairwise_iff_getElem
theorem ay3:type_of% @List.prefix_refl:=@List.prefix_refl
theorem ay4:type_of% @List.range_succ:=@List.range_succ
theorem ay5:type_of% @List.setIfInBounds_toArray:=@List.setIfInBounds_toArray
theorem ay6:type_of% @List.set_set:=@List.set_set
theorem ay7:type_of% @List.size_toArray:=@List.size_toArray
theorem ay8:type_of% @List.sum_append:=@List.sum_append
theorem ay9:type_of% @List.take_add_one:=@List.take_add_one
theorem az0:type_of% @List.take_append_drop:=@List.take_append_drop
theorem az1:type_of% @List.take_append_of_le_length:=@List.take_append_of_le_length
theorem az2:type_of% @List.take_length:=@List.take_length
theorem az3:type_of% @List.take_of_length_le:=@List.take_of_length_le
theorem az4:type_of% @List.take_sublist:=@List.take_sublist
theorem az5:type_of% @List.take_take:=@List.take_take
theorem az6:type_of% @List.take_zero:=@List.take_zero
theorem az7:type_of% @Nat.add_assoc:=@Nat.add_assoc
theorem az8:type_of% @Nat.add_mod_right:=@Nat.add_mod_right
theorem az9:type_of% @Nat.add_sub_cancel:=@Nat.add_sub_cancel
theorem aA0:type_of% @Nat.add_zero:=@Nat.add_zero
theorem aA1:type_of% @Nat.div_div_eq_div_mul:=@Nat.div_div_eq_div_mul
theorem aA2:type_of% @Nat.eq_zero_or_pos:=@Nat.eq_zero_or_pos
theorem aA3:type_of% @Nat.exists_eq_add_of_le:=@Nat.exists_eq_add_of_le
theorem aA4:type_of% @Nat.le_add_right:=@Nat.le_add_right
theorem aA5:type_of% @Nat.le_refl:=@Nat.le_refl
theorem aA6:type_of% @Nat.le_trans:=@Nat.le_trans
theorem aA7:type_of% @Nat.lt_irrefl:=@Nat.lt_irrefl
theorem aA8:type_of% @Nat.lt_of_le_of_lt:=@Nat.lt_of_le_of_lt
theorem aA9:type_of% @Nat.lt_of_lt_of_le:=@Nat.lt_of_lt_of_le
theorem aB0:type_of% @Nat.lt_or_ge:=@Nat.lt_or_ge
theorem aB1:type_of% @Nat.lt_trichotomy:=@Nat.lt_trichotomy
theorem aB2:type_of% @Nat.min_eq_left:=@Nat.min_eq_left
theorem aB3:type_of% @Nat.mod_eq_of_lt:=@Nat.mod_eq_of_lt
theorem aB4:type_of% @Nat.mod_lt:=@Nat.mod_lt
theorem aB5:type_of% @Nat.mul_le_mul:=@Nat.mul_le_mul
theorem aB6:type_of% @Nat.mul_one:=@Nat.mul_one
theorem aB7:type_of% @Nat.or_lt_two_pow:=@Nat.or_lt_two_pow
theorem aB8:type_of% @Nat.pow_le_pow_right:=@Nat.pow_le_pow_right
theorem aB9:type_of% @Nat.pow_succ:=@Nat.pow_succ
theorem aC0:type_of% @Nat.sub_self:=@Nat.sub_self
theorem aC1:type_of% @Nat.succ_mul:=@Nat.succ_mul
theorem aC2:type_of% @Nat.testBit_and:=@Nat.testBit_and
theorem aC3:type_of% @Nat.testBit_mod_two_pow:=@Nat.testBit_mod_two_pow
theorem aC4:type_of% @Nat.testBit_or:=@Nat.testBit_or
theorem aC5:type_of% @Nat.testBit_two_pow_mul_add:=@Nat.testBit_two_pow_mul_add
theorem aC6:type_of% @Nat.two_pow_pos:=@Nat.two_pow_pos
theorem aC7:type_of% @Nat.zero_add:=@Nat.zero_add
theorem aC8:type_of% @Nat.zero_le:=@Nat.zero_le
theorem aC9:type_of% @Nat.zero_mul:=@Nat.zero_mul
theorem aD0:type_of% @Option.getD_some:=@Option.getD_some
theorem aD1:type_of% @Option.map_eq_some_iff:=@Option.map_eq_some_iff
theorem aD2:type_of% @Option.map_none:=@Option.map_none
theorem aD3:type_of% @Option.map_some:=@Option.map_some
theorem aD4:type_of% @Option.some.injEq:=@Option.some.injEq
theorem aD5:type_of% @Option.toList_some:=@Option.toList_some
theorem aD6:type_of% @Go.Result.andThen_ok:=@Go.Result.andThen_ok
theorem aD7:type_of% @Go.Proofs.Tryz.func11:=@Go.Proofs.Tryz.func11
theorem aD8:type_of% @Go.Proofs.Tryz.func246:=@Go.Proofs.Tryz.func246
theorem aD9:type_of% @Go.Proofs.Tryz.isAgg3:=@Go.Proofs.Tryz.isAgg3
theorem aE0:type_of% @Go.Proofs.Tryz.isAgg4:=@Go.Proofs.Tryz.isAgg4
theorem aE1:type_of% @Go.Proofs.Tryz.ntmps11:=@Go.Proofs.Tryz.ntmps11
theorem aE2:type_of% @Go.Proofs.Tryz.ntmps246:=@Go.Proofs.Tryz.ntmps246
theorem aE3:type_of% @Go.Proofs.Tryz.sizeOf3:=@Go.Proofs.Tryz.sizeOf3
theorem aE4:type_of% @Go.Proofs.Tryz.sizeOf36:=@Go.Proofs.Tryz.sizeOf36
theorem aE5:type_of% @Go.Proofs.Tryz.sizeOf4:=@Go.Proofs.Tryz.sizeOf4
theorem aE6:type_of% @Go.Proofs.Tryz.underlying0:=@Go.Proofs.Tryz.underlying0
theorem aE7:type_of% @Go.Proofs.Tryz.underlying132:=@Go.Proofs.Tryz.underlying132
theorem aE8:type_of% @Go.Proofs.Tryz.underlying3:=@Go.Proofs.Tryz.underlying3
theorem aE9:type_of% @Go.Proofs.Tryz.underlying32:=@Go.Proofs.Tryz.underlying32
theorem aF0:type_of% @Go.Proofs.Tryz.underlying36:=@Go.Proofs.Tryz.underlying36
theorem aF1:type_of% @Go.Proofs.Tryz.underlying4:=@Go.Proofs.Tryz.underlying4
theorem aF2:type_of% @Go.Proofs.Tryz.underlying5:=@Go.Proofs.Tryz.underlying5
theorem aF3:type_of% @Go.Proofs.Tryz.underlying9:=@Go.Proofs.Tryz.underlying9
theorem aF4:type_of% @Go.Proofs.Tryz.zeroValue0:=@Go.Proofs.Tryz.zeroValue0
theorem aF5:type_of% @Go.Proofs.Tryz.zeroValue3:=@Go.Proofs.Tryz.zeroValue3
theorem aF6:type_of% @Go.Proofs.Tryz.zeroValue36:=@Go.Proofs.Tryz.zeroValue36
theorem aF7:type_of% @Go.Proofs.Tryz.zeroValue4:=@Go.Proofs.Tryz.zeroValue4
theorem aF8:type_of% @Go.World.block_lt_of_cell?:=@Go.World.block_lt_of_cell?
theorem aF9:type_of% @Go.World.cell?_alloc_at:=@Go.World.cell?_alloc_at
theorem aG0:type_of% @Go.World.drewN_drewN:=@Go.World.drewN_drewN
theorem aG1:type_of% @Go.World.ownsRow.alloc:=@Go.World.ownsRow.alloc
theorem aG2:type_of% @Go.World.ownsRow_nil:=@Go.World.ownsRow_nil
theorem aG3:type_of% @Go.World.size_alloc:=@Go.World.size_alloc
theorem aG4:type_of% @Go.below_drewN:=@Go.below_drewN
theorem aG5:type_of% @beq_eq_false_iff_ne:=@beq_eq_false_iff_ne
theorem aG6:type_of% @beq_iff_eq:=@beq_iff_eq
theorem aG7:type_of% @Go.cell_of_row:=@Go.cell_of_row
theorem aG8:type_of% @congrArg:=@congrArg
theorem aG9:type_of% @decide_eq_false:=@decide_eq_false
theorem aH0:type_of% @decide_eq_false_iff_not:=@decide_eq_false_iff_not
theorem aH1:type_of% @decide_eq_true:=@decide_eq_true
theorem aH2:type_of% @decide_eq_true_eq:=@decide_eq_true_eq
theorem aH3:type_of% @Go.frozen_of_row:=@Go.frozen_of_row
theorem aH4:type_of% @getElem!_pos:=@getElem!_pos
theorem aH5:type_of% @Go.heap_alloc_new:=@Go.heap_alloc_new
theorem aH6:type_of% @Go.heap_setCell_same:=@Go.heap_setCell_same
theorem aH7:type_of% @if_false:=@if_false
theorem aH8:type_of% @if_neg:=@if_neg
theorem aH9:type_of% @if_pos:=@if_pos
theorem aI0:type_of% @if_true:=@if_true
theorem aI1:type_of% @Go.info_parts:=@Go.info_parts
theorem aI2:type_of% @not_false_eq_true:=@not_false_eq_true
theorem aI3:type_of% @not_or:=@not_or
theorem aI4:type_of% @of_decide_eq_true:=@of_decide_eq_true
theorem aI5:type_of% @or_false:=@or_false
theorem aI6:type_of% @Go.rounds_succ:=@Go.rounds_succ
theorem aI7:type_of% @Go.run_underlying:=@Go.run_underlying
theorem aI8:type_of% @Go.strOfNums_data:=@Go.strOfNums_data
theorem aI9:type_of% @Go.strOfNums_size:=@Go.strOfNums_size
theorem aJ0:type_of% @Go.wpAnyH_ready:=@Go.wpAnyH_ready
theorem aJ1:type_of% @Go.wp_loop_rounds:=@Go.wp_loop_rounds
theorem E{p:Prop}(h:p:=by omega):p:=h
theorem Ek{p:Prop}(h:p:=by kernel_rfl):p:=h
theorem Es{p:Prop}(h:p:=by simp):p:=h
theorem Ed{p:Prop}(h:p:=by decide):p:=h
theorem Ei{a b:Prop}(h:a):a∨b:=Or.inl h
theorem Ej{a b:Prop}(h:b):a∨b:=Or.inr h
theorem θ{p:Prop}(h:p):RowKit.Hid p:=h
theorem _root_.Go.RowKit.Hid.o {p:Prop}(h:RowKit.Hid p):p:=h
def sy(l:List Int)(i:Nat):Int:=l[i]?.getD (-1)
theorem jY{l:List Int}{i:Nat}(h:i<l.length):sy l i=l[i]:=by simp[sy,h]
theorem dL{l:List Int}{i:Nat}(h:l.length≤i):sy l i= -1:=by simp[sy,h]
def eqK(l:List Int)(w a b:Nat):Prop:=∀d,d<w→sy l (a+d)=sy l (b+d)
def ltK(l:List Int)(w a b:Nat):Prop:=∃d,d<w∧eqK l d a b∧sy l (a+d)<sy l (b+d)
section
variable {l:List Int}{w v a b c:Nat}
theorem eqK.refl:eqK l w a a:=fun _ _=>rfl
theorem eqK.symm (h:eqK l w a b):eqK l w b a:=fun d hd=>(h d hd).symm
theorem eqK.trans (h:eqK l w a b)(k:eqK l w b c):eqK l w a c:=fun d hd=>(h d hd).trans (k d hd)
theorem eqK.mono (h:eqK l w a b)(hv:v≤w):eqK l v a b:=fun d hd=>h d E
theorem mH:eqK l (w+v) a b↔eqK l w a b∧eqK l v (a+w) (b+w):=by
 constructor
 ·intro h;exact⟨h.mono E,fun d hd=>by have :=h (w+d) (E);rwa[←az7,←az7]at this⟩
 ·rintro⟨h,k⟩ d hd;by_cases hw:d<w
  ·exact h d hw
  ·obtain⟨e,rfl⟩:=aA3 (show w≤d by omega);have :=k e E;rwa[az7,az7]at this
theorem mI:ltK l (w+v) a b↔ltK l w a b∨(eqK l w a b∧ltK l v (a+w) (b+w)):=by
 constructor
 ·rintro⟨d,hd,he,hlt⟩;by_cases hw:d<w
  ·exact Ei ⟨d,hw,he,hlt⟩
  ·obtain⟨e,rfl⟩:=aA3 (show w≤d by omega);obtain⟨h1,h2⟩:=mH.1 he;exact Ej ⟨h1,e,E,h2,by rwa[az7,az7]⟩
 ·rintro(⟨d,hd,he,hlt⟩ | ⟨he,d,hd,h2,hlt⟩)
  ·exact⟨d,E,he,hlt⟩
  ·exact⟨w+d,E,mH.2 ⟨he,h2⟩,by rwa[az7,az7]at hlt⟩
theorem jV(h:ltK l w a b):¬eqK l w a b:=by
 obtain⟨d,hd,_,hlt⟩:=h;intro he;have :=he d hd;omega
theorem tD(l:List Int)(w a b:Nat):ltK l w a b∨eqK l w a b∨ltK l w b a:=by
 induction w with
 | zero=>exact Ej (Ei (fun d hd=>E))
 | succ w ih=>
  rcases ih with h | h | h
  ·exact Ei (mI.2 (Ei h))
  ·rcases Int.lt_trichotomy (sy l (a+w)) (sy l (b+w))with k | k | k
   ·exact Ei ⟨w,E,h,k⟩
   ·refine Ej (Ei (mH.2 ⟨h,fun d hd=>?_⟩));obtain rfl:d=0:=E;simpa using k
   ·exact Ej (Ej ⟨w,E,h.symm,k⟩)
  ·exact Ej (Ej (mI.2 (Ei h)))
theorem lI(h:ltK l w a b)(k:ltK l w b c):ltK l w a c:=by
 obtain⟨d,hd,he,hlt⟩:=h;obtain⟨e,hE,hf,hlt2⟩:=k;rcases aB1 d e with hc | hc | hc
 ·exact⟨d,hd,he.trans (hf.mono E),by have :=hf d hc;omega⟩
 ·subst hc;exact⟨d,hd,he.trans hf,E⟩
 ·exact⟨e,hE,(he.mono E).trans hf,by have :=he e hc;omega⟩
theorem iB:¬ltK l w a a:=fun h=>jV h eqK.refl
theorem Rb(h:ltK l w a b):¬ltK l w b a:=fun k=>iB (lI h k)
theorem Rc(h:ltK l w a b)(k:eqK l w b c):ltK l w a c:=by
 obtain⟨d,hd,he,hlt⟩:=h;exact⟨d,hd,he.trans (k.mono E),by have :=k d hd;omega⟩
theorem Qf(k:eqK l w a b)(h:ltK l w b c):ltK l w a c:=by
 obtain⟨d,hd,he,hlt⟩:=h;exact⟨d,hd,(k.mono E).trans he,by have :=k d hd;omega⟩
theorem ltK.mono (h:ltK l w a b)(hv:w≤v):ltK l v a b:=by
 obtain⟨d,hd,he,hlt⟩:=h;exact⟨d,E,he,hlt⟩
end
def sufLt(l:List Int)(a b:Nat):Prop:=∃w,ltK l w a b
section
variable {l:List Int}{a b c:Nat}
theorem sufLt.trans (h:sufLt l a b)(k:sufLt l b c):sufLt l a c:=by
 obtain⟨w,h⟩:=h;obtain⟨v,k⟩:=k;exact⟨max w v,lI (h.mono E) (k.mono E)⟩
theorem sufLt.irrefl:¬sufLt l a a:=fun⟨w,h⟩=>iB h
theorem sufLt.asymm (h:sufLt l a b):¬sufLt l b a:=fun k=>sufLt.irrefl (h.trans k)
end
def Nn(l:List Int):Prop:=∀i,i<l.length→0≤sy l i
theorem pP{l:List Int}(hn:Nn l){w a b:Nat}(ha:a<b)(hb:b≤l.length)(hw:l.length-b<w):¬eqK l w a b:=by
 intro h;have h1:=h (l.length-b) hw;rw[dL (i:=b+(l.length-b)) E]at h1;have :=hn (a+(l.length-b)) E;omega
theorem aj7{l:List Int}(hn:Nn l){a b:Nat}(ha:a≤l.length)(hb:b≤l.length)(hne:a≠b):sufLt l a b∨sufLt l b a:=by
 rcases tD l (l.length+1) a b with h | h | h
 ·exact Ei ⟨_,h⟩
 ·rcases Nat.lt_or_gt_of_ne hne with k | k
  ·exact absurd h (pP hn k hb E)
  ·exact absurd h.symm (pP hn k ha E)
 ·exact Ej ⟨_,h⟩
theorem gT{l:List Int}{a b:Nat}:sufLt l a b↔sy l a<sy l b∨(sy l a=sy l b∧sufLt l (a+1) (b+1)):=by
 constructor
 ·rintro⟨w,h⟩;rcases aA2 w with rfl | hw
  ·obtain⟨d,hd,_⟩:=h;omega
  ·obtain⟨v,rfl⟩:=aA3 (show 1≤w by omega);rcases mI.1 h with ⟨d,hd,_,hlt⟩ | ⟨he,h2⟩
   ·obtain rfl:d=0:=E;exact Ei (by simpa using hlt)
   ·exact Ej ⟨by simpa using he 0 E,_,h2⟩
 ·rintro(h | ⟨h,w,h2⟩)
  ·exact⟨1,0,E,fun d hd=>E,by simpa using h⟩
  ·refine⟨1+w,mI.2 (Ej ⟨fun d hd=>?_,h2⟩)⟩;obtain rfl:d=0:=E;simpa using h
structure RankOf (l:List Int) (w:Nat) (rk:List Int):Prop where
 len:rk.length=l.length
 nn:Nn rk
 lt:∀a b,sy rk a<sy rk b↔ltK l w a b
 eq:∀a b,sy rk a=sy rk b↔eqK l w a b
theorem Nk{l:List Int}(hn:Nn l):RankOf l 1 l:=by
 refine⟨rfl,hn,fun a b=>⟨fun h=>⟨0,E,fun d hd=>E,by simpa using h⟩,fun⟨d,hd,_,h⟩=>?_⟩,fun a b=>⟨fun h d hd=>?_,fun h=>by simpa using h 0 E⟩⟩
 ·obtain rfl:d=0:=E;simpa using h
 ·obtain rfl:d=0:=E;simpa using h
def fR(rk:List Int)(w a b:Nat):Int:=if sy rk a=sy rk b then sy rk (a+w)-sy rk (b+w)else sy rk a-sy rk b
theorem af8{l rk:List Int}{w:Nat}(h:RankOf l w rk)(a b:Nat):fR rk w a b<0↔ltK l (w+w) a b:=by
 unfold fR;rw[mI,←h.lt,←h.lt,←h.eq];split
 ·rename_i e;constructor
  ·intro k;exact Ej ⟨e,E⟩
  ·rintro(k | ⟨_,k⟩)<;>omega
 ·rename_i e;constructor
  ·intro k;exact Ei E
  ·rintro(k | ⟨k,_⟩)
   ·omega
   ·exact absurd k e
theorem Lf{l rk:List Int}{w:Nat}(h:RankOf l w rk)(a b:Nat):fR rk w a b=0↔eqK l (w+w) a b:=by
 unfold fR;rw[mH,←h.eq,←h.eq];split
 ·rename_i e;constructor
  ·intro k;exact⟨e,E⟩
  ·rintro⟨_,k⟩;omega
 ·rename_i e;constructor
  ·intro k;omega
  ·rintro⟨k,_⟩;exact absurd k e
def mG(l:List Int)(w:Nat)(r:List Nat):Prop:=r.Perm (List.range l.length)∧r.Pairwise (fun a b=>¬ltK l w b a)
def cS(rk:List Int)(w:Nat)(r:List Nat):Nat→Nat
 | 0=>0
 | i+1=>cS rk w r i+(if fR rk w (r[i]?.getD 0) (r[i+1]?.getD 0)=0 then 0 else 1)
theorem pO(rk:List Int)(w:Nat)(r:List Nat):∀i,cS rk w r i≤i
 | 0=>aA5 _
 | i+1=>by have :=pO rk w r i;unfold cS;split<;>omega
theorem rT(rk:List Int)(w:Nat)(r:List Nat){i j:Nat}(h:i≤j):cS rk w r i≤cS rk w r j:=by
 induction j with
 | zero=>
      obtain rfl:i=0:=E;exact aA5 _
 | succ j ih=>
  rcases aB0 j i with k | k
  ·obtain rfl:i=j+1:=E;exact aA5 _
  ·refine aA6 (ih k) ?_;show cS rk w r j≤cS rk w r j+_;omega
section
variable {l rk:List Int}{w:Nat}{r:List Nat}
theorem bW{α:Type}{l:List α}{i:Nat}{d:α}(h:i<l.length):l[i]?.getD d=l[i]:=by simp[h]
theorem Gp(hs:mG l w r){i j:Nat}(hij:i≤j)(hj:j<r.length):¬ltK l w (r[j]?.getD 0) (r[i]?.getD 0):=by
 rcases aB0 i j with h | h
 ·rw[bW (show i<r.length by omega),bW hj];exact ay2.1 hs.2 i j E hj h
 ·obtain rfl:i=j:=E;exact iB
theorem Dx(h:RankOf l w rk)(hs:mG l (w+w) r){i j:Nat}(hij:i≤j)(hj:j<r.length):
  (cS rk w r i<cS rk w r j↔ltK l (w+w) (r[i]?.getD 0) (r[j]?.getD 0))∧(cS rk w r i=cS rk w r j↔eqK l (w+w) (r[i]?.getD 0) (r[j]?.getD 0)):=by
 induction j with
 | zero=>
  obtain rfl:i=0:=E;exact⟨⟨fun h=>E,fun h=>absurd h iB⟩,⟨fun _=>eqK.refl,fun _=>rfl⟩⟩
 | succ j ih=>
  rcases aB0 j i with k | k
  ·obtain rfl:i=j+1:=E;exact⟨⟨fun h=>E,fun h=>absurd h iB⟩,⟨fun _=>eqK.refl,fun _=>rfl⟩⟩
  ·obtain⟨i1,i2⟩:=ih k E;have hm:=rT rk w r k;have hle:=Gp hs (show j≤j+1 by omega) hj;have hle2:=Gp hs k E;have ho:=Lf h (r[j]?.getD 0) (r[j+1]?.getD 0);have hex:cS rk w r (j+1)=cS rk w r j+(if fR rk w (r[j]?.getD 0) (r[j+1]?.getD 0)=0 then 0 else 1):=rfl;by_cases e:fR rk w (r[j]?.getD 0) (r[j+1]?.getD 0)=0
   ·rw[aH9 e]at hex;have hq:=ho.1 e;rw[hex,aA0,i1,i2];exact⟨⟨fun h=>Rc h hq,fun h=>Rc h hq.symm⟩,⟨fun h=>h.trans hq,fun h=>h.trans hq.symm⟩⟩
   ·rw[aH8 e]at hex;have hne:¬eqK l (w+w) (r[j]?.getD 0) (r[j+1]?.getD 0):=fun q=>e (ho.2 q);have hlt:ltK l (w+w) (r[j]?.getD 0) (r[j+1]?.getD 0):=by
     rcases tD l (w+w) (r[j]?.getD 0) (r[j+1]?.getD 0)with q | q | q
     ·exact q
     ·exact absurd q hne
     ·exact absurd q hle
    have hall:ltK l (w+w) (r[i]?.getD 0) (r[j+1]?.getD 0):=by
     rcases tD l (w+w) (r[i]?.getD 0) (r[j]?.getD 0)with q | q | q
     ·exact lI q hlt
     ·exact Qf q hlt
     ·exact absurd q hle2
    exact⟨⟨fun _=>hall,fun _=>E⟩,⟨fun h=>E,fun q=>absurd q (jV hall)⟩⟩
theorem Sv{nx:List Int}(h:RankOf l w rk)(hw:0<w)(hn:Nn l)(hs:mG l (w+w) r)(hl:nx.length=l.length)(hx:∀i,i<r.length→sy nx (r[i]?.getD 0)=(cS rk w r i:Int)):RankOf l (w+w) nx:=by
 have hrl:r.length=l.length:=by have :=hs.1.length_eq;simpa using this
 have hfind:∀a,a<l.length→∃i,i<r.length∧r[i]?.getD 0=a:=by
  intro a ha;have :a∈r:=hs.1.mem_iff.2 (ax4.2 ha);obtain⟨i,hi,e⟩:=as4 this;exact⟨i,hi,by rw[bW hi,e]⟩
 have hnn:Nn nx:=by
  intro a ha;obtain⟨i,hi,rfl⟩:=hfind a E;rw[hx i hi];omega
 have hkey:∀a b,a<l.length→b<l.length→(sy nx a<sy nx b↔ltK l (w+w) a b)∧(sy nx a=sy nx b↔eqK l (w+w) a b):=by
  intro a b ha hb;obtain⟨i,hi,rfl⟩:=hfind a ha;obtain⟨j,hj,rfl⟩:=hfind b hb;rw[hx i hi,hx j hj];rcases Nat.le_total i j with k | k
  ·obtain⟨h1,h2⟩:=Dx h hs k hj;have hm:=rT rk w r k;exact⟨⟨fun q=>h1.1 E,fun q=>by have :=h1.2 q;omega⟩,⟨fun q=>h2.1 E,fun q=>by have :=h2.2 q;omega⟩⟩
  ·obtain⟨h1,h2⟩:=Dx h hs k hi;have hm:=rT rk w r k;exact⟨⟨fun q=>E,fun q=>absurd q (Gp hs k hi)⟩,⟨fun q=>(h2.1 E).symm,fun q=>by have :=h2.2 q.symm;omega⟩⟩
 have h0:∀a b,l.length≤a→b<l.length→ltK l (w+w) a b:=fun a b ha hb=>⟨0,E,fun d hd=>E,by rw[dL E];have :=hn b hb;simpa using by omega⟩;have h1:∀a b,l.length≤a→l.length≤b→eqK l (w+w) a b:=fun a b ha hb d hd=>by rw[dL E,dL E]
 refine⟨hl,hnn,fun a b=>?_,fun a b=>?_⟩
 ·by_cases ha:a<l.length<;>by_cases hb:b<l.length
  ·exact(hkey a b ha hb).1
  ·have :=hnn a E;rw[dL (i:=b) E];exact⟨fun q=>E,fun q=>absurd q (Rb (h0 b a E ha))⟩
  ·have :=hnn b E;rw[dL (i:=a) E];exact⟨fun _=>h0 a b E hb,fun _=>E⟩
  ·rw[dL (i:=a) E,dL (i:=b) E];exact⟨fun q=>E,fun q=>absurd (h1 a b E E) (jV q)⟩
 ·by_cases ha:a<l.length<;>by_cases hb:b<l.length
  ·exact(hkey a b ha hb).2
  ·have :=hnn a E;rw[dL (i:=b) E];exact⟨fun q=>E,fun q=>absurd q.symm (jV (h0 b a E ha))⟩
  ·have :=hnn b E;rw[dL (i:=a) E];exact⟨fun q=>E,fun q=>absurd q (jV (h0 a b E hb))⟩
  ·rw[dL (i:=a) E,dL (i:=b) E];exact⟨fun _=>h1 a b E E,fun _=>rfl⟩
end
def IsRows(l:List Int)(r:List Nat):Prop:=r.Perm (List.range l.length)∧r.Pairwise (sufLt l)
theorem IsRows.len {l:List Int}{r:List Nat}(h:IsRows l r):r.length=l.length:=by have :=h.1.length_eq;simpa using this
theorem IsRows.lt {l:List Int}{r:List Nat}(h:IsRows l r){i:Nat}(hi:i<r.length):r[i]<l.length:=ax4.1 (h.1.mem_iff.1 (as3 hi))
theorem IsRows.nodup {l:List Int}{r:List Nat}(h:IsRows l r):r.Nodup:=h.1.nodup_iff.2 ax9
theorem IsRows.find {l:List Int}{r:List Nat}(h:IsRows l r){a:Nat}(ha:a<l.length):∃i,∃hi:i<r.length,r[i]=a:=
 as4 (h.1.mem_iff.2 (ax4.2 ha))
theorem rN{R:Nat→Nat→Prop}(has:∀a b,R a b→¬R b a):∀{r s:List Nat},r.Perm s→r.Pairwise R→s.Pairwise R→r=s
 | [],s,hp,_,_=>by have :=hp.length_eq;exact(List.eq_nil_of_length_eq_zero (by simpa using this.symm)).symm
 | a::r,[],hp,_,_=>by have :=hp.length_eq;simp at this
 | a::r,b::s,hp,h1,h2=>by
  have hab:a=b:=by
   have ha:a∈b::s:=hp.mem_iff.1 (ax0);have hb:b∈a::r:=hp.mem_iff.2 (ax0);rcases av9.1 ha with e | e
   ·exact e
   ·rcases av9.1 hb with e2 | e2
    ·exact e2.symm
    ·exact absurd (List.rel_of_pairwise_cons h1 e2) (has _ _ (List.rel_of_pairwise_cons h2 e))
  subst hab;rw[rN has (List.Perm.cons_inv hp) (List.Pairwise.of_cons h1) (List.Pairwise.of_cons h2)]
theorem pJ{l:List Int}{r s:List Nat}(h:IsRows l r)(k:IsRows l s):r=s:=
 rN (fun _ _ h=>h.asymm) (h.1.trans k.1.symm) h.2 k.2
theorem Te{l rk:List Int}{w:Nat}{r:List Nat}(h:RankOf l w rk)(hs:mG l (w+w) r)(hc:cS rk w r (r.length-1)=r.length-1):IsRows l r:=by
 refine⟨hs.1,ay2.2 (fun i j hi hj hij=>?_)⟩;have hstep:∀n,n≤r.length-1→cS rk w r n=n:=by
  intro n hn;have :∀m,n+m=r.length-1→cS rk w r n+m≥r.length-1:=by
   intro m hm;rw[←hm]at hc⊢;have hb:∀k,cS rk w r (n+k)≤cS rk w r n+k:=by
    intro k;induction k with
    | zero=>exact aA5 _
    | succ k ih=>rw[←az7];show cS rk w r (n+k)+_≤_;split<;>omega
   have :=hb m;omega
  have h1:=this (r.length-1-n) E;have h2:=pO rk w r n;omega
 have :=(Dx h hs (show i≤j by omega) hj).1.1 (by rw[hstep i E,hstep j E];exact hij);rw[bW hi,bW hj]at this;exact⟨_,this⟩
theorem By{l rk:List Int}{w:Nat}{r:List Nat}(hn:Nn l)(h:RankOf l w rk)(hs:mG l (w+w) r)(hc:cS rk w r (r.length-1)≠r.length-1):w+w<l.length:=by
 have hrl:r.length=l.length:=by have :=hs.1.length_eq;simpa using this
 rcases aB0 (w+w) l.length with k | k
 ·exact k
 ·exfalso;apply hc;have :∀n,n≤r.length-1→cS rk w r n=n:=by
   intro n;induction n with
   | zero=>intro _;rfl
   | succ n ih=>
    intro hn';have hi:=ih E;show cS rk w r n+_=_;have h1:n<r.length:=E;have h2:n+1<r.length:=E;rw[aH8,hi];intro e;have he:=(Lf h _ _).1 e;rw[bW h1,bW h2]at he;have l1:r[n]<l.length:=ax4.1 (hs.1.mem_iff.1 (as3 h1));have l2:r[n+1]<l.length:=ax4.1 (hs.1.mem_iff.1 (as3 h2));have hne:r[n]≠r[n+1]:=fun e=>by
     have hnd:r.Nodup:=hs.1.nodup_iff.2 ax9;exact ay2.1 hnd n (n+1) h1 h2 E e
    rcases Nat.lt_or_gt_of_ne hne with q | q
    ·rcases aA2 r[n]with z | z
     ·exact pP hn q E E he
     ·exact pP hn q E E he
    ·exact pP hn q E E he.symm
  exact this _ (aA5 _)
structure Tl where
 N:Nat→Int
 all:Int
def bl(N:Nat→Int):Nat→Int
 | 0=>0
 | k+1=>bl N k+N k
structure Tl.Ok (t:Tl):Prop where
 pos:∀s,s<257→0≤t.N s
 sum:bl t.N 257=t.all
 max:t.all≤2147483648
theorem kF{N:Nat→Int}(h:∀s,s<257→0≤N s){a b:Nat}(hab:a≤b)(hb:b≤257):bl N a≤bl N b:=by
 induction b with
 | zero=>
      have :a=0:=E;subst this;exact Int.le_refl _
 | succ b ih=>
  by_cases e:a=b+1
  ·subst e;exact Int.le_refl _
  ·have :=ih E E;have :=h b E;simp only[bl];omega
theorem rQ{N:Nat→Int}(h:∀s,s<257→0≤N s){b:Nat}(hb:b≤257):0≤bl N b:=by
 have :=kF h (aC8 b) hb;simpa[bl]using this
def upd(N:Nat→Int)(s:Nat)(v:Int):Nat→Int:=fun x=>if x=s then v else N x
theorem bl_upd(N:Nat→Int)(s:Nat)(v:Int)(k:Nat):bl (upd N s v) k=bl N k+(if s<k then v-N s else 0):=by
 induction k with
 | zero=>simp[bl]
 | succ k ih=>
  simp only[bl,ih,upd];by_cases e:k=s
  ·subst e;rw[aH9 rfl,aH8 E,aH9 E];omega
  ·rw[aH8 e];by_cases h:s<k
   ·rw[aH9 h,aH9 E];omega
   ·rw[aH8 h,aH8 E];omega
def Tl.add (t:Tl)(s:Nat)(n:Int):Tl:=⟨upd t.N s (t.N s+n),t.all+n⟩
theorem Tl.add_ok {t:Tl}(h:t.Ok){s:Nat}(hs:s<257){n:Int}(h1: -t.N s≤n)(h2:n≤2147483648-t.all):(t.add s n).Ok:=by
 refine⟨fun x hx=>?_,?_,?_⟩
 ·show 0≤upd t.N s (t.N s+n) x;unfold upd;split
  ·omega
  ·exact h.pos x hx
 ·show bl (upd t.N s (t.N s+n)) 257=t.all+n;rw[bl_upd,aH9 hs,h.sum];omega
 ·show t.all+n≤2147483648;omega
def Tl.zero:Tl:=⟨fun _=>0,0⟩
theorem ad0(k:Nat):bl (fun _=>0) k=0:=by
 induction k with
 | zero=>rfl
 | succ k ih=>simp[bl,ih]
theorem Tl.zero_ok:Tl.zero.Ok:=⟨fun _ _=>Int.le_refl _,ad0 257,by show (0:Int)≤_;omega⟩
theorem Tl.Ok.le {t:Tl}(h:t.Ok){s:Nat}(hs:s<257):t.N s≤t.all:=by
 have h1:=kF h.pos (show s+1≤257 by omega) (aA5 _);have h2:=rQ h.pos (show s≤257 by omega);have h3:bl t.N (s+1)=bl t.N s+t.N s:=rfl;rw[h.sum]at h1;omega
theorem Tl.Ok.all_pos {t:Tl}(h:t.Ok):0≤t.all:=by
 have :=rQ h.pos (aA5 257);rw[h.sum]at this;exact this
def gX(s:Int):Nat:=(min (max s 0) 257).toNat
theorem vN(s:Int):gX s≤257:=by unfold gX;omega
def IsWhich(t:Tl)(k r:Int):Prop:=
 ((k<0∨t.all≤k)→r= -1)∧((0≤k∧k<t.all)→∃s:Nat,s<257∧r=s∧bl t.N s≤k∧k<bl t.N (s+1))
theorem IsWhich.unique {t:Tl}(h:t.Ok){k r r':Int}(h1:IsWhich t k r)(h2:IsWhich t k r'):r=r':=by
 by_cases hk:0≤k∧k<t.all
 ·obtain⟨s,hs,rfl,a1,a2⟩:=h1.2 hk;obtain⟨s',hs',rfl,b1,b2⟩:=h2.2 hk;have e:s=s':=by
   rcases aB1 s s' with hl | he | hg
   ·have :=kF h.pos (show s+1≤s' by omega) (E);omega
   ·exact he
   ·have :=kF h.pos (show s'+1≤s by omega) (E);omega
  rw[e]
 ·have h3:k<0∨t.all≤k:=E;rw[h1.1 h3,h2.1 h3]
def cnt(l:List Int)(s:Int):Nat:=l.countP (· ==s)
def Tl.of (l:List Int):Tl:=⟨fun s=>(cnt l s:Int),l.length⟩
theorem Wb(l:List Int)(x s:Int):cnt (l++[x]) s=cnt l s+(if x=s then 1 else 0):=by
 unfold cnt;rw[ap2];simp only[ap4,List.countP_nil,aG6];split<;>simp
theorem Tl.of_snoc (l:List Int)(s:Nat):Tl.of (l++[(s:Int)])=(Tl.of l).add s 1:=by
 unfold Tl.of Tl.add;congr 1
 ·funext x;show ((cnt (l++[(s:Int)]) (x:Int):Nat):Int)=upd _ s _ x;rw[Wb];unfold upd;by_cases e:x=s
  ·subst e;simp
  ·rw[aH8 E,aH8 e];simp
 ·simp
noncomputable def fK (l:List Int) (a b:Nat):Bool:=@decide (sufLt l a b) (Classical.propDecidable _)
theorem eO{l:List Int}{a b:Nat}:fK l a b=true↔sufLt l a b:=by unfold fK;simp
theorem gY{α:Type}{f g h:α→Bool}:∀{l:List α},(∀x∈l,f x=(g x||h x))→(∀x∈l,¬(g x=true∧h x=true))→l.countP f=l.countP g+l.countP h
 | [],_,_=>rfl
 | x::l,h1,h2=>by
  have ih:=gY (l:=l) (fun y hy=>h1 y (List.mem_cons_of_mem _ hy)) (fun y hy=>h2 y (List.mem_cons_of_mem _ hy));have a:=h1 x ax0;have b:=h2 x ax0;rw[ap4,ap4,ap4,ih,a];cases hg:g x<;>cases hh:h x<;>simp_all<;>omega
structure IsSyms (l:List Int):Prop where
 pos:0<l.length
 last:sy l (l.length-1)=0
 rest:∀i,i<l.length-1→0<sy l i
theorem IsSyms.nn {l:List Int}(h:IsSyms l):Nn l:=fun i hi=>by
 rcases aB0 i (l.length-1)with k | k
 ·have :=h.rest i k;omega
 ·obtain rfl:i=l.length-1:=E;have :=h.last;omega
theorem IsSyms.zero {l:List Int}(h:IsSyms l){i:Nat}(hi:i<l.length)(hz:sy l i=0):i=l.length-1:=by
 rcases aB0 i (l.length-1)with k | k
 ·have :=h.rest i k;omega
 ·omega
def bZ(l:List Int)(r:List Nat):List Int:=r.map fun i=>sy l ((i+l.length-1)%l.length)
theorem lG(l:List Int)(r:List Nat):(bZ l r).length=r.length:=by simp[bZ]
theorem vU{l:List Int}{r:List Nat}{i:Nat}(hi:i<r.length):sy (bZ l r) i=sy l ((r[i]+l.length-1)%l.length):=by
 unfold bZ sy;simp[hi]
theorem rB(n:Nat):(List.range n).Perm ((List.range n).map fun q=>(q+1)%n):=by
 cases n with
 | zero=>exact ao5 _
 | succ m=>
  have e:((List.range (m+1)).map fun q=>(q+1)%(m+1))=(List.range m).map (· +1)++[0]:=by
   rw[ay4,at6];congr 1
   ·apply at7;intro q hq;have :=ax4.1 hq;exact aB3 E
   ·simp
  rw[e,List.range_succ_eq_map];exact(List.perm_append_singleton _ _).symm
theorem jX(l:List Int):(List.range l.length).map (sy l)=l:=by
 apply aq3;intro i;by_cases h:i<l.length
 ·simp[h,sy]
 ·rw[ar4 (by simp;omega),ar4 E]
theorem yX{n q:Nat}(h:q<n):((q+1)%n+n-1)%n=q:=by
 by_cases e:q+1=n
 ·subst e;rw[Nat.mod_self,aC7];exact aB3 E
 ·rw[aB3 (show q+1<n by omega),show q+1+n-1=q+n by omega,az8];exact aB3 h
theorem lH{l:List Int}{r:List Nat}(h:IsRows l r):(bZ l r).Perm l:=by
 have h1:(bZ l r).Perm ((List.range l.length).map fun i=>sy l ((i+l.length-1)%l.length)):=h.1.map _;refine h1.trans (((rB l.length).map _).trans (List.Perm.of_eq ?_));rw[av0];refine Eq.trans (at7 (fun q hq=>?_)) (jX l);show sy l (((q+1)%l.length+l.length-1)%l.length)=sy l q;rw[yX (ax4.1 hq)]
section
variable {l:List Int}{r:List Nat}
theorem yC(h:IsRows l r){j:Nat}(hj:j<r.length)(f:Nat→Bool):(r.take j).countP f=(List.range l.length).countP fun q=>fK l q r[j]&&f q:=by
 rw[←h.1.countP_eq];generalize hx:r[j]=x;have hsp:r.countP (fun q=>fK l q x&&f q)=(r.take j).countP (fun q=>fK l q x&&f q)+(r.drop j).countP (fun q=>fK l q x&&f q):=by
  rw[←ap2,az0]
 rw[hsp];subst hx;have h1:(r.take j).countP (fun q=>fK l q r[j]&&f q)=(r.take j).countP f:=by
  refine ap3 (fun q hq=>?_);obtain⟨k,hk,rfl⟩:=as4 hq;rw[at5]at hk;have :fK l r[k] r[j]=true:=eO.2 (ay2.1 h.2 k j E hj E);rw[as5,this,Bool.true_and]
 have h2:(r.drop j).countP (fun q=>fK l q r[j]&&f q)=0:=by
  rw[ap5];intro q hq;obtain⟨k,hk,rfl⟩:=as4 hq;rw[as8]at hk;rw[as1];have :¬sufLt l r[j+k] r[j]:=by
   rcases aA2 k with rfl | k0
   ·exact sufLt.irrefl
   ·exact(ay2.1 h.2 j (j+k) hj E E:sufLt l _ _).asymm
  have :fK l r[j+k] r[j]=false:=by
   rw[←am7];exact fun e=>this (eO.1 e)
  rw[this];simp
 rw[h1,h2];rfl
theorem sE(h:IsRows l r){j:Nat}(hj:j<r.length):(List.range l.length).countP (fun q=>fK l q r[j])=j:=by
 have :=yC h hj (fun _=>true);simp only[Bool.and_true]at this;rw[←this,List.countP_true,at5];omega
def aQ(m:List Int)(s:Int):Nat:=m.countP fun x=>decide (x<s)
def lfL(m:List Int)(row:Nat):Nat:=aQ m (sy m row)+cnt (m.take row) (sy m row)
theorem Kp(hs:IsSyms l)(h:IsRows l r){i:Nat}(hi:i<r.length):∃hj:lfL (bZ l r) i<r.length,r[lfL (bZ l r) i]=(r[i]+l.length-1)%l.length:=by
 have hn:=hs.pos;have hp:(r[i]+l.length-1)%l.length<l.length:=aB4 _ hn;obtain⟨j,hj,ej⟩:=h.find hp;have key:lfL (bZ l r) i=j:=by
  have hri:=h.lt hi;rw[←sE h hj,ej];generalize hpe:(r[i]+l.length-1)%l.length=p at *;have hsy:sy (bZ l r) i=sy l p:=by rw[vU hi,hpe]
  unfold lfL;rw[hsy];rw[gY (g:=fun q=>decide (sy l q<sy l p)) (h:=fun q=>decide (sy l q=sy l p)&&fK l (q+1) (p+1))]
  ·congr 1
   ·unfold aQ;rw[(lH h).countP_eq];have e:=aG8 (List.countP fun x=>decide (x<sy l p)) (jX l);rw[ap7]at e;exact e.symm
   ·unfold cnt bZ;rw[←av6,ap7,yC h hi,(rB l.length).countP_eq,ap7];refine ap3 (fun q hq=>?_);have hq:=ax4.1 hq;simp only[Function.comp,yX hq,am5,aG6,aH2,eO];rw[and_comm];refine and_congr_right (fun e=>?_);by_cases hz:r[i]=0
    ·rw[hz,aC7,aB3 (show l.length-1<l.length by omega)]at hpe;subst hpe;rw[hs.last]at e;obtain rfl:=hs.zero hq e;rw[hz,show l.length-1+1=l.length by omega,Nat.mod_self];exact⟨fun h=>absurd h sufLt.irrefl,fun h=>absurd h sufLt.irrefl⟩
    ·have hpe:p=r[i]-1:=by
      rw[←hpe,show r[i]+l.length-1=(r[i]-1)+l.length by omega,az8];exact aB3 E
     subst hpe;have h0:=hs.rest (r[i]-1) E;have hq1:q+1<l.length:=by
      rcases aB0 (q+1) l.length with k | k
      ·exact k
      ·obtain rfl:q=l.length-1:=E;rw[hs.last]at e;omega
     rw[aB3 hq1,show r[i]-1+1=r[i] by omega]
  ·intro q hq;rw[am6,eO,gT];simp[eO]
  ·intro q hq;simp only[am5,aH2];omega
 exact⟨by rw[key];exact hj,by simp only[key];exact ej⟩
theorem Td(hs:IsSyms l)(h:IsRows l r):∃h0:0<r.length,r[0]=l.length-1:=by
 have hn:=hs.pos;obtain⟨j,hj,ej⟩:=h.find (show l.length-1<l.length by omega);have :j=0:=by
  rw[←sE h hj,ej,ap5];intro q hq e;have hq:=ax4.1 hq;rw[eO,gT,hs.last]at e;have :=hs.nn q hq;rcases e with e | ⟨e,e2⟩
  ·omega
  ·obtain rfl:=hs.zero hq e;exact sufLt.irrefl e2
 subst this;exact⟨hj,ej⟩
def chain(m:List Int):Nat→Nat
 | 0=>0
 | k+1=>lfL m (chain m k)
end
def aA(t:List Int):List Int:=t.map (· +1)++[0]
theorem aI(t:List Int):(aA t).length=t.length+1:=by simp[aA]
theorem kS{t:List Int}{i:Nat}(h:i<t.length):sy (aA t) i=t[i]+1:=by
 unfold sy aA;rw[List.getElem?_append_left (by simpa using h)];simp[h]
theorem oW(t:List Int):sy (aA t) t.length=0:=by unfold sy aA;simp
def aU(t:List Int):Prop:=∀x∈t,0≤x∧x<256
theorem dY{t:List Int}(h:aU t):IsSyms (aA t):=by
 refine⟨by rw[aI];omega,by rw[aI];exact oW t,fun i hi=>?_⟩;rw[aI]at hi;rw[kS E];have :=h _ (as3 (show i<t.length by omega));omega
theorem lB{t:List Int}(h:aU t):∀x∈aA t,0≤x∧x<257:=by
 intro x hx;unfold aA at hx;rcases av8.1 hx with k | k
 ·obtain⟨y,hy,rfl⟩:=ax1.1 k;have :=h y hy;omega
 ·simp at k;omega
def IsLast(t m:List Int):Prop:=aU t∧∃r,IsRows (aA t) r∧bZ (aA t) r=m
section
variable {t m:List Int}
theorem IsLast.len (h:IsLast t m):m.length=t.length+1:=by
 obtain⟨_,r,hr,rfl⟩:=h;rw[lG,hr.len,aI]
theorem IsLast.perm (h:IsLast t m):m.Perm (aA t):=by
 obtain⟨_,r,hr,rfl⟩:=h;exact lH hr
theorem IsLast.range (h:IsLast t m):∀x∈m,0≤x∧x<257:=fun x hx=>lB h.1 x (h.perm.mem_iff.1 hx)
end
section
open Go.RowKit
theorem dV{a b:Bool}(h:a=b):Ending.returned (.bool a)=Ending.returned (.bool b):=by rw[h]
theorem aT{k:IntKind}{a b:Int}(h:a=b):Ending.returned (.int k a)=Ending.returned (.int k b):=by rw[h]
theorem cL{w:World}{base:Nat}{e:TypeId}{v:Value}{n:Nat}{xs:List Value}(h:w.ownsRow base e 1 v n xs)(hn:0<n):
  ∃g cap,v= .slice (some ⟨g,0,none⟩) n cap∧base≤g∧g<w.heap.size∧n≤cap∧cap≤maxLen∧(∀j,j<n→w.cell? ⟨g,j,none⟩=xs[j]?)∧(∀j,w.frozen? ⟨g,j,none⟩=false):=by
 obtain⟨hl,hh⟩:=h;rcases hh with ⟨_,h0⟩ | ⟨g,cap,cur,hv,hb,hg,hc,hm,hs,ht⟩
 ·omega
 ·refine⟨g,cap,hv,hb,(am0.1 hg).1,hc,hm,fun j hj=>?_,fun j=>aH3 w g j cur e hg⟩;rw[aG7 w g j cur e (0,0) hg,←ht,ar9,aH9 (by omega)];simp
theorem pW{w:World}{base:Nat}{e:TypeId}{v:Value}{n:Nat}{xs:List Value}(h:w.ownsRow base e 1 v n xs):xs.length=n:=by
 have :=h.1;omega
theorem sB{w w':World}{base B:Nat}{e:TypeId}{v:Value}{n:Nat}{xs:List Value}(h:w.ownsRow base e 1 v n xs)(hb:Below B w w')(hB:∀k,v.ownBlock=some k→k<B):w'.ownsRow base e 1 v n xs:=by
 refine⟨h.1,?_⟩;rcases h.2 with hn | ⟨g,cap,cur,rfl,hbg,hg,rest⟩
 ·exact .inl hn
 ·exact .inr ⟨g,cap,cur,rfl,hbg,by rw[hb.block g (hB g rfl)];exact hg,rest⟩
theorem mV{w:World}{base base':Nat}{e:TypeId}{v:Value}{n:Nat}{xs:List Value}(h:w.ownsRow base e 1 v n xs)(hb:base'≤base):w.ownsRow base' e 1 v n xs:=by
 refine⟨h.1,?_⟩;rcases h.2 with hn | ⟨g,cap,cur,rfl,hbg,rest⟩
 ·exact .inl hn
 ·exact .inr ⟨g,cap,cur,rfl,by omega,rest⟩
theorem lC{P:Program}{w:World}{ops:Array Oper}{rest:List Oper}{o:Oper}{a:Act}{Q:Exit→Act→World→Prop}{e':TypeId}{u:Value}(hgd:o.guard=none)(s x:Operand)(t:TypeId)
  (ho:o.op= .call {callee:= .builtin .append,args:=#[s,x],argTypes:=#[t,t]})
  (base:Nat) (e:TypeId) {z:Value} {bytes:Nat} (hinfo:(P.info? e).map (fun i=>(i.zero,i.size,i.bytes))=some (some z,1,bytes)) (ht:P.underlying t=some (.slice e)) (hz1:z.cells.size=1)
  (v:Value) (n:Nat) (xs:List Value) (hs:a.eval s=v) (hown:w.ownsRow base e 1 v n xs)
  (hx:a.eval x= .slice (some ⟨w.heap.size,0,none⟩) 1 1) (h1:u.oneCell'=true)
  (h63:n+1≤maxLen) (hbytes:(n+1)*bytes≤140737488355328) (hbase:base≤w.heap.size)
  (h:∀v' w',w'.ownsRow base e 1 v' (n+1) (xs++[u])→w.grownBy w' v.ownBlock→wpList P ops Q rest (a.put o.dst v') w'):wpList P ops Q (o::rest) a (w.alloc (.cells #[u] e')):=by
 obtain⟨i,hi,hz,hsz,hby⟩:=aI1 hinfo;refine wpList_append_own (w.alloc (.cells #[u] e')) hgd s x t ho base e i z 1 bytes ht hi hz hsz hby hz1 (by omega) v n xs hs (hown.alloc _) ⟨w.heap.size,0,none⟩ 1 1 [u] hx rfl ?_ ?_ h63 hbytes ?_ ?_
 ·intro j u' hj;match j,hj with
  | 0,hj=>simp at hj;subst hj;simp[Addr.add]
 ·intro u' hu;simp at hu;subst hu;exact h1
 ·simp;omega
 ·intro v' w' h1 h2 _;exact h v' w' h1 ⟨h2.os,h2.tape,h2.output,by have :=h2.size;simp at this;omega,fun k hk hne=>by
   rw[h2.block k (by simp;omega) hne];exact am3 w _ k hk⟩
def Reads(w:World)(k:IntKind)(a:Option Addr)(xs:List Int):Prop:=
 ∀i,i<xs.length→∃b off,a=some ⟨b,off,none⟩∧b<w.heap.size∧∀j,j<xs.length→w.cell? ⟨b,off+j,none⟩=some (.int k (xs[j]?.getD 0))
theorem Reads.some {w:World}{k:IntKind}{a:Option Addr}{xs:List Int}(h:Reads w k a xs)(hn:0<xs.length):
  ∃b off,a=some ⟨b,off,none⟩∧b<w.heap.size∧∀j,j<xs.length→w.cell? ⟨b,off+j,none⟩=some (.int k (xs[j]?.getD 0)):=h 0 hn
theorem Reads.below {w w':World}{k:IntKind}{a:Option Addr}{xs:List Int}(h:Reads w k a xs)(hb:Below w.heap.size w w'):Reads w' k a xs:=by
 intro i hi;obtain⟨b,off,ha,hlt,hc⟩:=h i hi;exact⟨b,off,ha,by have :=hb.size;omega,fun j hj=>(hb.cell hlt).trans (hc j hj)⟩
theorem Reads.nil {w:World}{k:IntKind}{a:Option Addr}:Reads w k a []:=fun i hi=>absurd hi (by simp)
theorem Sx{w:World}{k:IntKind}{b off:Nat}{x:Int}(h:w.cell? ⟨b,off,none⟩=some (.int k x)):Reads w k (some ⟨b,off,none⟩) [x]:=by
 intro i hi;refine⟨b,off,rfl,aF8 w _ h,fun j hj=>?_⟩;obtain rfl:j=0:=by simpa using hj
 exact h
def oJ(xs:List Int):Prop:=∀i,i<xs.length→0≤xs[i]?.getD 0∧xs[i]?.getD 0<256
structure ArgI (k:IntKind) (w:World) (a:Option Addr) (cap:Nat) (xs:List Int):Prop where
 reads:Reads w k a xs
 wf:∀i,i<xs.length→(Lit.int k (xs[i]?.getD 0)).wf=true
 le:xs.length≤cap
 max:cap≤maxLen
 nil:a=none→cap=0
theorem jC{w:World}{base:Nat}{e:TypeId}{k:IntKind}{a:Option Addr}{n c:Nat}{xs:List Int}(h:w.ownsRow base e 1 (.slice a n c) n (xs.map (Value.int k))):Reads w k a xs:=by
 have hl:=pW h;rw[at1]at hl;intro i hi;obtain⟨g,cap,hv,hb,hg,hc,hm,hcell,_⟩:=cL h (by omega);injection hv with h1 h2 h3
 refine⟨g,0,h1,hg,fun j hj=>?_⟩;rw[aC7,hcell j (by omega),ar6,ar3 hj];rfl
section
variable {P:Program}{md:Region.Mode}{l:List Oper}{Q:Exit→Act→World→Prop}{S:World→Prop}{i:Nat}{oi:Oper}{fuel:Nat}{listed:Array Bool}{a:Act}{w:World}
theorem cO(hi:(l.drop i).head?=some oi):l.toArray[i]? =some oi:=by
 rw[List.head?_drop]at hi;simpa using hi
theorem aE{id:Nat}(S:World→Prop)(hm:P.follows .mixedOrders=true)(hS:S w.drew)
  (h:S w.drew→wpAnyH P .any l.toArray (NoPanic Q) S l.length (Array.replicate l.length false) a w.drew):(Code.region id l.toArray true).wp P Q a w:=by
 refine wp_region_noPanic (wp_region_held_drew hm hS ?_);rw[ay7];exact h
theorem bV{v:Value}(hi:(l.drop i).head?=some oi)(hk:(Region.noSelect l.toArray&&Region.free md l.toArray listed i&&(Region.ready md l.toArray listed).contains i)=true)
  (hw:Region.wanted oi (yielded l.toArray a.tmps)=true) (hS:S w) (hy:∀w,S w→(execOp a.eval oi).run P w= .ok (.value v) w)
  (h:wpAnyH P md l.toArray (NoPanic Q) S fuel (listed.setIfInBounds i true) (a.put oi.dst v) w):wpAnyH P md l.toArray (NoPanic Q) S (fuel+1) listed a w:=by
 simp only[am5]at hk;exact wpAnyH_take (cO hi) hk.1.1 hk.1.2 hk.2 (fun _ _ _ h=>h) (Or.inl ⟨hw,hy⟩) hS h
theorem Zg(hi:(l.drop i).head?=some oi)(hr:Region.ready md l.toArray listed=[i])(hw:Region.wanted oi (yielded l.toArray a.tmps)=true)
  (h:∀K:Act→World→Prop,Shut (∀a w,S w→(S w→wpAnyH P md l.toArray (NoPanic Q) S fuel (listed.setIfInBounds i true) a w)→K a w)→Oper.wp P oi a w K (NoPanic Q)):
  wpAnyH P md l.toArray (NoPanic Q) S (fuel+1) listed a w:=by
 refine aJ0 hr (by simp) (al6 (cO hi) (fun K hK=>?_) al7);rw[aH9 hw];exact h K hK
theorem dA{j:Nat}{oj:Oper}(hi:(l.drop i).head?=some oi)(hj:(l.drop j).head?=some oj)(hr:Region.ready md l.toArray listed=[i,j])(hwi:Region.wanted oi (yielded l.toArray a.tmps)=true)(hwj:Region.wanted oj (yielded l.toArray a.tmps)=true)
  (h1:∀K:Act→World→Prop,Shut (∀a w,S w→(S w→wpAnyH P md l.toArray (NoPanic Q) S fuel (listed.setIfInBounds i true) a w)→K a w)→Oper.wp P oi a w K (NoPanic Q))
  (h2:∀K:Act→World→Prop,Shut (∀a w,S w→(S w→wpAnyH P md l.toArray (NoPanic Q) S fuel (listed.setIfInBounds j true) a w)→K a w)→Oper.wp P oj a w K (NoPanic Q)):
  wpAnyH P md l.toArray (NoPanic Q) S (fuel+1) listed a w:=by
 refine aJ0 hr (by simp) (al6 (cO hi) (fun K hK=>?_) (al6 (cO hj) (fun K hK=>?_) al7))
 ·rw[aH9 hwi];exact h1 K hK
 ·rw[aH9 hwj];exact h2 K hK
theorem Br{j k:Nat}{oj ok:Oper}(hi:(l.drop i).head?=some oi)(hj:(l.drop j).head?=some oj)(hk:(l.drop k).head?=some ok)(hr:Region.ready md l.toArray listed=[i,j,k])(hwi:Region.wanted oi (yielded l.toArray a.tmps)=true)(hwj:Region.wanted oj (yielded l.toArray a.tmps)=true)(hwk:Region.wanted ok (yielded l.toArray a.tmps)=true)
  (h1:∀K:Act→World→Prop,Shut (∀a w,S w→(S w→wpAnyH P md l.toArray (NoPanic Q) S fuel (listed.setIfInBounds i true) a w)→K a w)→Oper.wp P oi a w K (NoPanic Q))
  (h2:∀K:Act→World→Prop,Shut (∀a w,S w→(S w→wpAnyH P md l.toArray (NoPanic Q) S fuel (listed.setIfInBounds j true) a w)→K a w)→Oper.wp P oj a w K (NoPanic Q))
  (h3:∀K:Act→World→Prop,Shut (∀a w,S w→(S w→wpAnyH P md l.toArray (NoPanic Q) S fuel (listed.setIfInBounds k true) a w)→K a w)→Oper.wp P ok a w K (NoPanic Q)):
  wpAnyH P md l.toArray (NoPanic Q) S (fuel+1) listed a w:=by
 refine aJ0 hr (by simp) (al6 (cO hi) (fun K hK=>?_) (al6 (cO hj) (fun K hK=>?_) (al6 (cO hk) (fun K hK=>?_) al7)))
 ·rw[aH9 hwi];exact h1 K hK
 ·rw[aH9 hwj];exact h2 K hK
 ·rw[aH9 hwk];exact h3 K hK
theorem Zf(hr:Region.ready md l.toArray listed=[])(h:Q .normal a w)(n:Nat):wpAnyH P md l.toArray (NoPanic Q) S n listed a w:=
 wpAnyH_done hr (NoPanic.normal h) n
theorem rt{v:Value}{a':Act}(i:Nat){oi:Oper}(hS:S w)(h:wpAnyH P md l.toArray (NoPanic Q) S fuel (listed.setIfInBounds i true) a' w)
  (hi:(l.drop i).head?=some oi:=by rfl) (hk:(Region.noSelect l.toArray&&Region.free md l.toArray listed i&&(Region.ready md l.toArray listed).contains i)=true:=by kernel_rfl)
  (hw:Region.wanted oi (yielded l.toArray a.tmps)=true:=by rfl) (hy:∀w,S w→(execOp a.eval oi).run P w= .ok (.value v) w:=by (intro w hSw;(try dsimp only at hSw);go_simp;all_goals with_reducible rfl))
  (hp:a.put oi.dst v=a':=by ((try simp only[Act.put,ay5,List.set_cons_zero,List.set_cons_succ]);rfl)):wpAnyH P md l.toArray (NoPanic Q) S (fuel+1) listed a w:=by
 subst hp;exact bV hi hk hw hS hy h
end

theorem pt:(∀(a:Act) (d:Tmp) (v:Value),a.put (some d) v={a with tmps:=a.tmps.setIfInBounds d v})∧(∀(a:Act) (v:Value),a.put none v=a)∧(∀(l:List Value) (i:Nat) (v:Value),l.toArray.setIfInBounds i v=(l.set i v).toArray)∧(∀(l:List Bool) (i:Nat) (v:Bool),l.toArray.setIfInBounds i v=(l.set i v).toArray)∧(∀(x:Value) (l:List Value) (v:Value),(x::l).set 0 v=v::l)∧(∀(x:Bool) (l:List Bool) (v:Bool),(x::l).set 0 v=v::l)∧(∀(x:Value) (l:List Value) (i:Nat) (v:Value),(x::l).set (i+1) v=x::l.set i v)∧(∀(x:Bool) (l:List Bool) (i:Nat) (v:Bool),(x::l).set (i+1) v=x::l.set i v):=⟨fun _ _ _=>rfl,fun _ _=>rfl,fun _ _ _=>List.setIfInBounds_toArray ..,fun _ _ _=>List.setIfInBounds_toArray ..,fun _ _ _=>rfl,fun _ _ _=>rfl,fun _ _ _ _=>rfl,fun _ _ _ _=>rfl⟩
section
variable {P:Program}{md:Region.Mode}{l:List Oper}{Q:Exit→Act→World→Prop}{S:World→Prop}{oi:Oper}{fuel:Nat}{listed:Array Bool}{a:Act}{w:World}
theorem rg(i:Nat){oi:Oper}(h:∀K:Act→World→Prop,Shut (∀a w,S w→(S w→wpAnyH P md l.toArray (NoPanic Q) S fuel (listed.setIfInBounds i true) a w)→K a w)→Oper.wp P oi a w K (NoPanic Q))
  (hi:(l.drop i).head?=some oi:=by rfl) (hr:Region.ready md l.toArray listed=[i]:=by kernel_rfl) (hw:Region.wanted oi (yielded l.toArray a.tmps)=true:=by rfl):wpAnyH P md l.toArray (NoPanic Q) S (fuel+1) listed a w:=Zg hi hr hw h
theorem rz(h:Q .normal a w){n:Nat}(hr:Region.ready md l.toArray listed=[]:=by kernel_rfl):wpAnyH P md l.toArray (NoPanic Q) S n listed a w:=Zf hr h n
end
structure Chg (S:Nat→Prop) (w w':World):Prop where
 os:w'.os=w.os
 tape:w'.tape=w.tape
 output:w'.output=w.output
 size:w.heap.size≤w'.heap.size
 block:∀k,k<w.heap.size→¬S k→w'.heap[k]? =w.heap[k]?
section
variable {S S':Nat→Prop}{w w1 w2 w':World}
theorem Chg.refl:Chg S w w:=⟨rfl,rfl,rfl,aA5 _,fun _ _ _=>rfl⟩
theorem Chg.trans (h:Chg S w w1)(k:Chg S' w1 w2)(hs:∀b,S' b→S b∨w.heap.size≤b):Chg S w w2:=
 ⟨k.os.trans h.os,k.tape.trans h.tape,k.output.trans h.output,aA6 h.size k.size,fun b hb hn=>
  (k.block b (aA9 hb h.size) (fun hs'=>(hs b hs').elim hn (fun h'=>E))).trans (h.block b hb hn)⟩
theorem Chg.mono (h:Chg S w w')(hs:∀b,S b→S' b):Chg S' w w':=⟨h.os,h.tape,h.output,h.size,fun b hb hn=>h.block b hb (fun x=>hn (hs b x))⟩
theorem Chg.drew (h:Chg S w w'):Chg S w w'.drew:=⟨h.os,h.tape,h.output,h.size,h.block⟩
theorem Chg.drewN (h:Chg S w w')(n:Nat):Chg S w (w'.drewN n):=⟨h.os,h.tape,h.output,h.size,h.block⟩
theorem Chg.alloc (h:Chg S w w')(o:Obj):Chg S w (w'.alloc o):=
 ⟨h.os,h.tape,h.output,by have :=h.size;simp;omega,fun b hb hn=>by rw[am3 w' o b (by have :=h.size;omega)];exact h.block b hb hn⟩
theorem Chg.setCell (h:Chg S w w')(p:Addr)(hp:S p.block∨w.heap.size≤p.block)(u:Value):Chg S w (w'.setCell p u):=
 ⟨h.os,h.tape,h.output,by have :=h.size;simpa[World.setCell]using this,fun b hb hn=>by
  rw[Below.heap_setCell w' p u b (fun e=>by subst e;exact hp.elim hn (fun h'=>E))];exact h.block b hb hn⟩
theorem Chg.grown {row:Option Nat}(h:Chg S w w1)(hg:w1.grownBy w' row)(hr:∀k,row=some k→S k∨w.heap.size≤k):Chg S w w':=
 ⟨hg.os.trans h.os,hg.tape.trans h.tape,hg.output.trans h.output,aA6 h.size hg.size,fun b hb hn=>
  (hg.block b (aA9 hb h.size) (fun e=>(hr b e.symm).elim hn (fun h'=>E))).trans (h.block b hb hn)⟩
theorem Chg.below (h:Chg S w w'){B:Nat}(hs:∀b,S b→B≤b)(hB:B≤w.heap.size):Below B w w':=
 ⟨h.os,h.tape,h.output,h.size,fun b hb=>h.block b E (fun x=>by have :=hs b x;omega)⟩
theorem Chg.of_below (h:Below w.heap.size w w'):Chg S w w':=⟨h.os,h.tape,h.output,h.size,fun b hb _=>h.block b hb⟩
theorem Chg.heap (h:Chg S w w'){b:Nat}{o:Obj}(hb:w.heap[b]? =some o)(hn:¬S b):w'.heap[b]? =some o:=
 (h.block b (am0.1 hb).1 hn).trans hb
theorem Chg.cell (h:Chg S w w'){p:Addr}{v:Value}(hc:w.cell? p=some v)(hn:¬S p.block):w'.cell? p=some v:=
 (World.cell?_of_block (h.block p.block (aF8 w p hc) hn)).trans hc
theorem Chg.own (h:Chg S w w'){base:Nat}{e:TypeId}{sz:Nat}{v:Value}{n:Nat}{xs:List Value}(ho:w.ownsRow base e sz v n xs)(hn:∀k,v.ownBlock=some k→¬S k):w'.ownsRow base e sz v n xs:=by
 refine⟨ho.1,?_⟩;rcases ho.2 with hx | ⟨g,cap,cur,rfl,hbg,hg,rest⟩
 ·exact .inl hx
 ·exact .inr ⟨g,cap,cur,rfl,hbg,h.heap hg (hn g rfl),rest⟩
theorem Chg.reads (h:Chg S w w'){k:IntKind}{a:Option Addr}{xs:List Int}(hr:Reads w k a xs)(hn:∀ad,a=some ad→¬S ad.block):Reads w' k a xs:=by
 intro i hi;obtain⟨b,off,rfl,hlt,hc⟩:=hr i hi;exact⟨b,off,rfl,by have :=h.size;omega,fun j hj=>h.cell (hc j hj) (hn ⟨b,off,none⟩ rfl)⟩
end
theorem aM{w:World}{base:Nat}{e:TypeId}{sz:Nat}{v:Value}{n:Nat}{xs:List Value}(h:w.ownsRow base e sz v n xs):
  ∃a c,v= .slice a n c∧(a=none→n=0∧c=0)∧(∀ad,a=some ad→∃g,ad=⟨g,0,none⟩∧base≤g∧g<w.heap.size∧v.ownBlock=some g):=by
 rcases h.2 with ⟨rfl,rfl⟩ | ⟨g,cap,cur,rfl,hbg,hg,rest⟩
 ·exact⟨none,0,rfl,(fun _=>⟨rfl,rfl⟩),fun ad h=>by cases h⟩
 ·exact⟨some ⟨g,0,none⟩,cap,rfl,(fun h=>by cases h),fun ad h=>by cases h;exact⟨g,rfl,hbg,(am0.1 hg).1,rfl⟩⟩
theorem bX{w:World}{base:Nat}{e:TypeId}{sz:Nat}{v:Value}{n:Nat}{xs:List Value}(h:w.ownsRow base e sz v n xs){k:Nat}(hk:v.ownBlock=some k):base≤k∧k<w.heap.size:=h.lt k hk
theorem tF{w:World}{base:Nat}{e:TypeId}{g cap n:Nat}{xs:List Value}(h:w.ownsRow base e 1 (.slice (some ⟨g,0,none⟩) n cap) n xs)(j:Nat)(u:Value):
  (w.setCell ⟨g,j,none⟩ u).ownsRow base e 1 (.slice (some ⟨g,0,none⟩) n cap) n (xs.set j u):=by
 obtain⟨h1,h2⟩:=h;refine⟨by simpa using h1,?_⟩;rcases h2 with ⟨h,_⟩ | ⟨g',cap',cur,hv,hb,hg,hc,hm,hs,ht⟩
 ·cases h
 ·injection hv with e1 e2 e3
  simp only[aD4,Addr.mk.injEq,and_true]at e1;subst e1;subst e3;refine .inr ⟨g,cap,cur.setIfInBounds j u,rfl,hb,heap_setCell_same w g j cur e u hg,hc,hm,by simpa using hs,?_⟩;rw[am2,←ht,List.take_set]
theorem Yk{w:World}{base:Nat}{e:TypeId}{g cap n m:Nat}{xs:List Value}(h:w.ownsRow base e 1 (.slice (some ⟨g,0,none⟩) n cap) n xs)(hm:m≤n):
  w.ownsRow base e 1 (.slice (some ⟨g,0,none⟩) m cap) m (xs.take m):=by
 obtain⟨h1,h2⟩:=h;refine⟨by rw[at5];omega,?_⟩;rcases h2 with ⟨h,_⟩ | ⟨g',cap',cur,hv,hb,hg,hc,hmx,hs,ht⟩
 ·cases h
 ·injection hv with e1 e2 e3
  simp only[aD4,Addr.mk.injEq,and_true]at e1;subst e1;subst e3;refine .inr ⟨g,cap,cur,rfl,hb,hg,E,hmx,hs,?_⟩;rw[←ht,az5];congr 1;omega
theorem oI{P:Program}{w:World}{ops:Array Oper}{rest:List Oper}{o:Oper}{a:Act}{Q:Exit→Act→World→Prop}{e':TypeId}{u:Value}(hgd:o.guard=none)(s x:Operand)(t:TypeId)
  (ho:o.op= .call {callee:= .builtin .append,args:=#[s,x],argTypes:=#[t,t]})
  (base:Nat) (e:TypeId) {z:Value} {bytes:Nat} (hinfo:(P.info? e).map (fun i=>(i.zero,i.size,i.bytes))=some (some z,1,bytes)) (ht:P.underlying t=some (.slice e)) (hz1:z.cells.size=1)
  (v:Value) (n:Nat) (xs:List Value) (hs:a.eval s=v) (hown:w.ownsRow base e 1 v n xs)
  (hx:a.eval x= .slice (some ⟨w.heap.size,0,none⟩) 1 1) (h1:u.oneCell'=true)
  (h63:n+1≤maxLen) (hbytes:(n+1)*bytes≤140737488355328) (hbase:base≤w.heap.size)
  (h:∀g cap w',w'.ownsRow base e 1 (.slice (some ⟨g,0,none⟩) (n+1) cap) (n+1) (xs++[u])→w.grownBy w' v.ownBlock→(v.ownBlock=some g∨w.heap.size≤g)→g<w'.heap.size→
   wpList P ops Q rest (a.put o.dst (.slice (some ⟨g,0,none⟩) (n+1) cap)) w'):wpList P ops Q (o::rest) a (w.alloc (.cells #[u] e')):=by
 obtain⟨i,hi,hz,hsz,hby⟩:=aI1 hinfo;refine wpList_append_lies (w.alloc (.cells #[u] e')) hgd s x t ho base e i z 1 bytes ht hi hz hsz hby hz1 E v n xs hs (hown.alloc _) ⟨w.heap.size,0,none⟩ 1 1 [u] hx rfl ?_ ?_ E h63 hbytes ?_ _ rfl ?_
 ·intro j u' hj;match j,hj with
  | 0,hj=>simp at hj;subst hj;simp[Addr.add]
 ·intro u' hu;simp at hu;subst hu;exact h1
 ·simp;omega
 ·intro g cap w' h1 h2 h3 h4;exact h g cap w' h1 ⟨h2.os,h2.tape,h2.output,by have :=h2.size;simp at this;omega,fun k hk hne=>by
   rw[h2.block k (by simp;omega) hne];exact am3 w _ k hk⟩ (h3.imp id (fun h=>by simp at h;omega)) h4
theorem fM{P:Program}{w:World}{ops:Array Oper}{rest:List Oper}{o:Oper}{a:Act}{Q:Exit→Act→World→Prop}(hgd:o.guard=none)(s x:Operand)(t:TypeId)
  (ho:o.op= .call {callee:= .builtin .append,args:=#[s,x],argTypes:=#[t,t]})
  (base:Nat) (e:TypeId) {z:Value} {bytes:Nat} (hinfo:(P.info? e).map (fun i=>(i.zero,i.size,i.bytes))=some (some z,1,bytes)) (ht:P.underlying t=some (.slice e)) (hz1:z.cells.size=1)
  (v:Value) (n:Nat) (xs:List Value) (hs:a.eval s=v) (hown:w.ownsRow base e 1 v n xs)
  (ad:Option Addr) (m c:Nat) (news:List Value) (hx:a.eval x= .slice ad m c) (hl:news.length=m) (hnil:ad=none→m=0∧c=0)
  (hnews:∀p,ad=some p→∀j u,news[j]? =some u→w.cell? (p.add j)=some u) (h1:∀u∈news,u.oneCell'=true)
  (h63:n+m≤maxLen) (hbytes:(n+m)*bytes≤140737488355328) (hbase:base≤w.heap.size)
  (h:∀a' c' w',w'.ownsRow base e 1 (.slice a' (n+m) c') (n+m) (xs++news)→w.grownBy w' v.ownBlock→(∀g,a'=some ⟨g,0,none⟩→v.ownBlock=some g∨w.heap.size≤g)→
   wpList P ops Q rest (a.put o.dst (.slice a' (n+m) c')) w'):wpList P ops Q (o::rest) a w:=by
 obtain⟨i,hi,hz,hsz,hby⟩:=aI1 hinfo;by_cases hm:m=0
 ·subst hm;have hn:news=[]:=aq2 hl;subst hn;have key:∀v' w',w'.ownsRow base e 1 v' (n+0) (xs++[])→w.grownBy w' v.ownBlock→(v'.ownBlock=v.ownBlock∨v'.ownBlock=some w.heap.size)→wpList P ops Q rest (a.put o.dst v') w':=by
   intro v' w' ho' hg' hor;obtain⟨a',c',rfl,_,hb⟩:=aM ho';refine h a' c' w' ho' hg' (fun g hg=>?_);subst hg;obtain⟨g',e1,_,_,e2⟩:=hb _ rfl;cases e1;rcases hor with hor | hor
   ·left;rw[←hor];exact e2
   ·right;rw[hor]at e2;injection e2 with e2;omega
  cases ad with
  | none=>
   obtain⟨_,rfl⟩:=hnil rfl;exact wpList_append_own_none hgd s x t ho base e i 1 ht hi v n xs hs hown hx (key v w (by simpa using hown) (World.grownBy.refl _ _) (Ei rfl))
  | some p=>
   refine wpList_plain hgd fun K hK=>?_;obtain⟨v',w',hr,h2,h3,_,h5⟩:=run_append_own_at (P:=P) w base t o.type e i z 1 bytes ht hi hz hsz hby hz1 E v n xs hown p 0 c [] Es Es Es h63 hbytes hbase;unfold Oper.wp execOp;simp only[ho,resolve,invoke,builtin,Sem.run_bind,Sem.run_pure,aD6,av7,at8,av5,hs,hx,hr];exact hK _ _ (key v' w' h2 h3 h5)
 ·cases ad with
  | none=>exact absurd (hnil rfl).1 hm
  | some p=>
   refine wpList_append_lies w hgd s x t ho base e i z 1 bytes ht hi hz hsz hby hz1 E v n xs hs hown p m c news hx E (hnews p rfl) h1 E h63 hbytes hbase _ rfl ?_;intro g cap w' a1 a2 a3 a4;exact h _ _ w' a1 a2 (fun g' hg'=>by cases hg';exact a3.imp id (fun h=>E))
def ReadsV(w:World)(a:Option Addr)(xs:List Value):Prop:=
 ∀i,i<xs.length→∃b off,a=some ⟨b,off,none⟩∧b<w.heap.size∧∀j u,xs[j]? =some u→w.cell? ⟨b,off+j,none⟩=some u
section
variable {w w':World}{a:Option Addr}{xs:List Value}
theorem ReadsV.nil:ReadsV w a []:=fun i hi=>absurd hi Es
theorem ReadsV.some (h:ReadsV w a xs)(hn:0<xs.length):∃b off,a=some ⟨b,off,none⟩∧b<w.heap.size∧∀j u,xs[j]? =some u→w.cell? ⟨b,off+j,none⟩=some u:=h 0 hn
theorem ReadsV.below {B:Nat}(h:ReadsV w a xs)(hb:Below B w w')(hB:∀ad,a=Option.some ad→ad.block<B):ReadsV w' a xs:=by
 intro i hi;obtain⟨b,off,rfl,hlt,hc⟩:=h i hi;exact⟨b,off,rfl,by have :=hb.size;omega,fun j u hj=>(hb.cell (p:=⟨b,off+j,none⟩) (hB ⟨b,off,none⟩ rfl)).trans (hc j u hj)⟩
theorem ReadsV.below' (h:ReadsV w a xs)(hb:Below w.heap.size w w'):ReadsV w' a xs:=by
 intro i hi;obtain⟨b,off,rfl,hlt,hc⟩:=h i hi;exact⟨b,off,rfl,by have :=hb.size;omega,fun j u hj=>(hb.cell (p:=⟨b,off+j,none⟩) hlt).trans (hc j u hj)⟩
theorem ReadsV.chg {S:Nat→Prop}(h:ReadsV w a xs)(hc:Chg S w w')(hn:∀ad,a=Option.some ad→¬S ad.block):ReadsV w' a xs:=by
 intro i hi;obtain⟨b,off,rfl,hlt,hk⟩:=h i hi;exact⟨b,off,rfl,by have :=hc.size;omega,fun j u hj=>hc.cell (hk j u hj) (hn ⟨b,off,none⟩ rfl)⟩
theorem ReadsV.take (h:ReadsV w a xs)(k:Nat):ReadsV w a (xs.take k):=by
 intro i hi;rw[at5]at hi;obtain⟨b,off,ha,hlt,hc⟩:=h i E;exact⟨b,off,ha,hlt,fun j u hj=>hc j u (by
  rw[ar9]at hj
  split at hj
  ·exact hj
  ·cases hj)⟩
def fB(a:Option Addr)(k cap:Nat):Option Addr:=if cap=k then a else a.map (·.add k)
theorem ReadsV.drop (h:ReadsV w a xs){k cap:Nat}(hc:xs.length≤cap):ReadsV w (fB a k cap) (xs.drop k):=by
 intro i hi;rw[as8]at hi;obtain⟨b,off,rfl,hlt,hx⟩:=h i E;have hne:¬cap=k:=E;refine⟨b,off+k,by simp[fB,hne,al5],hlt,fun j u hj=>?_⟩;rw[ar2]at hj;have :=hx (k+j) u hj;rwa[az7]
theorem Ya{a:Option Addr}{k cap len:Nat}(h:a=none→len=0∧cap=0):fB a k cap=none→len-k=0∧cap-k=0:=by
 intro hn;cases a with
 | none=>obtain⟨rfl,rfl⟩:=h rfl;simp
 | some ad=>
  unfold fB at hn;split at hn
  ·cases hn
  ·cases hn
theorem ReadsV.hnews (h:ReadsV w a xs):∀p,a=Option.some p→∀j u,xs[j]? =Option.some u→w.cell? (p.add j)=Option.some u:=by
 intro p hp j u hu;have hlt:j<xs.length:=(ar5.1 hu).1;obtain⟨b,off,hab,_,hc⟩:=h j hlt;rw[hp]at hab;cases hab;rw[al5];exact hc j u hu
theorem eB{base:Nat}{e:TypeId}{n c:Nat}{a:Option Addr}(h:w.ownsRow base e 1 (.slice a n c) n xs):ReadsV w a xs:=by
 have hl:=pW h;intro i hi;obtain⟨g,cap,hv,hb,hg,hc,hm,hcell,_⟩:=cL h E;injection hv with h1 h2 h3
 exact⟨g,0,h1,hg,fun j u hj=>by rw[aC7,hcell j (by have :=(ar5.1 hj).1;omega),hj]⟩
theorem sF{b:Nat}{T:TypeId}(h:w.heap[b]? =some (.cells xs.toArray T (0,0))):ReadsV w (some ⟨b,0,none⟩) xs:=by
 intro i hi;refine⟨b,0,rfl,(am0.1 h).1,fun j u hj=>?_⟩;rw[aG7 w b (0+j) _ _ _ h,aC7,as0,hj]
theorem Yl{g:Nat}{base:Nat}{e:TypeId}(hb:base≤g)(h:w.heap[g]? =some (.cells #[] e (0,0))):w.ownsRow base e 1 (.slice (some ⟨g,0,none⟩) 0 0) 0 []:=
 ⟨rfl, .inr ⟨g,0,#[],rfl,hb,h,Nat.le_refl _,by unfold maxLen;omega,rfl,rfl⟩⟩
end
section
variable {P:Program}{w:World}
theorem gA{t e:TypeId}{a:Option Addr}{len cap k:Nat}(ht:P.underlying t=some (.slice e))(hinfo:(P.info? e).map (fun i=>i.size)=some 1)(hk:k≤cap):
  (Instr.slice t (.slice a len cap) none (some (.int .i64 (k:Int))) none).run P w= .ok (.slice a k cap) w:=by
 obtain⟨i,hi,hs⟩:=aD1.1 hinfo;have hk':(k:Int)≤(cap:Int):=E;simp[Instr.slice,aI7 ht,Instr.sliceBounds,Instr.sliceBound,asIntOf,hk',sizeOf,typeInfo,hi,hs,go_sem];intro h;omega
theorem lR{t e:TypeId}{a:Option Addr}{len cap k:Nat}(ht:P.underlying t=some (.slice e))(hinfo:(P.info? e).map (fun i=>i.size)=some 1)(hk:k≤len):
  (Instr.slice t (.slice a len cap) (some (.int .i64 (k:Int))) none none).run P w= .ok (.slice (fB a k cap) (len-k) (cap-k)) w:=by
 obtain⟨i,hi,hs⟩:=aD1.1 hinfo;have hk':(k:Int)≤(len:Int):=E;simp[Instr.slice,aI7 ht,Instr.sliceBounds,Instr.sliceBound,asIntOf,hk',sizeOf,typeInfo,hi,hs,go_sem,fB];intro h;omega
end
theorem oneB(l:List Bool):∀u∈l.map Value.bool,u.oneCell'=true:=fun u hu=>by obtain⟨b,_,rfl⟩:=ax1.1 hu;rfl
theorem zW(k:IntKind)(l:List Int):∀u∈l.map (Value.int k),u.oneCell'=true:=fun u hu=>by obtain⟨b,_,rfl⟩:=ax1.1 hu;rfl
theorem zK{P:Program}{w:World}{o:Oper}{a:Act}{K:Act→World→Prop}{Q:Exit→Act→World→Prop}(s x:Operand)(t:TypeId)
  (ho:o.op= .call {callee:= .builtin .append,args:=#[s,x],argTypes:=#[t,t]})
  (base:Nat) (e:TypeId) {z:Value} {bytes:Nat} (hinfo:(P.info? e).map (fun i=>(i.zero,i.size,i.bytes))=some (some z,1,bytes)) (ht:P.underlying t=some (.slice e)) (hz1:z.cells.size=1)
  (v:Value) (n:Nat) (xs:List Value) (hs:a.eval s=v) (hown:w.ownsRow base e 1 v n xs)
  (ad:Option Addr) (m c:Nat) (news:List Value) (hx:a.eval x= .slice ad m c) (hl:news.length=m) (hnil:ad=none→m=0∧c=0)
  (hnews:∀p,ad=some p→∀j u,news[j]? =some u→w.cell? (p.add j)=some u) (h1:∀u∈news,u.oneCell'=true)
  (h63:n+m≤maxLen) (hbytes:(n+m)*bytes≤140737488355328) (hbase:base≤w.heap.size)
  (h:∀a' c' w',w'.ownsRow base e 1 (.slice a' (n+m) c') (n+m) (xs++news)→w.grownBy w' v.ownBlock→(∀g,a'=some ⟨g,0,none⟩→v.ownBlock=some g∨w.heap.size≤g)→
   K (a.put o.dst (.slice a' (n+m) c')) w'):Oper.wp P o a w K Q:=by
 obtain⟨i,hi,hz,hsz,hby⟩:=aI1 hinfo;cases ad with
 | none=>
  obtain⟨rfl,rfl⟩:=hnil rfl;have hn:news=[]:=aq2 hl;subst hn;obtain⟨a',c',hv,_,hb⟩:=aM hown;have hrun:=run_append_owned_none (P:=P) (w:=w) base t o.type e i 1 ht hi v n xs hown;unfold Oper.wp execOp;simp only[ho,resolve,invoke,builtin,Sem.run_bind,Sem.run_pure,aD6,av7,at8,av5,hs,hx,hrun];subst hv;exact h a' c' w (by simpa using hown) (World.grownBy.refl _ _) (fun g hg=>by
   subst hg
   obtain⟨g',e1,_,_,e2⟩:=hb _ rfl
   cases e1;exact Ei e2)
 | some p=>
  obtain⟨v',w',hr,h2,h3,_,h5⟩:=run_append_own_at (P:=P) w base t o.type e i z 1 bytes ht hi hz hsz hby hz1 E v n xs hown p m c news E (hnews p rfl) h1 h63 hbytes hbase;unfold Oper.wp execOp;simp only[ho,resolve,invoke,builtin,Sem.run_bind,Sem.run_pure,aD6,av7,at8,av5,hs,hx,hr];obtain⟨a',c',rfl,_,hb⟩:=aM h2;refine h a' c' w' h2 h3 (fun g hg=>?_);subst hg;obtain⟨g',e1,_,_,e2⟩:=hb _ rfl;cases e1;rcases h5 with hor | hor
  ·left;rw[←hor];exact e2
  ·right;rw[hor]at e2;injection e2 with e2;omega
def GivesB(B:Nat)(w:World)(l:List Bool)(e:Ending)(w':World):Prop:=∃v,e= .returned v∧w'.ownsRow B 4 1 v l.length (l.map Value.bool)∧Below B w w'
theorem Tryz.infoBoolR:(Tryz.prog.info? 4).map (fun i=>(i.zero,i.size,i.bytes))=some (some (.bool false),1,1):=by kernel_rfl
structure RkAt (w:World) (bw bn br g cap wide:Nat) (rk:List Int):Prop where
 wide:w.cell? ⟨bw,0,none⟩=some (.int .i64 wide)
 n:w.cell? ⟨bn,0,none⟩=some (.int .i64 rk.length)
 row:w.cell? ⟨br,0,none⟩=some (.slice (some ⟨g,0,none⟩) rk.length cap)
 rd:∀i,i<rk.length→w.cell? ⟨g,i,none⟩=some (.int .i64 (sy rk i))
theorem xQ{w:World}{bw bn br g cap wide:Nat}{rk:List Int}(h:RkAt w bw bn br g cap wide rk)(i:Nat)(hi:i<rk.length)(hl:rk.length≤1000000000)(hw:wide≤1000000000):
  Calls Tryz.prog 93 #[.int .i64 i, .pointer (some ⟨bw,0,none⟩), .pointer (some ⟨bn,0,none⟩), .pointer (some ⟨br,0,none⟩)] w fun e w'=>e= .returned (.int .i64 (sy rk (i+wide)))∧w=w':=by
 obtain⟨h1,h2,h3,h4⟩:=h;by_cases hc:i+wide<rk.length
 ·have h5:=h4 (i+wide) hc;clear h4;generalize sy rk (i+wide)=x at *;have d1:decide ((i:Int)+(wide:Int)<(rk.length:Int))=true:=by simp;omega
  go_enter Tryz.func93,Tryz.ntmps93;go_wp2_with fail;go_ret;exact⟨rfl,rfl⟩
 ·have e:sy rk (i+wide)= -1:=dL E;rw[e];clear h4 e;have d1:decide ((i:Int)+(wide:Int)<(rk.length:Int))=false:=by simp;omega
  go_enter Tryz.func93,Tryz.ntmps93;go_wp2_with fail;go_ret;exact⟨rfl,rfl⟩
theorem Ni{P:Program}{f:FuncId}{args:Array Value}{w:World}{n:Nat}{v:Value}
  (h:Calls P f args (w.drewN n) fun e w'=>e= .returned v∧w.drewN n=w'):Calls P f args (w.drewN n) fun e w''=>e= .returned v∧∃m,w''=w.drewN m:=
 h.mono fun _ _ ⟨he,hm⟩=>⟨he,n,hm.symm⟩
theorem pY{P:Program}{f:FuncId}{args:Array Value}{w:World}{a n:Nat}{v:Value}
  (h:Calls P f args (w.drewN (a+n)) fun e w'=>e= .returned v∧w.drewN (a+n)=w'):Calls P f args (w.drewN (a+n)) fun e w''=>e= .returned v∧∃m,w''=w.drewN (a+m):=
 h.mono fun _ _ ⟨he,hm⟩=>⟨he,n,hm.symm⟩
theorem RkAt.drewN {w:World}{bw bn br g cap wide:Nat}{rk:List Int}(h:RkAt w bw bn br g cap wide rk)(n:Nat):RkAt (w.drewN n) bw bn br g cap wide rk:=⟨h.wide,h.n,h.row,h.rd⟩
theorem Bo{w:World}{bw bn br bf g cap wide:Nat}{rk:List Int}(h:RkAt w bw bn br g cap wide rk)
  (hf:w.cell? ⟨bf,0,none⟩=some (.func (.func 93) #[] #[.pointer (some ⟨bw,0,none⟩), .pointer (some ⟨bn,0,none⟩), .pointer (some ⟨br,0,none⟩)]))
  (a b:Nat) (ha:a<rk.length) (hb:b<rk.length) (hl:rk.length≤1000000000) (hw:wide≤1000000000) (hr:∀i,-1≤sy rk i∧sy rk i≤1000000000):
  Calls Tryz.prog 94 #[.int .i64 a, .int .i64 b, .pointer (some ⟨br,0,none⟩), .pointer (some ⟨bf,0,none⟩)] w fun e w'=>e= .returned (.int .i64 (fR rk wide a b))∧∃n,w'=w.drewN n:=by
 have ka:=h.rd a ha;have kb:=h.rd b hb;have kr:=h.row;have HA:Hid (∀n,Calls Tryz.prog 93 #[.int .i64 a, .pointer (some ⟨bw,0,none⟩), .pointer (some ⟨bn,0,none⟩), .pointer (some ⟨br,0,none⟩)] (w.drewN n) fun e w'=>e= .returned (.int .i64 (sy rk (a+wide)))∧w.drewN n=w'):=fun n=>xQ (h.drewN n) a ha hl hw;have HB:Hid (∀n,Calls Tryz.prog 93 #[.int .i64 b, .pointer (some ⟨bw,0,none⟩), .pointer (some ⟨bn,0,none⟩), .pointer (some ⟨br,0,none⟩)] (w.drewN n) fun e w'=>e= .returned (.int .i64 (sy rk (b+wide)))∧w.drewN n=w'):=fun n=>xQ (h.drewN n) b hb hl hw;obtain⟨ra0,ra1⟩:=hr a;obtain⟨rb0,rb1⟩:=hr b;obtain⟨sa0,sa1⟩:=hr (a+wide);obtain⟨sb0,sb1⟩:=hr (b+wide);have HV:Hid (fR rk wide a b=if sy rk a=sy rk b then sy rk (a+wide)-sy rk (b+wide)else sy rk a-sy rk b):=rfl;generalize sy rk a=x at *;generalize sy rk b=y at *;generalize sy rk (a+wide)=u at *;generalize sy rk (b+wide)=v at *;clear h hr;have i0:(0:Int)≤(a:Int):=E;have i1:(a:Int)<(rk.length:Int):=E;have j0:(0:Int)≤(b:Int):=E;have j1:(b:Int)<(rk.length:Int):=E;have ew1:IntKind.i64.wrap (x-y)=x-y:=ao4 _ E;by_cases hxy:x=y
 ·have e:(x != y)=false:=by simp[hxy]
  have HR:Hid (fR rk wide a b=u-v):=by show _=_;rw[HV.o,aH9 hxy]
  have HX:=θ hxy;have ew:IntKind.i64.wrap (u-v)=u-v:=ao4 _ E;clear hxy;go_enter Tryz.func94,Tryz.ntmps94;go_wp2_with fail;go_quiet (fail);go_wp2_with fail;go_quiet ((go_at_call 93;first | with_reducible exact pY (HA.o _) | with_reducible exact pY (HB.o _)));go_wp2_with fail;go_ret;exact⟨aT HR.o.symm,_,aG0 _ _ _⟩
 ·have e:(x != y)=true:=by simp[hxy]
  have HR:Hid (fR rk wide a b=x-y):=by show _=_;rw[HV.o,aH8 hxy]
  clear hxy;go_enter Tryz.func94,Tryz.ntmps94;go_wp2_with fail;go_quiet (fail);go_wp2_with fail;go_quiet (fail);go_wp2_with fail;go_ret;exact⟨aT HR.o.symm,_,aG0 _ _ _⟩
section
variable {P:Program}{md:Region.Mode}{ops:Array Oper}{Q:Exit→Act→World→Prop}
def ordB(ops:Array Oper):Bool:=(List.range ops.size).all (fun i=>(ops[i]?.elim true (fun o=>o.after.all (fun e=>decide (e.on<i)))))
theorem all_up(ho:ordB ops=true){l:Array Bool}(hs:l.size=ops.size)(hr:Region.ready md ops l=[]):∀i,i<ops.size→l.getD i false=true:=by
 intro i;induction i using Nat.strongRecOn with
 | _ i ih=>
  intro hi;cases h:l.getD i false with
  | true=>rfl
  | false=>
   have hl:l.getD i true=false:=by
    have e:i<l.size:=E;simp[e]at h⊢;exact h
   obtain⟨o,hoo⟩:∃o,ops[i]? =some o:=⟨_,Array.getElem?_eq_getElem hi⟩;have hall:=List.all_eq_true.1 ho i (ax4.2 hi);rw[hoo]at hall;have :i∈Region.ready md ops l:=mem_ready.2 ⟨hl,o,hoo,fun e he _=>by
    have h1:=(Array.all_eq_true'.1 hall) e he
    have h1:e.on<i:=by simpa using h1
    exact ih e.on h1 E⟩
   rw[hr]at this;cases this
theorem Kb(I:Array Bool→Act→World→Prop)(hz:∀l a w,I l a w→l.size=ops.size)
  (hs:∀l a w i,I l a w→i∈Region.ready md ops l→wpOp P ops Q i (fun a' w'=>I (l.setIfInBounds i true) a' w') a w) (he:∀l a w,I l a w→Region.ready md ops l=[]→Q .normal a w):
  ∀(n:Nat) (l:Array Bool) (a:Act) (w:World),l.toList.countP (fun b=> !b)≤n→I l a w→wpAny P md ops Q n l a w
 | 0,l,a,w,hn,h=>by
  have hr:Region.ready md ops l=[]:=by
   rw[List.eq_nil_iff_forall_not_mem];intro i hi;obtain⟨h0,_⟩:=mem_ready.1 hi;by_cases hl:i<l.size
   ·have :false∈l.toList:=by
     have e:l[i]=false:=by simpa[hl]using h0
     rw[←e];exact Array.getElem_mem_toList hl
    have :=(List.countP_pos_iff (p:=fun b=> !b)).2 ⟨false,this,rfl⟩;omega
   ·simp[hl]at h0
  exact⟨hr,he l a w h hr⟩
 | n+1,l,a,w,hn,h=>by
  refine⟨fun hr=>he l a w h hr,fun i hi=>wpOp_mono (fun a' w' k=>Kb I hz hs he n _ a' w' ?_ k) (hs l a w i h hi)⟩;obtain⟨h0,_⟩:=mem_ready.1 hi;have hl:i<l.size:=by
   refine Nat.lt_of_not_le (fun hl=>?_);simp[Nat.not_lt.2 hl]at h0
  have e:l.toList[i]=false:=by simpa[hl]using h0
  have hp:=(List.countP_pos_iff (p:=fun b=> !b)).2 ⟨false,by rw[←e];exact List.getElem_mem (by simpa using hl),rfl⟩;rw[Array.toList_setIfInBounds,List.countP_set (by simpa using hl),e];simp only[Bool.not_false,Bool.not_true,aI0,Bool.false_eq_true,aH7];omega
theorem lA{l:List Oper}{i:Nat}{oi:Oper}{J:Act→World→Prop}{a:Act}{w:World}(hi:(l.drop i).head?=some oi)(hw:Region.wanted oi (yielded l.toArray a.tmps)=true)
  (h:∀K:Act→World→Prop,Shut (∀a w,J a w→K a w)→Oper.wp P oi a w K Q):wpOp P l.toArray Q i J a w:=by
 refine wpOp_step (cO hi) (fun K hK=>?_);rw[aH9 hw];exact h K hK
theorem Zi{id:Nat}{l:List Oper}{a:Act}{w:World}(I:Array Bool→Act→World→Prop)(hm:P.follows .mixedOrders=true)(hz:∀l' a w,I l' a w→l'.size=l.length)(h0:I (Array.replicate l.length false) a w.drew)
  (hs:∀l' a w i,I l' a w→i∈Region.ready .any l.toArray l'→wpOp P l.toArray (NoPanic Q) i (fun a' w'=>I (l'.setIfInBounds i true) a' w') a w) (he:∀l' a w,I l' a w→(∀i,i<l.length→l'.getD i false=true)→Q .normal a w) (ho:ordB l.toArray=true):(Code.region id l.toArray true).wp P Q a w:=by
 refine wp_region_noPanic (wp_region_any hm (Kb I (fun l' a w h=>(hz l' a w h).trans (ay7).symm) hs (fun l' a w h hr=>NoPanic.normal (he l' a w h (fun i hi=>all_up ho ((hz l' a w h).trans (ay7).symm) hr i (by rwa[ay7])))) _ _ _ _ ?_ h0));rw[ay7];have h1:=ap6 (p:=fun b=> !b) (l:=(Array.replicate l.length false).toList);simpa using h1
end
def aP(f:Nat→Value)(n:Nat):List Value:=(List.range n).map f
theorem dN{f:Nat→Value}{n i:Nat}(h:i<n):(aP f n)[i]? =some (f i):=by simp[aP,h]
theorem cM(f:Nat→Value)(n:Nat):(aP f n).length=n:=by simp[aP]
theorem rL{f:Nat→Value}{n s:Nat}(v:Value):(aP f n).set s v=aP (fun i=>if i=s then v else f i) n:=by
 apply aq3;intro i;rw[ar8];by_cases hi:i<n
 ·rw[dN hi,dN hi,cM];by_cases e:s=i
  ·subst e;simp[hi]
  ·rw[aH8 e,aH8 (fun h=>e h.symm)]
 ·rw[ar4 (by rw[cM];omega),ar4 (by rw[cM];omega),cM];split
  ·rw[aH8 E]
  ·rfl
theorem iF{f g:Nat→Value}{n:Nat}(h:∀i,i<n→f i=g i):aP f n=aP g n:=by
 apply aq3;intro i;by_cases hi:i<n
 ·rw[dN hi,dN hi,h i hi]
 ·rw[ar4 (by rw[cM];omega),ar4 (by rw[cM];omega)]
theorem ab7{w:World}{Q n i:Nat}{f:Nat→Value}{T:TypeId}(h:w.heap[Q]? =some (.cells (aP f n).toArray T (0,0)))(hi:i<n):w.cell? ⟨Q,i,none⟩=some (f i):=by
 rw[aG7 w Q i _ _ _ h,as0,dN hi]
theorem al2{w:World}{Q n s:Nat}{f:Nat→Value}{T:TypeId}(h:w.heap[Q]? =some (.cells (aP f n).toArray T (0,0)))(v:Value):
  (w.setCell ⟨Q,s,none⟩ v).heap[Q]? =some (.cells (aP (fun i=>if i=s then v else f i) n).toArray T (0,0)):=by
 have h2:=aH6 w Q s _ _ v h;rw[ay5,rL]at h2;exact h2
theorem lW{B:Nat}{w w':World}(h:Below B w w')(hB:B≤w'.heap.size){Q s:Nat}(hQ:B≤Q)(u:Value):Below B w (w'.setCell ⟨Q,s,none⟩ u):=
 h.trans (((Chg.refl (S:=fun k=>k=Q)).setCell ⟨Q,s,none⟩ (Ei rfl) u).below (fun b hb=>by rw[hb];exact hQ) hB)
theorem Hy{B:Nat}{w w':World}(h:Below B w w')(n:Nat):Below B w (w'.drewN n):=⟨h.os,h.tape,h.output,h.size,h.block⟩
theorem Lt{w w':World}{Q:Nat}{o:Obj}(h:Below w.heap.size w w')(hq:w.heap[Q]? =some o):w'.heap[Q]? =some o:=
 (h.block Q (am0.1 hq).1).trans hq
theorem aC(w:World)(o:Obj):Below w.heap.size w (w.alloc o):=(am4 _ _).alloc (aA5 _) _
theorem pT(z:Value)(n:Nat):madeCells #[z] n=(aP (fun _=>z) n).toArray:=by
 apply Array.ext
 ·simp[madeCells,aP]
 ·intro i h1 h2;have h0:∀m,m%1=0:=fun m=>E;simp[madeCells,aP,h0]
theorem Cb{P:Program}{t e:TypeId}{z:Value}{bytes:Nat}(hinfo:(P.info? e).map (fun i=>(i.zero,i.size,i.bytes))=some (some z,1,bytes))(ht:P.underlying t=some (.slice e))(hz:z.cells=#[z])(n:Nat)(h:(bytes:Int)*(n:Int)≤281474976710656)(hn:n≤maxLen)(w:World):
  (Instr.makeSlice t (.int .i64 (n:Int)) (.int .i64 (n:Int))).run P w= .ok (.slice (some ⟨w.heap.size,0,none⟩) n n) (w.alloc (.cells (aP (fun _=>z) n).toArray e)):=by
 obtain⟨i,hi,hiz,hsz,hby⟩:=aI1 hinfo;have h2:=run_make (P:=P) w t e i z ht hi hiz .i64 .i64 (n:Int) (n:Int) E E (by rw[hby];exact h) (by unfold maxLen at hn;omega);rw[h2,hz,hsz,ao2,aB6,pT]
theorem vY{w:World}{q n base:Nat}{f:Nat→Value}{e:TypeId}(h:w.heap[q]? =some (.cells (aP f n).toArray e (0,0)))(hb:base≤q)(hn:n≤maxLen):w.ownsRow base e 1 (.slice (some ⟨q,0,none⟩) n n) n (aP f n):=
 ⟨by rw[cM];omega, .inr ⟨q,n,(aP f n).toArray,rfl,hb,h,aA5 _,hn,by simp[cM],by rw[aB6];exact az3 (by rw[cM];exact aA5 _)⟩⟩
theorem Tryz.infoIntG:(Tryz.prog.info? 3).map (fun i=>(i.zero,i.size,i.bytes))=some (some (.int .i64 0),1,8):=Ek
theorem Bk(n:Nat)(h:n≤1000000000)(w:World):(Instr.makeSlice 36 (.int .i64 (n:Int)) (.int .i64 (n:Int))).run Tryz.prog w= .ok (.slice (some ⟨w.heap.size,0,none⟩) n n) (w.alloc (.cells (aP (fun _=> .int .i64 0) n).toArray 3)):=
 Cb Tryz.infoIntG Tryz.underlying36 rfl n E (by unfold maxLen;omega) w
theorem jD{w:World}{base:Nat}{e:TypeId}{g cap n:Nat}{f:Nat→Value}(h:w.ownsRow base e 1 (.slice (some ⟨g,0,none⟩) n cap) n (aP f n)){j:Nat}(hj:j<n):w.cell? ⟨g,j,none⟩=some (f j):=by
 obtain⟨g',cap',hv,_,_,_,_,hc,_⟩:=cL h E;injection hv with e1 _ _;injection e1 with e1;injection e1 with e1 _ _
 subst e1;rw[hc j hj,dN hj]
theorem sC{w:World}{base:Nat}{e:TypeId}{g cap n:Nat}{xs:List Value}(h:w.ownsRow base e 1 (.slice (some ⟨g,0,none⟩) n cap) n xs)(j:Nat):w.frozen? ⟨g,j,none⟩=false:=by
 rcases h.2 with ⟨h,_⟩ | ⟨g',cap',cur,hv,_,hg,_⟩
 ·cases h
 ·injection hv with e1 _ _;injection e1 with e1;injection e1 with e1 _ _
  subst e1;exact aH3 w g j cur e hg
theorem vZ{w:World}{base:Nat}{e:TypeId}{g cap n:Nat}{f:Nat→Value}(h:w.ownsRow base e 1 (.slice (some ⟨g,0,none⟩) n cap) n (aP f n))(j:Nat)(u:Value):
  (w.setCell ⟨g,j,none⟩ u).ownsRow base e 1 (.slice (some ⟨g,0,none⟩) n cap) n (aP (fun i=>if i=j then u else f i) n):=by
 have :=tF h j u;rwa[rL]at this
theorem aX{B:Nat}{w w':World}(h:Below B w w')(n:Nat):Below B w (w'.drewN n):=⟨h.os,h.tape,h.output,h.size,h.block⟩
section
variable {P:Program}{md:Region.Mode}{l:List Oper}{Q:Exit→Act→World→Prop}{S:World→Prop}{i:Nat}{oi:Oper}{fuel:Nat}{listed:Array Bool}{a:Act}{w:World}{rs:List Nat}
theorem qH(hi:(l.drop i).head?=some oi)(hw:Region.wanted oi (yielded l.toArray a.tmps)=true)
  (h:∀K:Act→World→Prop,Shut (∀a w,S w→(S w→wpAnyH P md l.toArray (NoPanic Q) S fuel (listed.setIfInBounds i true) a w)→K a w)→Oper.wp P oi a w K (NoPanic Q))
  (hs:AllReadyH P md l.toArray (NoPanic Q) S fuel listed a w rs):AllReadyH P md l.toArray (NoPanic Q) S fuel listed a w (i::rs):=
 al6 (cO hi) (fun K hK=>by rw[aH9 hw];exact h K hK) hs
end
end
theorem Ia{m:List Int}{row:Nat}(h:row<m.length):cnt (m.take row) (sy m row)<cnt m (sy m row):=by
 have e:m=m.take row++m[row]::m.drop (row+1):=by
  rw[List.getElem_cons_drop,az0]
 have e2:cnt m (sy m row)=cnt (m.take row) (sy m row)+cnt (m[row]::m.drop (row+1)) (sy m row):=by
  conv=>lhs;rw[show cnt m (sy m row)=cnt (m.take row++m[row]::m.drop (row+1)) (sy m row) by rw[←e]]
  unfold cnt;rw[ap2]
 have e3:0<cnt (m[row]::m.drop (row+1)) (sy m row):=by
  unfold cnt;rw[ap4,jY h];simp
 omega
theorem Dm(m:List Int)(s:Int):aQ m s+cnt m s≤m.length:=by
 unfold aQ cnt;induction m with
 | nil=>simp
 | cons x m ih=>
  rw[ap4,ap4,as7];by_cases h1:x<s
  ·have :¬x=s:=E;simp[h1,this];omega
  ·by_cases h2:x=s
   ·subst h2;simp;omega
   ·simp[h1,h2];omega
theorem lfL_lt{m:List Int}{row:Nat}(h:row<m.length):lfL m row<m.length:=by
 have :=Ia h;have :=Dm m (sy m row);unfold lfL;omega
theorem Vy{m:List Int}(h:0<m.length):∀k,chain m k<m.length
 | 0=>h
 | k+1=>lfL_lt (Vy h k)
theorem tS{m:List Int}{s:Nat}:aQ m ((s+1:Nat):Int)=aQ m (s:Int)+cnt m (s:Int):=by
 unfold aQ cnt;refine gY (fun x _=>?_) (fun x _=>?_)
 ·by_cases h1:x<(s:Int)
  ·simp[h1];omega
  ·by_cases h2:x=(s:Int)
   ·subst h2;simp;omega
   ·have :¬x<((s+1:Nat):Int):=E;simp only[h1,h2,this,aG6,decide_false,Bool.or_false];simp[h2]
 ·simp;omega
theorem lD{m:List Int}(hm:∀x∈m,0≤x):∀s:Nat,bl (Tl.of m).N s=(aQ m (s:Int):Int)
 | 0=>by
  have :aQ m ((0:Nat):Int)=0:=by
   unfold aQ;rw[ap5];intro x hx;have :=hm x hx;simp;omega
  rw[this];rfl
 | s+1=>by
  rw[tS];show bl (Tl.of m).N s+(Tl.of m).N s=_;rw[lD hm s];show _+((cnt m (s:Int):Nat):Int)=_;omega
section
open Go.RowKit
theorem iO{z:Value}(n:Nat):Builtin.zeroCells #[z] n=(List.replicate n z).toArray:=by
 apply Array.ext
 ·simp[Builtin.zeroCells]
 ·intro i h1 h2;have h0:∀m,m%1=0:=fun m=>E;simp[Builtin.zeroCells,h0]
theorem yV{P:Program}(w:World)(base:Nat)(t it ty e:TypeId)(i:TypeInfo)(z:Value)(ht:P.underlying t=some (.slice e))(hit:P.underlying it=some (.int .i64))(hi:P.info? e=some i)(hz:i.zero=some z)
  (hsize:i.size=1) (hby:i.bytes=1) (hzc:z.cells=#[z]) (h1:z.oneCell'=true)
  (v:Value) (n:Nat) (xs:List Value) (hown:w.ownsRow base e 1 v n xs) (m:Nat) (hm:n+m≤1000000) (hbase:base≤w.heap.size):
  ∃v' w',(Builtin.append_ #[t,it] ty #[v, .int .i64 (m:Int)]).run P w= .ok v' w'∧w'.ownsRow base e 1 v' (n+m) (xs++List.replicate m z)∧w.grownBy w' v.ownBlock:=by
 have hw:IntKind.i64.wrap (m:Int)=m:=ao4 _ E;have n1:¬((m:Int)<0):=E;have n2:¬(281474976710656<(m:Int)):=E;have hlen:(xs++List.replicate m z).length=(n+m)*1:=by rw[as6,hown.1,at3];omega
 have ho:∀u∈List.replicate m z,u.oneCell'=true:=fun u hu=>by rw[(List.mem_replicate.1 hu).2];exact h1
 have grown:∀(old:Nat),old<n+m→∀(row:Option Nat),
   (w.drew.alloc (.cells (xs.toArray++(List.replicate m z).toArray++Builtin.zeroCells z.cells (grownCap w (n+m) old e-(n+m))) e)).ownsRow base e 1
    (.slice (some ⟨w.heap.size,0,none⟩) (n+m) (grownCap w (n+m) old e)) (n+m) (xs++List.replicate m z)∧
   w.grownBy (w.drew.alloc (.cells (xs.toArray++(List.replicate m z).toArray++Builtin.zeroCells z.cells (grownCap w (n+m) old e-(n+m))) e)) row:=by
  intro old ho row;have hge:=grownCap_ge w (n+m) old e;have hcm:grownCap w (n+m) old e≤maxLen:=grownCap_le_maxLen w (n+m) old e (by unfold maxLen;omega);refine⟨⟨hlen, .inr ⟨w.heap.size,_,_,rfl,hbase,aH5 w.drew _,hge,hcm,?_,?_⟩⟩,⟨rfl,rfl,rfl,Es,fun k hk _=>am3 w.drew _ k hk⟩⟩
  ·rw[hzc];simp only[Array.size_append,ay7,iO,hown.1,at3];omega
  ·simp only[Array.toList_append,ao7];rw[←ao7,←hlen];exact List.take_left
 rcases hown.2 with ⟨rfl,rfl⟩ | ⟨g,cap,cur,rfl,hbg,hg,hnc,hcm,hcs,htake⟩
 ·have hx:xs=[]:=List.eq_nil_of_length_eq_zero (by simpa using hown.1);subst hx;by_cases hm0:m=0
  ·subst hm0;have hw0:IntKind.i64.wrap 0=0:=Ed;refine⟨.slice none 0 0,w,?_,aG2 w base e 1,⟨rfl,rfl,rfl,aA5 _,fun _ _ _=>rfl⟩⟩;simp[Builtin.append_,aI7 ht,aI7 hit,sizeOf,typeInfo,hi,hw0,hsize,hby,asInt,asIntOf]
  ·have hgr:=grown 0 E (Value.ownBlock (.slice none 0 0));simp only[aC7,ax5,Array.empty_append]at hgr⊢;refine⟨_,_,?_,hgr.1,hgr.2⟩;have h63:¬(9223372036854775807<(m:Int)):=E;have h48:¬(281474976710656<Builtin.nextslicecap m 0):=by rw[nextslicecap_zero E];omega
   simp[Builtin.append_,aI7 ht,aI7 hit,sizeOf,typeInfo,zeroValue,hi,hz,hw,hsize,hby,n1,n2,hm0,asInt,asIntOf,h63,h48,Question.forced,run_firstCells_none,newRow,grownCap,hzc,iO]
 ·by_cases hroom:n+m≤cap
  ·have hfit:n*1+(List.replicate m z).length≤cur.size:=by rw[at3,hcs];omega
   have hst:=run_storeCells_at P g (n*1) e (List.replicate m z) 0 cur w hg (by simpa using hfit) ho;simp only[aA0,aB6]at hst;refine⟨.slice (some ⟨g,0,none⟩) (n+m) cap,_,?_,⟨hlen, .inr ⟨g,cap,_,rfl,hbg,setRow_heap w g cur (cur.toList.take n++List.replicate m z++cur.toList.drop (n+(List.replicate m z).length)).toArray e (0,0) hg,hroom,hcm,?_,?_⟩⟩,⟨rfl,rfl,rfl,Es,fun k _ hk=>setRow_other w g k _ (fun e=>hk (by simp[Value.ownBlock,e]))⟩⟩
   ·by_cases hm0:m=0
    ·subst hm0;have hw0:IntKind.i64.wrap 0=0:=Ed;simp at hst;simp[Builtin.append_,aI7 ht,aI7 hit,sizeOf,typeInfo,hi,hw0,hsize,hby,asInt,asIntOf,hnc,al5,hst]
    ·simp[Builtin.append_,aI7 ht,aI7 hit,sizeOf,typeInfo,zeroValue,hi,hz,hw,hsize,hby,n1,n2,hm0,asInt,asIntOf,hroom,al5,hzc,iO,hst]
   ·simp only[ay7,as6,at5,as8,Array.length_toList,at3];simp at hfit hcs;omega
   ·simp only[aB6]at htake;rw[htake,←hlen];exact List.take_left
  ·have holds:∀j u,xs[j]? =some u→w.cell? ((⟨g,0,none⟩:Addr).add j)=some u:=hown.cells (g:=g) rfl;have hgr:=grown cap E (Value.ownBlock (.slice (some ⟨g,0,none⟩) n cap));refine⟨_,_,?_,hgr.1,hgr.2⟩;have hm0:m≠0:=E;have h63:¬(9223372036854775807<((n:Int)+(m:Int))):=E;have h48:¬(281474976710656<Builtin.nextslicecap (n+m) cap):=by
    have :=growslice_fits (need:=n+m) (old:=cap) (bytes:=1) E E;omega
   have hfo:=run_firstCells_some (P:=P) w.drew 1 n ⟨g,0,none⟩ n cap xs hown.1 (by simpa using holds);simp[Builtin.append_,aI7 ht,aI7 hit,sizeOf,typeInfo,zeroValue,hi,hz,hw,hsize,hby,n1,n2,hm0,asInt,asIntOf,hroom,h63,h48,Question.forced,hfo,newRow,grownCap,hzc,iO]
theorem Aj{P:Program}{w:World}{ops:Array Oper}{rest:List Oper}{o:Oper}{a:Act}{Q:Exit→Act→World→Prop}(hgd:o.guard=none)(s x:Operand)(t it:TypeId)
  (ho:o.op= .call {callee:= .builtin .append,args:=#[s,x],argTypes:=#[t,it]})
  (base:Nat) (e:TypeId) {z:Value} (hinfo:(P.info? e).map (fun i=>(i.zero,i.size,i.bytes))=some (some z,1,1)) (ht:P.underlying t=some (.slice e)) (hit:P.underlying it=some (.int .i64)) (hzc:z.cells=#[z]) (h1:z.oneCell'=true)
  (v:Value) (n:Nat) (xs:List Value) (hs:a.eval s=v) (hown:w.ownsRow base e 1 v n xs) (m:Nat) (hx:a.eval x= .int .i64 (m:Int)) (hm:n+m≤1000000) (hbase:base≤w.heap.size)
  (h:∀v' w',w'.ownsRow base e 1 v' (n+m) (xs++List.replicate m z)→w.grownBy w' v.ownBlock→wpList P ops Q rest (a.put o.dst v') w'):wpList P ops Q (o::rest) a w:=by
 obtain⟨i,hi,hz,hsz,hby⟩:=aI1 hinfo;refine wpList_plain hgd fun K hK=>?_;obtain⟨v',w',hr,h2,h3⟩:=yV (P:=P) w base t it o.type e i z ht hit hi hz hsz hby hzc h1 v n xs hown m hm hbase;unfold Oper.wp execOp;simp only[ho,resolve,invoke,builtin,Sem.run_bind,Sem.run_pure,aD6,av7,at8,av5,hs,hx,hr];exact hK _ _ (h v' w' h2 h3)
end
section
open Go.ChangeShapes Go.WideShapes Go.ChangeAt Go.RowKit
variable {H:Type}{enc:TypeId×Value→H}{P:Program}{w:World}{base:Nat}{sp:Nat→Bool}{held:Bool}
theorem Kc{t e:TypeId}{k:IntKind}{fuel:Nat}{a:Option Addr}{len cap:Nat}{x:DataW H×List MemPlace}(ht:P.underlying t=some (.slice e))(he:P.underlying e=some (.int k))(hc:P.cellsOf e=1)
  (hf:DataW.trod enc P w base sp held fuel t (Value.slice a len cap).cells.toList=some x):∃xs:List Int,len=xs.length∧ArgI k w a cap xs:=by
 rcases open_ints ht he hc hf with ⟨hcs,_⟩ | ⟨x,l,c,zs,hcs,_,hl,hm,hz,_,hcell,hwz⟩
 ·simp[Value.cells]at hcs;obtain⟨rfl,rfl,rfl⟩:=hcs;exact⟨[],rfl,⟨Reads.nil,fun i hi=>absurd hi Es,Es,by unfold maxLen;omega,fun _=>rfl⟩⟩
 ·simp[Value.cells]at hcs;obtain⟨rfl,rfl,rfl⟩:=hcs;have hzl:len≤zs.length:=by rw[hz];split<;>omega
  have hlen:(zs.take len).length=len:=by rw[at5];omega
  clear hz;refine⟨zs.take len,hlen.symm,⟨fun i hi=>?_,fun i hi=>?_,by rw[hlen];exact hl,hm,fun h=>by cases h⟩⟩
  ·rw[hlen]at hi⊢;obtain⟨b,off,spot⟩:=x;have h0:=hcell 0 E;have hspot:spot=none:=by simpa[Addr.add]using World.cell?_spot h0
   subst hspot;refine⟨b,off,rfl,World.block_lt_of_cell? w _ (by simpa[Addr.add]using h0),fun j hj=>?_⟩;have :=hcell j E;rw[ar9,aH9 hj];rw[al5]at this;simpa[List.getD_eq_getElem?_getD]using this
  ·rw[hlen]at hi;rw[ar9,aH9 hi,ar3 E];exact hwz _ (as3 _)
variable {H:Type}{enc:TypeId×Value→H}{P:Program}{w:World}{base:Nat}{sp:Nat→Bool}{held:Bool}
structure Row where
 a:Option Addr
 cap:Nat
 l:List Int
instance:Inhabited Row:=⟨⟨none,0,[]⟩⟩
variable {H:Type}{enc:TypeId×Value→H}{P:Program}{w:World}{base:Nat}{sp:Nat→Bool}{held:Bool}
end
section
open Go.RowKit
theorem Zd{w:World}{k:IntKind}{a:Option Addr}{xs:List Int}(h:Reads w k a xs):ReadsV w a (xs.map (Value.int k)):=by
 intro i hi;rw[at1]at hi;obtain⟨b,off,e,hl,hc⟩:=h i hi;refine⟨b,off,e,hl,fun j u hj=>?_⟩;rw[ar6]at hj;cases hx:xs[j]? with
 | none=>rw[hx]at hj;cases hj
 | some x=>
  rw[hx]at hj;cases hj;have :=hc j (ar5.1 hx).1;rw[hx]at this;exact this
def Pj(B:Nat)(w:World)(m:List Int)(e:Ending)(w':World):Prop:=∃v,e= .returned v∧w'.ownsRow B 5 1 v m.length (m.map (Value.int .u8))∧Below B w w'
end
def pc(w:Nat):Nat→Nat
 | 0=>0
 | k+1=>pc w k+(w.testBit k).toNat
theorem eA(w k:Nat):pc w k≤k:=by
 induction k with
 | zero=>exact aA5 _
 | succ k ih=>have :=Bool.toNat_le (w.testBit k);simp only[pc];omega
theorem mK(w:Nat){i j:Nat}(h:i≤j):pc w i≤pc w j:=by
 induction j with
 | zero=>
      have :i=0:=E;rw[this];exact aA5 _
 | succ j ih=>
  rcases aB0 j i with h1 | h1
  ·have :i=j+1:=E;rw[this];exact aA5 _
  ·have :=ih h1;simp only[pc];omega
theorem Fe{w v k:Nat}(h:∀i,i<k→w.testBit i=v.testBit i):pc w k=pc v k:=by
 induction k with
 | zero=>rfl
 | succ k ih=>simp only[pc];rw[ih (fun i hi=>h i E),h k E]
theorem ag8(k:Nat):pc 0 k=0:=by
 induction k with
 | zero=>rfl
 | succ k ih=>simp[pc,ih]
theorem Si(w a b:Nat):pc w (a+b)=pc w a+pc (w/2^a) b:=by
 induction b with
 | zero=>rfl
 | succ b ih=>
  rw[←az7];simp only[pc];rw[ih,Nat.testBit_div_two_pow,Nat.add_comm b a];omega
theorem ag7{w m:Nat}(h:w<2^m)(b:Nat):pc w (m+b)=pc w m:=by
 rw[Si,Nat.div_eq_of_lt h,ag8];rfl
theorem pc_ge{w m k:Nat}(h:w<2^m)(hk:m≤k):pc w k=pc w m:=by
 obtain⟨b,rfl⟩:=aA3 hk;exact ag7 h b
def m55:Nat→Nat | 0=>0 | n+1=>256*m55 n+85
def m33:Nat→Nat | 0=>0 | n+1=>256*m33 n+51
def m0f:Nat→Nat | 0=>0 | n+1=>256*m0f n+15
def st1(n x:Nat):Nat:=(x/2&&&m55 n)+(x&&&m55 n)
def st2(n x:Nat):Nat:=(x/4&&&m33 n)+(x&&&m33 n)
def st3(n x:Nat):Nat:=(x/16+x)&&&m0f n
theorem gF(k a b:Nat):a&&&b=2^k*((a/2^k)&&&(b/2^k))+((a%2^k)&&&(b%2^k)):=by
 apply Nat.eq_of_testBit_eq;intro i;have hlt:(a%2^k)&&&(b%2^k)<2^k:=aA8 Nat.and_le_left (aB4 _ (aC6 k));rw[aC5 _ hlt];split
 ·rename_i h;simp[aC2,aC3,h]
 ·rename_i h;rw[aC2,aC2,Nat.testBit_div_two_pow,Nat.testBit_div_two_pow,Nat.sub_add_cancel E]
theorem jN(a b c:Nat)(hc:c<256):a&&&(256*b+c)=256*((a/256)&&&b)+((a%256)&&&c):=by
 have :=gF 8 a (256*b+c);simp only[Nat.reducePow]at this;rw[this,show (256*b+c)/256=b by omega,show (256*b+c)%256=c by omega]
theorem Zy(n x:Nat):st1 (n+1) x=256*st1 n (x/256)+st1 1 (x%256):=by
 have h7:(x/2%256)&&&85=(x%256/2)&&&85:=by
  have e1:=gF 7 (x/2%256) 85;have e2:=gF 7 (x%256/2) 85;simp only[Nat.reducePow,Nat.reduceDiv,Nat.and_zero,Nat.reduceMod]at e1 e2;rw[e1,e2,show x/2%256%128=x%256/2%128 by omega]
 have h8:m55 1=85:=rfl;simp only[st1,m55];rw[jN _ _ _ E,jN _ _ _ E,h7,show x/2/256=x/256/2 by omega];simp only[Nat.mul_zero,aC7];omega
theorem aa0(n x:Nat):st2 (n+1) x=256*st2 n (x/256)+st2 1 (x%256):=by
 have h7:(x/4%256)&&&51=(x%256/4)&&&51:=by
  have e1:=gF 6 (x/4%256) 51;have e2:=gF 6 (x%256/4) 51;simp only[Nat.reducePow,Nat.reduceDiv,Nat.and_zero,Nat.reduceMod]at e1 e2;rw[e1,e2,show x/4%256%64=x%256/4%64 by omega]
 simp only[st2,m33];rw[jN _ _ _ E,jN _ _ _ E,h7,show x/4/256=x/256/4 by omega];simp only[Nat.mul_zero,aC7];omega
theorem aa2(n x:Nat)(h0:x%256≤68)(h1:x/256%16≤4):st3 (n+1) x=256*st3 n (x/256)+st3 1 (x%256):=by
 have h7:((x/16+x)%256)&&&15=(x%256/16+x%256)&&&15:=by
  have e1:=gF 4 ((x/16+x)%256) 15;have e2:=gF 4 (x%256/16+x%256) 15;simp only[Nat.reducePow,Nat.reduceDiv,Nat.and_zero,Nat.reduceMod]at e1 e2;rw[e1,e2,show (x/16+x)%256%16=(x%256/16+x%256)%16 by omega]
 simp only[st3,m0f];rw[jN _ _ _ E,h7,show (x/16+x)/256=x/256/16+x/256 by omega]
theorem kV:∀b:Fin 256,st1 1 b.val<256∧st2 1 (st1 1 b.val)≤68∧st2 1 (st1 1 b.val)%16≤4∧st3 1 (st2 1 (st1 1 b.val))=pc b.val 8:=by decide+kernel
def iJ:Nat→Nat→Nat | 0,_=>0 | n+1,x=>256*iJ n (x/256)+pc (x%256) 8
theorem aj4(n x:Nat):st1 (n+1) x/256=st1 n (x/256)∧st1 (n+1) x%256=st1 1 (x%256):=by
 have h:=(kV ⟨x%256,E⟩).1;simp only at h;rw[Zy];omega
theorem aj5(n x:Nat)(h:st2 1 (x%256)<256):st2 (n+1) x/256=st2 n (x/256)∧st2 (n+1) x%256=st2 1 (x%256):=by
 rw[aa0];omega
theorem st12(n x:Nat):st2 (n+1) (st1 (n+1) x)/256=st2 n (st1 n (x/256))∧st2 (n+1) (st1 (n+1) x)%256=st2 1 (st1 1 (x%256)):=by
 have h:=kV ⟨x%256,E⟩;simp only at h;obtain⟨e1,e2⟩:=aj4 n x;have :=aj5 n (st1 (n+1) x) (by rw[e2];omega);rw[e1,e2]at this;exact this
theorem Uc(n x:Nat):st3 n (st2 n (st1 n x))=iJ n x:=by
 induction n generalizing x with
 | zero=>simp[st3,m0f,iJ]
 | succ n ih=>
  have h:=kV ⟨x%256,E⟩;simp only at h;obtain⟨e1,e2⟩:=st12 n x;rw[aa2 n _ (by rw[e2];omega) ?_,e1,e2,ih,h.2.2.2]
  ·rfl
  ·rw[e1];cases n with
   | zero=>simp[st2,m33]
   | succ n=>
    have h':=kV ⟨x/256%256,E⟩;simp only at h';have :=(st12 n (x/256)).2;omega
theorem gM(n x:Nat):pc x (8*(n+1))=pc (x%256) 8+pc (x/256) (8*n):=by
 rw[show 8*(n+1)=8+8*n by omega,Si];congr 1;exact Fe (fun i hi=>by rw[show 256=2^8 from rfl,aC3];simp[hi])
def lY(x:Nat):Nat:=(x+x/256+(x+x/256)/65536)+(x+x/256+(x+x/256)/65536)/4294967296
theorem dg{n b c:Nat}(h:n=256*b+c)(hc:c<256):n/256=b:=E
theorem dg2{n b c:Nat}(h:n=256*b+c)(hc:c<256):n%256=c:=E
theorem dgs{x y a b c d:Nat}(h:x=256*a+c)(k:y=256*b+d):x+y=256*(a+b)+(c+d):=E
theorem div4(n:Nat):n/4294967296=n/256/256/256/256:=by rw[aA1,aA1,aA1]
theorem div2(n:Nat):n/65536=n/256/256:=by rw[aA1]
theorem le2{a b:Nat}(h:a≤8)(k:b≤8):a+b<256:=E
theorem le4{a b c d:Nat}(h:a≤8)(k:b≤8)(l:c≤8)(m:d≤8):a+b+(c+d)<256:=E
theorem le8{a b c d e f g i:Nat}(h:a≤8)(k:b≤8)(l:c≤8)(m:d≤8)(h':e≤8)(k':f≤8)(l':g≤8)(m':i≤8):a+b+(c+d)+(e+f+(g+i))<256:=E
theorem Ie{X0 X1 X2 X3 X4 X5 X6 X7 c0 c1 c2 c3 c4 c5 c6:Nat}(e0:X0=256*X1+c0)(e1:X1=256*X2+c1)(e2:X2=256*X3+c2)(e3:X3=256*X4+c3)
  (e4:X4=256*X5+c4) (e5:X5=256*X6+c5) (e6:X6=256*X7+c6) (h0:c0≤8) (h1:c1≤8) (h2:c2≤8) (h3:c3≤8) (h4:c4≤8) (h5:c5≤8) (h6:c6≤8) (h7:X7≤8):
  lY X0%256=c0+c1+c2+c3+c4+c5+c6+X7:=by
 have e7:X7=256*0+X7:=Es;have a0:X0/256=X1:=dg e0 E;have a1:X0+X0/256=256*(X1+X2)+(c0+c1):=by rw[a0];exact dgs e0 e1
 have b1:=dgs e1 e2;have b2:=dgs e2 e3;have b3:=dgs e3 e4;have b4:=dgs e4 e5;have b5:=dgs e5 e6;have b6:=dgs e6 e7;have a2:(256*(X1+X2)+(c0+c1))/65536=X2+X3:=by
  rw[div2,dg rfl (le2 h0 h1)];exact dg b1 (le2 h1 h2)
 have a3:256*(X1+X2)+(c0+c1)+(X2+X3)=256*(X1+X2+(X3+X4))+(c0+c1+(c2+c3)):=dgs rfl b2;have s1:=dgs b1 b3;have s2:=dgs b2 b4;have s3:=dgs b3 b5;have s4:=dgs b4 b6;unfold lY;rw[a1,a2,a3,div4,dg rfl (le4 h0 h1 h2 h3),dg s1 (le4 h1 h2 h3 h4),dg s2 (le4 h2 h3 h4 h5),dg s3 (le4 h3 h4 h5 h6)];rw[dg2 (dgs rfl s4) (le8 h0 h1 h2 h3 h4 h5 h6 h7)];simp only[az7]
theorem eD(n x:Nat):iJ (n+1) x=256*iJ n (x/256)+pc (x%256) 8:=rfl
theorem Me(x:Nat):lY (iJ 8 x)%256=pc x 64:=by
 have e7:iJ 1 (x/256/256/256/256/256/256/256)=pc (x/256/256/256/256/256/256/256%256) 8:=by rw[eD];simp[iJ]
 have p0:pc x 64=_:=gM 7 x;have p1:pc (x/256) (8*7)=_:=gM 6 (x/256);have p2:pc (x/256/256) (8*6)=_:=gM 5 (x/256/256);have p3:pc (x/256/256/256) (8*5)=_:=gM 4 (x/256/256/256);have p4:pc (x/256/256/256/256) (8*4)=_:=gM 3 (x/256/256/256/256);have p5:pc (x/256/256/256/256/256) (8*3)=_:=gM 2 (x/256/256/256/256/256);have p6:pc (x/256/256/256/256/256/256) (8*2)=_:=gM 1 (x/256/256/256/256/256/256);have p7:pc (x/256/256/256/256/256/256/256) (8*1)=_:=gM 0 (x/256/256/256/256/256/256/256);have pz:pc (x/256/256/256/256/256/256/256/256) (8*0)=0:=rfl;rw[Ie (eD 7 x) (eD 6 _) (eD 5 _) (eD 4 _) (eD 3 _) (eD 2 _) (eD 1 _) (eA _ _) (eA _ _) (eA _ _) (eA _ _) (eA _ _) (eA _ _) (eA _ _) (by rw[e7];exact eA _ _),e7,p0,p1,p2,p3,p4,p5,p6,p7,pz];omega
theorem Hl:∀(n x:Nat),iJ n x*31<256^n
 | 0,x=>by simp[iJ]
 | n+1,x=>by
  have :=Hl n (x/256);have h:=eA (x%256) 8;rw[eD,aB9];omega
theorem mL(w k:Nat):pc w (k+1)=pc w k+(w.testBit k).toNat:=rfl
theorem Ff(w:Nat){j k:Nat}(h:j<pc w k):∃m,m<k∧w.testBit m=true∧pc w m=j:=by
 induction k with
 | zero=>simp[pc]at h
 | succ k ih=>
  rcases aB0 j (pc w k)with h1 | h1
  ·obtain⟨m,a,b⟩:=ih h1;exact⟨m,E,b⟩
  ·rw[mL]at h;have hb:=Bool.toNat_le (w.testBit k);cases hk:w.testBit k
   ·rw[hk]at h;simp at h;omega
   ·rw[hk]at h;simp at h;exact⟨k,E,hk,E⟩
theorem Dd{w i j:Nat}(h:i<j)(hi:w.testBit i=true):pc w i<pc w j:=by
 have :=mK w (i:=i+1) (j:=j) E;rw[mL,hi]at this;simp at this;omega
def sel(w:Nat)(j:Int):Int:=match (List.range 64).find? fun i=>w.testBit i&&decide ((pc w i:Int)=j)with
 | some i=>(i:Int)
 | none=> -1
theorem Ll{w k:Nat}{j:Int}(hk:k<64)(hb:w.testBit k=true)(hp:(pc w k:Int)=j):sel w j=k:=by
 unfold sel;have :(List.range 64).find? (fun i=>w.testBit i&&decide ((pc w i:Int)=j))=some k:=by
  rw[List.find?_range_eq_some];refine⟨by simp[hb,hp],by simpa using hk,fun i hi=>?_⟩;cases hbi:w.testBit i
  ·simp
  ·have :=Dd hi hbi;simp;omega
 rw[this]
theorem Gj{w:Nat}{j:Int}(h:j<0∨(pc w 64:Int)≤j):sel w j= -1:=by
 unfold sel;have :(List.range 64).find? (fun i=>w.testBit i&&decide ((pc w i:Int)=j))=none:=by
  rw[List.find?_eq_none];intro i hi;simp only[ax4]at hi;cases hbi:w.testBit i
  ·simp
  ·have :=Dd (j:=64) hi hbi;simp;omega
 rw[this]
theorem Gk{w:Nat}{j:Nat}(h:j<pc w 64):∃k,k<64∧w.testBit k=true∧pc w k=j∧sel w j=k:=by
 obtain⟨k,hk,hb,hp⟩:=Ff w h;exact⟨k,hk,hb,hp,Ll hk hb (by rw[hp])⟩
theorem lowest{x:Nat}(h0:x≠0)(h:x<2^64):∃c,c<64∧Lib.ctz 64 x=c∧x.testBit c=true∧(∀i,i<c→x.testBit i=false)∧∀i,(x&&&(x-1)).testBit i=(x.testBit i&& !decide (i=c)):=by
 obtain⟨m,hm,hc⟩:=Lib.ctzFrom_spec 64 x E h;generalize hcc:Lib.ctzFrom 64 x=c at *;have e1:x=2^c*(2*m+1)+0:=E;have hp:=aC6 c;have e2:x-1=2^c*(2*m)+(2^c-1):=by rw[hm,Nat.mul_add];omega
 have t1:∀i,x.testBit i=if i<c then false else (2*m+1).testBit (i-c):=by
  intro i;rw[e1,aC5 _ hp];simp
 have t2:∀i,(x-1).testBit i=if i<c then (2^c-1).testBit i else (2*m).testBit (i-c):=by
  intro i;rw[e2,aC5 _ E]
 refine⟨c,hc,?_,?_,?_,?_⟩
 ·unfold Lib.ctz;rw[aH8 h0,hcc]
 ·rw[t1];simp
 ·intro i hi;rw[t1,aH9 hi]
 ·intro i;rw[aC2,t1,t2];by_cases hi:i<c
  ·simp[hi]
  ·rw[aH8 hi,aH8 hi];by_cases hic:i=c
   ·subst hic;simp
   ·obtain⟨d,hd⟩:∃d,i-c=d+1:=⟨i-c-1,E⟩;rw[hd];simp only[Nat.testBit_succ,hic,decide_false,Bool.not_false,Bool.and_true];rw[show (2*m+1)/2=m by omega,show 2*m/2=m by omega,Bool.and_self]
def zL(w j x:Nat):Prop:=x<2^64∧∀i,x.testBit i=(w.testBit i&&decide (j≤pc w i))
theorem Qq{w:Nat}(h:w<2^64):zL w 0 w:=⟨h,fun i=>Es⟩
theorem qQ{w j x:Nat}(hw:w<2^64)(hg:zL w j x)(hj:j<pc w 64):∃c,c<64∧x≠0∧Lib.ctz 64 x=c∧w.testBit c=true∧pc w c=j∧∀i,(x&&&(x-1)).testBit i=(x.testBit i&& !decide (i=c)):=by
 obtain⟨hx,hg⟩:=hg;obtain⟨m,hm,hb,hp⟩:=Ff w hj;have hxm:x.testBit m=true:=by rw[hg,hb,hp];simp
 have h0:x≠0:=by intro e;rw[e]at hxm;simp at hxm
 obtain⟨c,hc,hct,hxc,hlow,hand⟩:=lowest h0 hx;have hwc:w.testBit c=true∧j≤pc w c:=by
  have :=hg c;rw[hxc]at this;simpa using this.symm
 have hpc:pc w c=j:=by
  rcases aB0 j (pc w c)with h1 | h1
  ·obtain⟨m',hm',hb',hp'⟩:=Ff w h1;have :x.testBit m'=true:=by rw[hg,hb',hp'];simp
   rw[hlow m' hm']at this;cases this
  ·omega
 exact⟨c,hc,h0,hct,hwc.1,hpc,hand⟩
theorem Qp{w j x:Nat}(hw:w<2^64)(hg:zL w j x)(hj:j<pc w 64):zL w (j+1) (x&&&(x-1)):=by
 obtain⟨c,hc,h0,hct,hwc,hpc,hand⟩:=qQ hw hg hj;refine⟨aA8 Nat.and_le_left hg.1,fun i=>?_⟩;rw[hand,hg.2];cases hwi:w.testBit i
 ·simp
 ·simp only[Bool.true_and];rcases aB1 i c with h | h | h
  ·have :=Dd h hwi;rw[am6];simp;omega
  ·subst h;simp;omega
  ·have :=Dd h hwc;rw[am6];simp;omega
theorem Wf{w j x:Nat}(hw:w<2^64)(hg:zL w j x)(hj:j<pc w 64):(Lib.ctz 64 x:Int)=sel w j:=by
 obtain⟨c,hc,h0,hct,hwc,hpc,hand⟩:=qQ hw hg hj;rw[hct,Ll hc hwc (by rw[hpc])]
def eZ(f:Nat→Bool):Nat→Nat
 | 0=>0
 | n+1=>eZ f n+(if f n then 2^n else 0)
theorem jK(f:Nat→Bool)(n:Nat):eZ f n<2^n:=by
 induction n with
 | zero=>simp[eZ]
 | succ n ih=>simp only[eZ];rw[aB9];split<;>omega
theorem jZ(f:Nat→Bool)(n i:Nat):(eZ f n).testBit i=(decide (i<n)&&f i):=by
 induction n with
 | zero=>simp[eZ]
 | succ n ih=>
  have hl:=jK f n;have e:eZ f (n+1)=2^n*(if f n then 1 else 0)+eZ f n:=by
   simp only[eZ];split<;>omega
  rw[e,aC5 _ hl,ih];by_cases hi:i<n
  ·rw[aH9 hi];simp[hi];omega
  ·rw[aH8 hi];by_cases hn:i=n
   ·subst hn;cases hf:f i<;>simp
   ·have h1:¬i<n+1:=E;obtain⟨d,hd⟩:∃d,i-n=d+1:=⟨i-n-1,E⟩;rw[hd];cases f n<;>simp[h1,Nat.testBit_succ]
theorem dG{x y n:Nat}(hx:x<2^n)(hy:y<2^n)(h:∀i,i<n→x.testBit i=y.testBit i):x=y:=by
 apply Nat.eq_of_testBit_eq;intro i;by_cases hi:i<n
 ·exact h i hi
 ·rw[Nat.testBit_lt_two_pow (aA9 hx (aB8 E E)),Nat.testBit_lt_two_pow (aA9 hy (aB8 E E))]
theorem Ls{x n:Nat}(hx:x<2^n)(f:Nat→Bool)(h:∀i,i<n→x.testBit i=f i):x=eZ f n:=
 dG hx (jK f n) (fun i hi=>by rw[jZ,h i hi];simp[hi])
theorem Vr{x i:Nat}(hx:x<2^64)(hi:64≤i):x.testBit i=false:=
 Nat.testBit_lt_two_pow (aA9 hx (aB8 E hi))
def oA(w k:Nat)(b:Bool):Nat:=eZ (fun i=>if i<k then w.testBit i else if i=k then b else w.testBit (i-1)) 64
def kG(w k:Nat)(b:Bool):Nat:=eZ (fun i=>if i<k then w.testBit i else if i=63 then b else w.testBit (i+1)) 64
theorem zZ(w k:Nat)(b:Bool):oA w k b<2^64:=jK _ _
theorem zQ(w k:Nat)(b:Bool):kG w k b<2^64:=jK _ _
theorem xC{w k i:Nat}{b:Bool}(hi:i<64):(oA w k b).testBit i=if i<k then w.testBit i else if i=k then b else w.testBit (i-1):=by
 unfold oA;rw[jZ];simp[hi]
theorem vS{w k i:Nat}{b:Bool}(hi:i<64):(kG w k b).testBit i=if i<k then w.testBit i else if i=63 then b else w.testBit (i+1):=by
 unfold kG;rw[jZ];simp[hi]
theorem put_eq{w k:Nat}(b:Bool)(hk:k<64)(hw:w<2^64):(w%2^k|||(if b then 2^k else 0))|||((w&&&(2^64-1-w%2^k))*2%2^64)=oA w k b:=by
 have h2:(2:Nat)^k≤2^63:=aB8 E E;have hl:w%2^k<2^64:=by have :=aB4 w (aC6 k);omega
 refine Ls (n:=64) (aB7 (aB7 hl (by split<;>omega)) (aB4 _ (aC6 _))) _ (fun i hi=>?_);have e:2^64-1-w%2^k=2^64-(w%2^k+1):=E;have hb:(if b=true then 2^k else 0:Nat).testBit i=(b&&decide (i=k)):=by
  cases b
  ·simp
  ·simp[Nat.testBit_two_pow,eq_comm]
 have hs:((w&&&(2^64-1-w%2^k))*2%2^64).testBit i=(decide (k<i)&&w.testBit (i-1)):=by
  rw[aC3,e,Nat.mul_comm,show (2:Nat)*(w&&&(2^64-(w%2^k+1)))=2^1*(w&&&(2^64-(w%2^k+1)))from rfl,Nat.testBit_two_pow_mul,aC2,Nat.testBit_two_pow_sub_succ hl,aC3];simp only[hi,decide_true,Bool.true_and];by_cases h1:1≤i
  ·have h3:i-1<64:=E;by_cases h4:i-1<k
   ·have h5:¬k<i:=E;simp[h1,h3,h4,h5]
   ·have h5:k<i:=E;simp[h1,h3,h4,h5]
  ·have h5:¬k<i:=E;simp[h1,h5]
 rw[aC4,aC4,hb,hs,aC3];by_cases h1:i<k
 ·have h2:¬i=k:=E;have h3:¬k<i:=E;simp[h1,h2,h3]
 ·by_cases h2:i=k
  ·subst h2;simp
  ·have h3:k<i:=E;simp[h1,h2,h3]
theorem cut_eq{w k:Nat}(b:Bool)(hk:k<64)(hw:w<2^64):(w%2^k|||(w/2&&&(2^64-1-w/2%2^k)))|||(if b then 2^63 else 0)=kG w k b:=by
 have h2:(2:Nat)^k≤2^63:=aB8 E E;have hl:w%2^k<2^64:=by have :=aB4 w (aC6 k);omega
 have hl2:w/2%2^k<2^64:=by have :=aB4 (w/2) (aC6 k);omega
 have hand:w/2&&&(2^64-1-w/2%2^k)<2^64:=aA8 Nat.and_le_left E;refine Ls (n:=64) (aB7 (aB7 hl hand) (by split<;>omega)) _ (fun i hi=>?_);have e:2^64-1-w/2%2^k=2^64-(w/2%2^k+1):=E;have hb:(if b=true then 2^63 else 0:Nat).testBit i=(b&&decide (i=63)):=by
  cases b
  ·simp
  ·rw[aH9 rfl,Nat.testBit_two_pow];simp[eq_comm]
 have hd:(w/2).testBit i=w.testBit (i+1):=by rw[Nat.testBit_succ]
 have hs:(w/2&&&(2^64-1-w/2%2^k)).testBit i=(!decide (i<k)&&w.testBit (i+1)):=by
  rw[e,aC2,Nat.testBit_two_pow_sub_succ hl2,aC3,hd];by_cases h1:i<k<;>simp[h1,hi]
 rw[aC4,aC4,hb,hs,aC3];by_cases h1:i<k
 ·have h2:¬i=63:=E;simp[h1,h2]
 ·by_cases h2:i=63
  ·have h3:w.testBit 64=false:=Vr hw E;subst h2;simp[h1,h3]
  ·simp[h1,h2]
theorem al0{w:Nat}(hw:w<2^64):decide (w/2^63=1)=w.testBit 63:=by
 rw[Nat.testBit_eq_decide_div_mod_eq];have :w/2^63<2:=E;congr 1;rw[aB3 this]
theorem Zx(w k:Nat):decide ((w/2^k)&&&1=1)=w.testBit k:=by
 rw[Nat.testBit_eq_decide_div_mod_eq,Nat.and_one_is_mod]
def cE(x:Nat):Nat:=2^64-1-x
theorem Kz(x:Nat):cE x<2^64:=by unfold cE;omega
theorem Ez{x i:Nat}(hx:x<2^64)(hi:i<64):(cE x).testBit i= !x.testBit i:=by
 unfold cE;rw[show 2^64-1-x=2^64-(x+1) by omega,Nat.testBit_two_pow_sub_succ hx];simp[hi]
end Go.Proofs.YtchinbgemenenaaGreatDoor
