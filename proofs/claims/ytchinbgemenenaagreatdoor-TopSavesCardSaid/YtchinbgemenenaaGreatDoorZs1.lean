/- Lemmas and contracts under the claims of this seat. No condition. -/
import Derived.Test.YtchinbgemenenaaGreatDoorProg
import Derived.WalkLawsBesides
import Derived.WalkSpells
import Derived.Lib.Hide
import Derived.Laws.AppendOwnNone
import Derived.Deep.AppendLies
import Derived.Deep.RegionHeld3
import Derived.BigQuiet
import Derived.ProofKit
import Derived.OpenShut
import Derived.ShutString
import Derived.Deep.SlicePairs
namespace Go.RowKit
theorem Hid.o{p:Prop}(h:Hid p):p:=h
end Go.RowKit
namespace Go.Proofs.YtchinbgemenenaaGreatDoor
open Go.Proofs.Tryz
set_option linter.unusedVariables false
set_option linter.unusedSimpArgs false
set_option maxRecDepth 100000
set_option maxHeartbeats 12800000
theorem aI6:type_of% @Go.Act.put_comm:=@Go.Act.put_comm
theorem aI7:type_of% @Go.Addr.add_lit:=@Go.Addr.add_lit
theorem aI8:type_of% @Go.AllReadyH.cons:=@Go.AllReadyH.cons
theorem aI9:type_of% @Go.AllReadyH.nil:=@Go.AllReadyH.nil
theorem aJ0:type_of% @Array.extract_eq_self_of_le:=@Array.extract_eq_self_of_le
theorem aJ1:type_of% @Array.getElem?_append_left:=@Array.getElem?_append_left
theorem aJ2:type_of% @Array.getElem?_eq_some_iff:=@Array.getElem?_eq_some_iff
theorem aJ3:type_of% @Array.getElem?_toList:=@Array.getElem?_toList
theorem aJ4:type_of% @Array.toList_setIfInBounds:=@Array.toList_setIfInBounds
theorem aJ5:type_of% @Go.RowKit.Below.heap_alloc:=@Go.RowKit.Below.heap_alloc
theorem aJ6:type_of% @Go.RowKit.Below.refl:=@Go.RowKit.Below.refl
theorem aJ7:type_of% @Bool.and_eq_true:=@Bool.and_eq_true
theorem aJ8:type_of% @Bool.eq_iff_iff:=@Bool.eq_iff_iff
theorem aJ9:type_of% @Bool.not_eq_true:=@Bool.not_eq_true
theorem aK0:type_of% @Int.eq_ofNat_of_zero_le:=@Int.eq_ofNat_of_zero_le
theorem aK1:type_of% @Int.mul_le_mul_of_nonneg_right:=@Int.mul_le_mul_of_nonneg_right
theorem aK2:type_of% @Int.natCast_ediv:=@Int.natCast_ediv
theorem aK3:type_of% @Int.tdiv_eq_ediv_of_nonneg:=@Int.tdiv_eq_ediv_of_nonneg
theorem aK4:type_of% @Int.tmod_eq_emod_of_nonneg:=@Int.tmod_eq_emod_of_nonneg
theorem aK5:type_of% @Int.toNat_natCast:=@Int.toNat_natCast
theorem aK6:type_of% @Int.toNat_of_nonneg:=@Int.toNat_of_nonneg
theorem aK7:type_of% @Go.IntKind.wrap_u64:=@Go.IntKind.wrap_u64
theorem aK8:type_of% @Go.IntWalk.i64_in:=@Go.IntWalk.i64_in
theorem aK9:type_of% @List.Perm.refl:=@List.Perm.refl
theorem aL0:type_of% @List.any_eq_true:=@List.any_eq_true
theorem aL1:type_of% @List.append_assoc:=@List.append_assoc
theorem aL2:type_of% @List.append_nil:=@List.append_nil
theorem aL3:type_of% @List.attach_map_subtype_val:=@List.attach_map_subtype_val
theorem aL4:type_of% @List.cons_append:=@List.cons_append
theorem aL5:type_of% @List.countP_append:=@List.countP_append
theorem aL6:type_of% @List.countP_congr:=@List.countP_congr
theorem aL7:type_of% @List.countP_cons:=@List.countP_cons
theorem aL8:type_of% @List.countP_eq_zero:=@List.countP_eq_zero
theorem aL9:type_of% @List.countP_le_length:=@List.countP_le_length
theorem aM0:type_of% @List.countP_map:=@List.countP_map
theorem aM1:type_of% @List.count_append:=@List.count_append
theorem aM2:type_of% @List.count_cons:=@List.count_cons
theorem aM3:type_of% @List.drop_append:=@List.drop_append
theorem aM4:type_of% @List.drop_append_of_le_length:=@List.drop_append_of_le_length
theorem aM5:type_of% @List.drop_eq_getElem_cons:=@List.drop_eq_getElem_cons
theorem aM6:type_of% @List.drop_eq_nil_of_le:=@List.drop_eq_nil_of_le
theorem bi7:type_of% @List.drop_zero:=@List.drop_zero
theorem aM7:type_of% @List.eq_nil_of_length_eq_zero:=@List.eq_nil_of_length_eq_zero
theorem aM8:type_of% @List.ext_getElem:=@List.ext_getElem
theorem aM9:type_of% @List.ext_getElem?:=@List.ext_getElem?
theorem aN0:type_of% @List.filter_append:=@List.filter_append
theorem aN1:type_of% @List.filter_cons:=@List.filter_cons
theorem aN2:type_of% @List.flatMap_append:=@List.flatMap_append
theorem aN3:type_of% @List.flatMap_cons:=@List.flatMap_cons
theorem aN4:type_of% @List.getD_eq_getElem?_getD:=@List.getD_eq_getElem?_getD
theorem aN5:type_of% @List.getElem?_append:=@List.getElem?_append
theorem aN6:type_of% @List.getElem?_append_left:=@List.getElem?_append_left
theorem aN7:type_of% @List.getElem?_append_right:=@List.getElem?_append_right
theorem aN8:type_of% @List.getElem?_cons_succ:=@List.getElem?_cons_succ
theorem aN9:type_of% @List.getElem?_drop:=@List.getElem?_drop
theorem aO0:type_of% @List.getElem?_eq_getElem:=@List.getElem?_eq_getElem
theorem aO1:type_of% @List.getElem?_eq_none:=@List.getElem?_eq_none
theorem aO2:type_of% @List.getElem?_eq_some_iff:=@List.getElem?_eq_some_iff
theorem aO3:type_of% @List.getElem?_map:=@List.getElem?_map
theorem aO4:type_of% @List.getElem?_of_mem:=@List.getElem?_of_mem
theorem aO5:type_of% @List.getElem?_set:=@List.getElem?_set
theorem aO6:type_of% @List.getElem?_take:=@List.getElem?_take
theorem aO7:type_of% @List.getElem?_toArray:=@List.getElem?_toArray
theorem aO8:type_of% @List.getElem_drop:=@List.getElem_drop
theorem aO9:type_of% @List.getElem_map:=@List.getElem_map
theorem aP0:type_of% @List.getElem_mem:=@List.getElem_mem
theorem aP1:type_of% @List.getElem_of_mem:=@List.getElem_of_mem
theorem aP2:type_of% @List.getElem_take:=@List.getElem_take
theorem aP3:type_of% @List.length_append:=@List.length_append
theorem aP4:type_of% @List.length_cons:=@List.length_cons
theorem aP5:type_of% @List.length_drop:=@List.length_drop
theorem aP6:type_of% @List.length_filter_le:=@List.length_filter_le
theorem aP7:type_of% @List.length_map:=@List.length_map
theorem aP8:type_of% @List.length_nil:=@List.length_nil
theorem aP9:type_of% @List.length_replicate:=@List.length_replicate
theorem aQ0:type_of% @List.length_set:=@List.length_set
theorem aQ1:type_of% @List.length_take:=@List.length_take
theorem aQ2:type_of% @List.map_append:=@List.map_append
theorem aQ3:type_of% @List.map_congr_left:=@List.map_congr_left
theorem aQ4:type_of% @List.map_cons:=@List.map_cons
theorem aQ5:type_of% @List.map_drop:=@List.map_drop
theorem aQ6:type_of% @List.map_map:=@List.map_map
theorem aQ7:type_of% @List.map_nil:=@List.map_nil
theorem aQ8:type_of% @List.map_take:=@List.map_take
theorem aQ9:type_of% @List.map_toArray:=@List.map_toArray
theorem aR0:type_of% @List.mem_append:=@List.mem_append
theorem aR1:type_of% @List.mem_cons:=@List.mem_cons
theorem aR2:type_of% @List.mem_cons_of_mem:=@List.mem_cons_of_mem
theorem aR3:type_of% @List.mem_cons_self:=@List.mem_cons_self
theorem aR4:type_of% @List.mem_map:=@List.mem_map
theorem aR5:type_of% @List.mem_of_getElem?:=@List.mem_of_getElem?
theorem aR6:type_of% @List.mem_of_mem_drop:=@List.mem_of_mem_drop
theorem aR7:type_of% @List.mem_of_mem_take:=@List.mem_of_mem_take
theorem aR8:type_of% @List.mem_range:=@List.mem_range
theorem aR9:type_of% @List.mem_singleton:=@List.mem_singleton
theorem aS0:type_of% @List.nil_append:=@List.nil_append
theorem aS1:type_of% @List.nodup_append:=@List.nodup_append
theorem aS2:type_of% @List.nodup_cons:=@List.nodup_cons
theorem aS3:type_of% @List.nodup_nil:=@List.nodup_nil
theorem aS4:type_of% @List.nodup_range:=@List.nodup_range
theorem aS5:type_of% @List.not_mem_nil:=@List.not_mem_nil
theorem aS6:type_of% @List.pairwise_cons:=@List.pairwise_cons
theorem aS7:type_of% @List.pairwise_iff_getElem:=@List.pairwise_iff_getElem
theorem aS8:type_of% @List.prefix_refl:=@List.prefix_refl
theorem aS9:type_of% @List.range_succ:=@List.range_succ
theorem aT0:type_of% @List.setIfInBounds_toArray:=@List.setIfInBounds_toArray
theorem aT1:type_of% @List.set_cons_zero:=@List.set_cons_zero
theorem aT2:type_of% @List.set_set:=@List.set_set
theorem aT3:type_of% @List.size_toArray:=@List.size_toArray
theorem aT4:type_of% @List.sum_append:=@List.sum_append
theorem aT5:type_of% @List.take_add_one:=@List.take_add_one
theorem aT6:type_of% @List.take_append_drop:=@List.take_append_drop
theorem aT7:type_of% @List.take_append_of_le_length:=@List.take_append_of_le_length
theorem aT8:type_of% @List.take_length:=@List.take_length
theorem aT9:type_of% @List.take_of_length_le:=@List.take_of_length_le
theorem aU0:type_of% @List.take_sublist:=@List.take_sublist
theorem aU1:type_of% @List.take_take:=@List.take_take
theorem aU2:type_of% @List.take_zero:=@List.take_zero
theorem aU3:type_of% @Nat.add_assoc:=@Nat.add_assoc
theorem aU4:type_of% @Nat.add_mod_right:=@Nat.add_mod_right
theorem aU5:type_of% @Nat.add_sub_cancel:=@Nat.add_sub_cancel
theorem aU6:type_of% @Nat.add_sub_cancel_left:=@Nat.add_sub_cancel_left
theorem aU7:type_of% @Nat.add_zero:=@Nat.add_zero
theorem aU8:type_of% @Nat.and_two_pow_sub_one_eq_mod:=@Nat.and_two_pow_sub_one_eq_mod
theorem aU9:type_of% @Nat.div_div_eq_div_mul:=@Nat.div_div_eq_div_mul
theorem aV0:type_of% @Nat.eq_zero_or_pos:=@Nat.eq_zero_or_pos
theorem aV1:type_of% @Nat.exists_eq_add_of_le:=@Nat.exists_eq_add_of_le
theorem aV2:type_of% @Nat.le_add_right:=@Nat.le_add_right
theorem aV3:type_of% @Nat.le_refl:=@Nat.le_refl
theorem aV4:type_of% @Nat.le_trans:=@Nat.le_trans
theorem aV5:type_of% @Nat.lt_irrefl:=@Nat.lt_irrefl
theorem aV6:type_of% @Nat.lt_of_le_of_lt:=@Nat.lt_of_le_of_lt
theorem aV7:type_of% @Nat.lt_of_lt_of_le:=@Nat.lt_of_lt_of_le
theorem aV8:type_of% @Nat.lt_or_ge:=@Nat.lt_or_ge
theorem aV9:type_of% @Nat.lt_trichotomy:=@Nat.lt_trichotomy
theorem aW0:type_of% @Nat.min_eq_left:=@Nat.min_eq_left
theorem aW1:type_of% @Nat.mod_eq_of_lt:=@Nat.mod_eq_of_lt
theorem aW2:type_of% @Nat.mod_lt:=@Nat.mod_lt
theorem aW3:type_of% @Nat.mul_le_mul:=@Nat.mul_le_mul
theorem aW4:type_of% @Nat.mul_le_mul_right:=@Nat.mul_le_mul_right
theorem aW5:type_of% @Nat.mul_one:=@Nat.mul_one
theorem aW6:type_of% @Nat.or_lt_two_pow:=@Nat.or_lt_two_pow
theorem aW7:type_of% @Nat.pow_le_pow_right:=@Nat.pow_le_pow_right
theorem aW8:type_of% @Nat.pow_succ:=@Nat.pow_succ
theorem aW9:type_of% @Nat.sub_self:=@Nat.sub_self
theorem aX0:type_of% @Nat.sub_zero:=@Nat.sub_zero
theorem aX1:type_of% @Nat.succ_mul:=@Nat.succ_mul
theorem aX2:type_of% @Nat.testBit_and:=@Nat.testBit_and
theorem aX3:type_of% @Nat.testBit_div_two_pow:=@Nat.testBit_div_two_pow
theorem aX4:type_of% @Nat.testBit_lt_two_pow:=@Nat.testBit_lt_two_pow
theorem aX5:type_of% @Nat.testBit_mod_two_pow:=@Nat.testBit_mod_two_pow
theorem aX6:type_of% @Nat.testBit_or:=@Nat.testBit_or
theorem aX7:type_of% @Nat.testBit_two_pow_mul_add:=@Nat.testBit_two_pow_mul_add
theorem aX8:type_of% @Nat.testBit_two_pow_sub_succ:=@Nat.testBit_two_pow_sub_succ
theorem aX9:type_of% @Nat.two_pow_pos:=@Nat.two_pow_pos
theorem aY0:type_of% @Nat.zero_add:=@Nat.zero_add
theorem aY1:type_of% @Nat.zero_le:=@Nat.zero_le
theorem aY2:type_of% @Nat.zero_mul:=@Nat.zero_mul
theorem aY3:type_of% @Option.getD_some:=@Option.getD_some
theorem aY4:type_of% @Option.map_eq_some_iff:=@Option.map_eq_some_iff
theorem aY5:type_of% @Option.map_none:=@Option.map_none
theorem aY6:type_of% @Option.map_some:=@Option.map_some
theorem aY7:type_of% @Option.some.injEq:=@Option.some.injEq
theorem aY8:type_of% @Option.toList_some:=@Option.toList_some
theorem aY9:type_of% @Go.Result.andThen_ok:=@Go.Result.andThen_ok
theorem bi8:type_of% @Go.Proofs.Tryz.isAgg0:=@Go.Proofs.Tryz.isAgg0
theorem aZ0:type_of% @Go.Proofs.Tryz.isAgg3:=@Go.Proofs.Tryz.isAgg3
theorem aZ1:type_of% @Go.Proofs.Tryz.isAgg36:=@Go.Proofs.Tryz.isAgg36
theorem aZ2:type_of% @Go.Proofs.Tryz.isAgg4:=@Go.Proofs.Tryz.isAgg4
theorem bi9:type_of% @Go.Proofs.Tryz.sizeOf0:=@Go.Proofs.Tryz.sizeOf0
theorem aZ3:type_of% @Go.Proofs.Tryz.sizeOf3:=@Go.Proofs.Tryz.sizeOf3
theorem aZ4:type_of% @Go.Proofs.Tryz.sizeOf36:=@Go.Proofs.Tryz.sizeOf36
theorem aZ5:type_of% @Go.Proofs.Tryz.sizeOf4:=@Go.Proofs.Tryz.sizeOf4
theorem aZ6:type_of% @Go.Proofs.Tryz.underlying0:=@Go.Proofs.Tryz.underlying0
theorem aZ7:type_of% @Go.Proofs.Tryz.underlying132:=@Go.Proofs.Tryz.underlying132
theorem aZ8:type_of% @Go.Proofs.Tryz.underlying3:=@Go.Proofs.Tryz.underlying3
theorem aZ9:type_of% @Go.Proofs.Tryz.underlying32:=@Go.Proofs.Tryz.underlying32
theorem ba0:type_of% @Go.Proofs.Tryz.underlying36:=@Go.Proofs.Tryz.underlying36
theorem ba1:type_of% @Go.Proofs.Tryz.underlying4:=@Go.Proofs.Tryz.underlying4
theorem ba2:type_of% @Go.Proofs.Tryz.underlying5:=@Go.Proofs.Tryz.underlying5
theorem ba3:type_of% @Go.Proofs.Tryz.underlying9:=@Go.Proofs.Tryz.underlying9
theorem ba4:type_of% @Go.Proofs.Tryz.zeroValue0:=@Go.Proofs.Tryz.zeroValue0
theorem ba5:type_of% @Go.Proofs.Tryz.zeroValue3:=@Go.Proofs.Tryz.zeroValue3
theorem ba6:type_of% @Go.Proofs.Tryz.zeroValue36:=@Go.Proofs.Tryz.zeroValue36
theorem ba7:type_of% @Go.Proofs.Tryz.zeroValue4:=@Go.Proofs.Tryz.zeroValue4
theorem ba8:type_of% @Go.World.block_lt_of_cell?:=@Go.World.block_lt_of_cell?
theorem ba9:type_of% @Go.World.cell?_alloc_at:=@Go.World.cell?_alloc_at
theorem bb0:type_of% @Go.World.drewN_drewN:=@Go.World.drewN_drewN
theorem bb1:type_of% @Go.World.ownsRow.alloc:=@Go.World.ownsRow.alloc
theorem bb2:type_of% @Go.World.ownsRow_nil:=@Go.World.ownsRow_nil
theorem bb3:type_of% @Go.World.size_alloc:=@Go.World.size_alloc
theorem bb4:type_of% @and_true:=@and_true
theorem bb5:type_of% @Go.below_drewN:=@Go.below_drewN
theorem bb6:type_of% @beq_eq_false_iff_ne:=@beq_eq_false_iff_ne
theorem bb7:type_of% @beq_iff_eq:=@beq_iff_eq
theorem bb8:type_of% @Go.cell_of_row:=@Go.cell_of_row
theorem bb9:type_of% @congrArg:=@congrArg
theorem bc0:type_of% @decide_eq_false:=@decide_eq_false
theorem bc1:type_of% @decide_eq_false_iff_not:=@decide_eq_false_iff_not
theorem bc2:type_of% @decide_eq_true:=@decide_eq_true
theorem bc3:type_of% @decide_eq_true_eq:=@decide_eq_true_eq
theorem bc4:type_of% @Go.frozen_of_row:=@Go.frozen_of_row
theorem bc5:type_of% @getElem!_pos:=@getElem!_pos
theorem bc6:type_of% @Go.heap_alloc_new:=@Go.heap_alloc_new
theorem bc7:type_of% @Go.heap_setCell_same:=@Go.heap_setCell_same
theorem bc8:type_of% @if_false:=@if_false
theorem bc9:type_of% @if_neg:=@if_neg
theorem bd0:type_of% @if_pos:=@if_pos
theorem bd1:type_of% @if_true:=@if_true
theorem bd2:type_of% @Go.info_parts:=@Go.info_parts
theorem bd3:type_of% @Go.mem_ready:=@Go.mem_ready
theorem bd4:type_of% @not_false_eq_true:=@not_false_eq_true
theorem bd5:type_of% @not_or:=@not_or
theorem bd6:type_of% @of_decide_eq_true:=@of_decide_eq_true
theorem bd7:type_of% @or_false:=@or_false
theorem bd8:type_of% @Go.rounds_succ:=@Go.rounds_succ
theorem bd9:type_of% @Go.run_underlying:=@Go.run_underlying
theorem be0:type_of% @Go.strOfNums_data:=@Go.strOfNums_data
theorem be1:type_of% @Go.strOfNums_size:=@Go.strOfNums_size
theorem be2:type_of% @Go.wpAnyH_ready:=@Go.wpAnyH_ready
theorem be3:type_of% @Go.wp_loop_rounds:=@Go.wp_loop_rounds
theorem E{p:Prop}(h:p:=by omega):p:=h
theorem Ek{p:Prop}(h:p:=by kernel_rfl):p:=h
theorem Es{p:Prop}(h:p:=by simp):p:=h
theorem Ed{p:Prop}(h:p:=by decide):p:=h
instance:Coe Nat Addr:=⟨λb=>⟨b,0,none⟩⟩
instance:Coe Int Value:=⟨.int .i64⟩
instance:Coe Nat Value:=⟨λn=> .int .i64 n⟩
instance:Coe World Nat:=⟨λw=>w.heap.size⟩
instance {α:Type} [Coe α Value]:Coe α (Option Value):=⟨λx=>some x⟩
instance (a b:Nat):CoeDep (Nat×Nat) (a,b) Addr:=⟨⟨a,b,none⟩⟩
instance (a b:Nat):CoeDep (Nat×Nat) (a,b) (Option Addr):=⟨some ⟨a,b,none⟩⟩
instance (a:World) (b:Nat):CoeDep (World×Nat) (a,b) Addr:=⟨⟨a.heap.size,b,none⟩⟩
instance (a:World) (b:Nat):CoeDep (World×Nat) (a,b) (Option Addr):=⟨some ⟨a.heap.size,b,none⟩⟩
theorem Ei{a b:Prop}(h:a):a\/b:=Or.inl h
theorem Ej{a b:Prop}(h:b):a\/b:=Or.inr h
theorem θ{p:Prop}(h:p):RowKit.Hid p:=h
theorem Cq{P:Program}{f:FuncId}{a:Array Value}{w:World}{R:Ending->World->Prop}{v:Ending}(h:Calls P f a w λe w'=>e=v/\w=w')(k:R v w):Calls P f a w R:=h.mono λe w' ⟨h1,h2⟩=>h1▸h2▸k
theorem Er{α β:Type}{a:α}{b:β}:a=a/\b=b:=⟨rfl,rfl⟩
theorem Ey{α:Type}(x:α):∃y,x=y:=⟨_,rfl⟩
theorem Ez{α:Type}(x:α):∃y,y=x:=⟨_,rfl⟩
section
open Go.RowKit
theorem dO{a b:Bool}(h:a=b):Ending.returned (.bool a)=Ending.returned (.bool b):=by rw[h]
theorem bA{k:IntKind}{a b:Int}(h:a=b):Ending.returned (.int k a)=Ending.returned (.int k b):=by rw[h]
theorem cS{w:World}{base:Nat}{e:TypeId}{v:Value}{n:Nat}{xs:List Value}(h:w.ownsRow base e 1 v n xs)(hn:0<n):∃g cap,v= .slice (some ⟨g,0,none⟩) n cap/\base<=g/\g<w.heap.size/\n<=cap/\cap<=maxLen/\(∀j,j<n->w.cell? ⟨g,j,none⟩=xs[j]?)/\(∀j,w.frozen? ⟨g,j,none⟩=false):=by
 obtain⟨hl,hh⟩:=h;rcases hh with ⟨_,h0⟩ | ⟨g,cap,cur,hv,hb,hg,hc,hm,hs,ht⟩
 ·omega
 ·refine⟨g,cap,hv,hb,(aJ2.1 hg).1,hc,hm,λj hj=>?_,λj=>bc4 w g j cur e hg⟩;rw[bb8 w g j cur e (0,0) hg,<-ht,aO6,bd0 (by omega)];simp
theorem pK{w:World}{base:Nat}{e:TypeId}{v:Value}{n:Nat}{xs:List Value}(h:w.ownsRow base e 1 v n xs):xs.length=n:=by
 have :=h.1;omega
theorem rG{w w':World}{base B:Nat}{e:TypeId}{v:Value}{n:Nat}{xs:List Value}(h:w.ownsRow base e 1 v n xs)(hb:Below B w w')(hB:∀k,v.ownBlock=some k->k<B):w'.ownsRow base e 1 v n xs:=by
 refine⟨h.1,?_⟩;rcases h.2 with hn | ⟨g,cap,cur,rfl,hbg,hg,rest⟩
 ·exact .inl hn
 ·exact .inr ⟨g,cap,cur,rfl,hbg,by rw[hb.block g (hB g rfl)];exact hg,rest⟩
theorem gG{w:World}{base base':Nat}{e:TypeId}{v:Value}{n:Nat}{xs:List Value}(h:w.ownsRow base e 1 v n xs)(hb:base'<=base):w.ownsRow base' e 1 v n xs:=by
 refine⟨h.1,?_⟩;rcases h.2 with hn | ⟨g,cap,cur,rfl,hbg,rest⟩
 ·exact .inl hn
 ·exact .inr ⟨g,cap,cur,rfl,by omega,rest⟩
theorem fM{P:Program}{w:World}{ops:Array Oper}{rest:List Oper}{o:Oper}{a:Act}{Q:Exit->Act->World->Prop}{e':TypeId}{u:Value}(hgd:o.guard=none)(s x:Operand)(t:TypeId)(ho:o.op= .call {callee:= .builtin .append,args:=#[s,x],argTypes:=#[t,t]})(base:Nat)(e:TypeId){z:Value}{bytes:Nat}(hinfo:(P.info? e).map (λi=>(i.zero,i.size,i.bytes))=some (some z,1,bytes))(ht:P.underlying t=some (.slice e))(hz1:z.cells.size=1)(v:Value)(n:Nat)(xs:List Value)(hs:a.eval s=v)(hown:w.ownsRow base e 1 v n xs)(hx:a.eval x= .slice (some ⟨w.heap.size,0,none⟩) 1 1)(h1:u.oneCell'=true)(h63:n+1<=maxLen)(hbytes:(n+1)*bytes<=140737488355328)(hbase:base<=w.heap.size)(h:∀v' w',w'.ownsRow base e 1 v' (n+1) (xs++[u])->w.grownBy w' v.ownBlock->wpList P ops Q rest (a.put o.dst v') w'):wpList P ops Q (o::rest) a (w.alloc (.cells #[u] e')):=by
 obtain⟨i,hi,hz,hsz,hby⟩:=bd2 hinfo;refine wpList_append_own (w.alloc (.cells #[u] e')) hgd s x t ho base e i z 1 bytes ht hi hz hsz hby hz1 (by omega) v n xs hs (hown.alloc _) ⟨w.heap.size,0,none⟩ 1 1 [u] hx rfl ?_ ?_ h63 hbytes ?_ ?_
 ·intro j u' hj;match j,hj with
  | 0,hj=>simp at hj;subst hj;simp[Addr.add]
 ·intro u' hu;simp at hu;subst hu;exact h1
 ·simp;omega
 ·intro v' w' h1 h2 _;exact h v' w' h1 ⟨h2.os,h2.tape,h2.output,by have :=h2.size;simp at this;omega,λk hk hne=>by
   rw[h2.block k (by simp;omega) hne];exact aJ5 w _ k hk⟩
def Reads(w:World)(k:IntKind)(a:Option Addr)(xs:List Int):Prop:=
 ∀i,i<xs.length->∃b off,a=some ⟨b,off,none⟩/\b<w.heap.size/\∀j,j<xs.length->w.cell? ⟨b,off+j,none⟩=some (.int k (xs[j]?.getD 0))
theorem Reads.some {w:World}{k:IntKind}{a:Option Addr}{xs:List Int}(h:Reads w k a xs)(hn:0<xs.length):∃b off,a=some ⟨b,off,none⟩/\b<w.heap.size/\∀j,j<xs.length->w.cell? ⟨b,off+j,none⟩=some (.int k (xs[j]?.getD 0)):=h 0 hn
theorem Reads.below {w w':World}{k:IntKind}{a:Option Addr}{xs:List Int}(h:Reads w k a xs)(hb:Below w.heap.size w w'):Reads w' k a xs:=by
 intro i hi;obtain⟨b,off,ha,hlt,hc⟩:=h i hi;exact⟨b,off,ha,by have :=hb.size;omega,λj hj=>(hb.cell hlt).trans (hc j hj)⟩
theorem Reads.nil {w:World}{k:IntKind}{a:Option Addr}:Reads w k a []:=λi hi=>absurd hi (by simp)
theorem ad0{w:World}{k:IntKind}{b off:Nat}{x:Int}(h:w.cell? ⟨b,off,none⟩=some (.int k x)):Reads w k (some ⟨b,off,none⟩) [x]:=by
 intro i hi;refine⟨b,off,rfl,ba8 w _ h,λj hj=>?_⟩;obtain rfl:j=0:=by simpa using hj
 exact h
def oR(xs:List Int):Prop:=∀i,i<xs.length->0<=xs[i]?.getD 0/\xs[i]?.getD 0<256
structure ArgI (k:IntKind) (w:World) (a:Option Addr) (cap:Nat) (xs:List Int):Prop where
 reads:Reads w k a xs
 wf:∀i,i<xs.length->(Lit.int k (xs[i]?.getD 0)).wf=true
 le:xs.length<=cap
 max:cap<=maxLen
 nil:a=none->cap=0
theorem cB{w:World}{base:Nat}{e:TypeId}{k:IntKind}{a:Option Addr}{n c:Nat}{xs:List Int}(h:w.ownsRow base e 1 (.slice a n c) n (xs.map (Value.int k))):Reads w k a xs:=by
 have hl:=pK h;rw[aP7]at hl;intro i hi;obtain⟨g,cap,hv,hb,hg,hc,hm,hcell,_⟩:=cS h (by omega);injection hv with h1 h2 h3
 refine⟨g,0,h1,hg,λj hj=>?_⟩;rw[aY0,hcell j (by omega),aO3,aO0 hj];rfl
def nJ(N:Nat):Nat:=Nat.log2 N/7
theorem Db(N j:Nat):j<nJ N↔128^(j+1)<=N:=by
 have e:(128:Nat)^(j+1)=2^(7*(j+1)):=by rw[Nat.pow_mul]
 rw[e];unfold nJ;by_cases a:N=0
 ·subst a;have :=aX9 (7*(j+1));have b:Nat.log2 0=0:=Ed;rw[b];omega
 ·rw[<-Nat.le_log2 a];omega
theorem nJ_lt(N:Nat):N<128^(nJ N+1):=by
 have h:=Db N (nJ N);have :=aV5 (nJ N);rcases aV8 N (128^(nJ N+1))with a | a
 ·exact a
 ·exact absurd (h.2 a) this
theorem nJ_le{N:Nat}(h:0<nJ N):128^nJ N<=N:=by
 have :=(Db N (nJ N-1)).1 E;rwa[Nat.sub_add_cancel h]at this
theorem cD{N:Nat}(h:N<2^64):nJ N<=9:=by
 rcases aV8 9 (nJ N)with a | a
 ·have b:=(Db N 9).1 a;have c:(2:Nat)^64<=128^(9+1):=Ed;omega
 ·exact a
def fS(N k:Nat):Nat:=N/128^(nJ N-k)%128+if k<nJ N then 128 else 0
def aK(N:Nat):List Int:=(List.range (nJ N+1)).map λk=>(fS N k:Int)
theorem aQ(N:Nat):(aK N).length=nJ N+1:=by simp[aK]
theorem Az{N k:Nat}(h:k<=nJ N):(aK N)[k]? =some (fS N k:Int):=by
 unfold aK;rw[aO3,List.getElem?_range E];rfl
theorem Mc(N k:Nat):fS N k<256:=by
 unfold fS;have :=aW2 (N/128^(nJ N-k)) (show 0<128 by omega);split<;>omega
theorem Dk{N k:Nat}(h:k<nJ N):fS N k=N/128^(nJ N-k)%128+128:=by unfold fS;rw[bd0 h]
theorem Dj(N:Nat):fS N (nJ N)=N%128:=by unfold fS;simp
def pY(N k:Nat):Nat:=N/128^(nJ N+1-k)
theorem Zc(N:Nat):pY N 0=0:=Nat.div_eq_of_lt (nJ_lt N)
theorem al3(N:Nat):pY N (nJ N+1)=N:=by unfold pY;simp
theorem Zb{N k:Nat}(h:k<=nJ N):pY N (k+1)=pY N k*128+fS N k%128:=by
 unfold pY fS;have a:nJ N+1-(k+1)=nJ N-k:=E;have b:nJ N+1-k=(nJ N-k)+1:=E;rw[a,b,aW8,<-aU9];generalize N/128^(nJ N-k)=y;split<;>omega
theorem aB2{N k:Nat}(h:k<=nJ N):pY N k<=N/128:=by
 unfold pY;have a:nJ N+1-k=(nJ N-k)+1:=E;rw[a,aW8,Nat.mul_comm,<-aU9];exact Nat.div_le_self _ _
theorem Py(N:Nat):fS N 0≠128:=by
 unfold fS;by_cases h:0<nJ N
 ·rw[bd0 h,aX0];have b:=nJ_le h;have a:=nJ_lt N;rw[aW8]at a;have d:1<=N/128^nJ N:=(Nat.one_le_div_iff (Nat.pow_pos E)).2 b;have c:N/128^nJ N<128:=Nat.div_lt_of_lt_mul a;rw[aW1 c];omega
 ·rw[bc9 h,aX0];have :=aW2 (N/128^nJ N) (show 0<128 by omega);omega
def bW(n:Nat):List Int:=[((n%256:Nat):Int),((n/256%256:Nat):Int),((n/65536%256:Nat):Int),((n/16777216%256:Nat):Int)]
theorem eM(n:Nat):(bW n).length=4:=rfl
def dV(s:Nat):Nat:=if s%2=1 then (s/2)^^^3988292384 else s/2
def dW:Nat->Nat->Nat
 | 0,s=>s
 | k+1,s=>dW k (dV s)
theorem kN(k s:Nat):dW (k+1) s=dV (dW k s):=by
 induction k generalizing s with
 | zero=>rfl
 | succ k a=>rw[show dW (k+1+1) s=dW (k+1) (dV s)from rfl,a];rfl
theorem Rt{s:Nat}(h:s<2^32):dV s<2^32:=by
 unfold dV;split
 ·exact Nat.xor_lt_two_pow E Ed
 ·omega
theorem Ff(k:Nat){s:Nat}(h:s<2^32):dW k s<2^32:=by
 induction k with
 | zero=>exact h
 | succ k a=>rw[kN];exact Rt a
def Fg(s c:Nat):Nat:=dW 8 ((s%256)^^^c)^^^(s/256)
theorem aA8{s c:Nat}(b:s<2^32)(a:c<256):Fg s c<2^32:=by
 unfold Fg;refine Nat.xor_lt_two_pow (Ff 8 ?_) E;exact Nat.xor_lt_two_pow E E
def gM(l:List Int)(s:Nat):Nat:=l.foldl (λs c=>Fg s c.toNat) s
def cQ(l:List Int):Nat:=4294967295-gM l 4294967295
theorem Gs(l:List Int)(c:Int)(s:Nat):gM (l++[c]) s=Fg (gM l s) c.toNat:=by unfold gM;rw[List.foldl_append];rfl
theorem Rv{l:List Int}(a:∀c∈l,0<=c/\c<256){s:Nat}(b:s<2^32):gM l s<2^32:=by
 induction l generalizing s with
 | nil=>exact b
 | cons x l e=>
  have :=a x Es;exact e (λc d=>a c (by simp[d])) (aA8 b E)
theorem lZ(l:List Int):cQ l<2^32:=by unfold cQ;omega
structure Chg (S:Nat->Prop) (w w':World):Prop where
 os:w'.os=w.os
 tape:w'.tape=w.tape
 output:w'.output=w.output
 size:w<=w'.heap.size
 block:∀k,k<w.heap.size->¬S k->w'.heap[k]? =w.heap[k]?
section
variable {S S':Nat->Prop}{w w1 w2 w':World}
theorem Chg.refl:Chg S w w:=⟨rfl,rfl,rfl,aV3 _,λ_ _ _=>rfl⟩
theorem Chg.trans (h:Chg S w w1)(k:Chg S' w1 w2)(e:∀b,S' b->S b\/w.heap.size<=b):Chg S w w2:=
 ⟨k.os.trans h.os,k.tape.trans h.tape,k.output.trans h.output,aV4 h.size k.size,λb c d=>
  (k.block b (aV7 c h.size) (λa=>(e b a).elim d (λf=>E))).trans (h.block b c d)⟩
theorem Chg.mono (h:Chg S w w')(d:∀b,S b->S' b):Chg S' w w':=⟨h.os,h.tape,h.output,h.size,λb a c=>h.block b a (λx=>c (d b x))⟩
theorem Chg.drew (h:Chg S w w'):Chg S w w'.drew:=⟨h.os,h.tape,h.output,h.size,h.block⟩
theorem Chg.drewN (h:Chg S w w')(n:Nat):Chg S w (w'.drewN n):=⟨h.os,h.tape,h.output,h.size,h.block⟩
theorem Chg.alloc (h:Chg S w w')(o:Obj):Chg S w (w'.alloc o):=
 ⟨h.os,h.tape,h.output,by have :=h.size;simp;omega,λb a c=>by rw[aJ5 w' o b (by have :=h.size;omega)];exact h.block b a c⟩
theorem Chg.setCell (h:Chg S w w')(p:Addr)(d:S p.block\/w<=p.block)(u:Value):Chg S w (w'.setCell p u):=
 ⟨h.os,h.tape,h.output,by have :=h.size;simpa[World.setCell]using this,λb c a=>by
  rw[Below.heap_setCell w' p u b (λe=>by subst e;exact d.elim a (λf=>E))];exact h.block b c a⟩
theorem Chg.grown {c:Option Nat}(h:Chg S w w1)(a:w1.grownBy w' c)(g:∀k,c=some k->S k\/w.heap.size<=k):Chg S w w':=
 ⟨a.os.trans h.os,a.tape.trans h.tape,a.output.trans h.output,aV4 h.size a.size,λb d f=>
  (a.block b (aV7 d h.size) (λe=>(g b e.symm).elim f (λi=>E))).trans (h.block b d f)⟩
theorem Chg.below (h:Chg S w w'){B:Nat}(a:∀b,S b->B<=b)(c:B<=w):Below B w w':=
 ⟨h.os,h.tape,h.output,h.size,λb d=>h.block b E (λx=>by have :=a b x;omega)⟩
theorem Chg.of_below (h:Below w w w'):Chg S w w':=⟨h.os,h.tape,h.output,h.size,λb a _=>h.block b a⟩
theorem Chg.heap (h:Chg S w w'){b:Nat}{o:Obj}(a:w.heap[b]? =some o)(c:¬S b):w'.heap[b]? =some o:=
 (h.block b (aJ2.1 a).1 c).trans a
theorem Chg.cell (h:Chg S w w'){p:Addr}{v:Value}(a:w.cell? p=some v)(b:¬S p.block):w'.cell? p=some v:=
 (World.cell?_of_block (h.block p.block (ba8 w p a) b)).trans a
theorem Chg.own (h:Chg S w w'){a:Nat}{e:TypeId}{j:Nat}{v:Value}{n:Nat}{l:List Value}(i:w.ownsRow a e j v n l)(o:∀k,v.ownBlock=some k->¬S k):w'.ownsRow a e j v n l:=by
 refine⟨i.1,?_⟩;rcases i.2 with p | ⟨g,c,d,rfl,f,m,b⟩
 ·exact .inl p
 ·exact .inr ⟨g,c,d,rfl,f,h.heap m (o g rfl),b⟩
theorem Chg.reads (h:Chg S w w'){k:IntKind}{a:Option Addr}{e:List Int}(o:Reads w k a e)(n:∀d,a=some d->¬S d.block):Reads w' k a e:=by
 intro i g;obtain⟨b,c,rfl,m,f⟩:=o i g;exact⟨b,c,rfl,by have :=h.size;omega,λj l=>h.cell (f j l) (n (b,c) rfl)⟩
end
theorem aD{w:World}{b:Nat}{e:TypeId}{m:Nat}{v:Value}{n:Nat}{o:List Value}(h:w.ownsRow b e m v n o):∃a c,v= .slice a n c/\(a=none->n=0/\c=0)/\(∀d,a=some d->∃g,d=⟨g,0,none⟩/\b<=g/\g<w.heap.size/\v.ownBlock=some g):=by
 rcases h.2 with ⟨rfl,rfl⟩ | ⟨g,f,k,rfl,i,l,j⟩
 ·exact⟨none,0,rfl,(λ_=>⟨rfl,rfl⟩),λd h=>by cases h⟩
 ·exact⟨some (g,0),f,rfl,(λh=>by cases h),λd h=>by cases h;exact⟨g,rfl,i,(aJ2.1 l).1,rfl⟩⟩
theorem cH{w:World}{a:Nat}{e:TypeId}{c:Nat}{v:Value}{n:Nat}{d:List Value}(h:w.ownsRow a e c v n d){k:Nat}(b:v.ownBlock=some k):a<=k/\k<w:=h.lt k b
theorem yT{w:World}{a:Nat}{e:TypeId}{g b n:Nat}{i:List Value}(h:w.ownsRow a e 1 (.slice g n b) n i)(j:Nat)(u:Value):(w.setCell (g,j) u).ownsRow a e 1 (.slice g n b) n (i.set j u):=by
 obtain⟨l,m⟩:=h;refine⟨by simpa using l,?_⟩;rcases m with ⟨h,_⟩ | ⟨y,d,c,v,o,q,p,r,s,t⟩
 ·cases h
 ·injection v with f x k
  simp only[aY7,Addr.mk.injEq,bb4]at f;subst f;subst k;refine .inr ⟨g,b,c.setIfInBounds j u,rfl,o,heap_setCell_same w g j c e u q,p,r,by simpa using s,?_⟩;rw[aJ4,<-t,List.take_set]
theorem aq6{w:World}{a:Nat}{e:TypeId}{g b n m:Nat}{j:List Value}(h:w.ownsRow a e 1 (.slice g n b) n j)(y:m<=n):w.ownsRow a e 1 (.slice g m b) m (j.take m):=by
 obtain⟨v,l⟩:=h;refine⟨by rw[aQ1];omega,?_⟩;rcases l with ⟨h,_⟩ | ⟨u,f,c,s,o,p,x,d,q,r⟩
 ·cases h
 ·injection s with i t k
  simp only[aY7,Addr.mk.injEq,bb4]at i;subst i;subst k;refine .inr ⟨g,b,c,rfl,o,p,E,d,q,?_⟩;rw[<-r,aU1];congr 1;omega
theorem qV{P:Program}{w:World}{y:Array Oper}{l:List Oper}{o:Oper}{a:Act}{Q:Exit->Act->World->Prop}{L:TypeId}{u:Value}(G:o.guard=none)(s x:Operand)(t:TypeId)(T:o.op= .call {callee:= .builtin .append,args:=#[s,x],argTypes:=#[t,t]})(c:Nat)(e:TypeId){z:Value}{b:Nat}(m:(P.info? e).map (λi=>(i.zero,i.size,i.bytes))=some (some z,1,b))(V:P.underlying t=some (.slice e))(J:z.cells.size=1)(v:Value)(n:Nat)(K:List Value)(U:a.eval s=v)(r:w.ownsRow c e 1 v n K)(W:a.eval x= .slice w 1 1)(B:u.oneCell'=true)(C:n+1<=maxLen)(f:(n+1)*b<=140737488355328)(D:c<=w)(h:∀g d p,p.ownsRow c e 1 (.slice (some ⟨g,0,none⟩) (n+1) d) (n+1) (K++[u])->w.grownBy p v.ownBlock->(v.ownBlock=some g\/w.heap.size<=g)->g<p.heap.size->wpList P y Q l (a.put o.dst (.slice g (n+1) d)) p):wpList P y Q (o::l) a (w.alloc (.cells #[u] L)):=by
 obtain⟨i,R,X,I,F⟩:=bd2 m;refine wpList_append_lies (w.alloc (.cells #[u] L)) G s x t T c e i z 1 b V R X I F J E v n K U (r.alloc _) (w,0) 1 1 [u] W rfl ?_ ?_ E C f ?_ _ rfl ?_
 ·intro j Y A;match j,A with
  | 0,A=>simp at A;subst A;simp[Addr.add]
 ·intro Y M;simp at M;subst M;exact B
 ·simp;omega
 ·intro g d p B q N O;exact h g d p B ⟨q.os,q.tape,q.output,by have :=q.size;simp at this;omega,λk S H=>by
   rw[q.block k (by simp;omega) H];exact aJ5 w _ k S⟩ (N.imp id (λh=>by simp at h;omega)) O
theorem dT{P:Program}{w:World}{H:Array Oper}{A:List Oper}{o:Oper}{a:Act}{Q:Exit->Act->World->Prop}(D:o.guard=none)(s x:Operand)(t:TypeId)(Y:o.op= .call {callee:= .builtin .append,args:=#[s,x],argTypes:=#[t,t]})(b:Nat)(e:TypeId){z:Value}{f:Nat}(F:(P.info? e).map (λi=>(i.zero,i.size,i.bytes))=some (some z,1,f))(ht:P.underlying t=some (.slice e))(T:z.cells.size=1)(v:Value)(n:Nat)(J:List Value)(Z:a.eval s=v)(l:w.ownsRow b e 1 v n J)(M:Option Addr)(m c:Nat)(d:List Value)(hx:a.eval x= .slice M m c)(hl:d.length=m)(B:M=none->m=0/\c=0)(G:∀p,M=some p->∀j u,d[j]? =some u->w.cell? (p.add j)=some u)(h1:∀u∈d,u.oneCell'=true)(N:n+m<=maxLen)(k:(n+m)*f<=140737488355328)(r:b<=w)(h:∀L V q,q.ownsRow b e 1 (.slice L (n+m) V) (n+m) (J++d)->w.grownBy q v.ownBlock->(∀g,L=some ⟨g,0,none⟩->v.ownBlock=some g\/w.heap.size<=g)->wpList P H Q A (a.put o.dst (.slice L (n+m) V)) q):wpList P H Q (o::A) a w:=by
 obtain⟨i,X,hz,S,O⟩:=bd2 F;by_cases hm:m=0
 ·subst hm;have hn:d=[]:=aM7 hl;subst hn;have U:∀I q,q.ownsRow b e 1 I (n+0) (J++[])->w.grownBy q v.ownBlock->(I.ownBlock=v.ownBlock\/I.ownBlock=some w.heap.size)->wpList P H Q A (a.put o.dst I) q:=by
   intro I q R C y;obtain⟨L,V,rfl,_,hb⟩:=aD R;refine h L V q R C (λg hg=>?_);subst hg;obtain⟨g',e1,_,_,W⟩:=hb _ rfl;cases e1;rcases y with y | y
   ·left;rw[<-y];exact W
   ·right;rw[y]at W;injection W with W;omega
  cases M with
  | none=>
   obtain⟨_,rfl⟩:=B rfl;exact wpList_append_own_none D s x t Y b e i 1 ht X v n J Z l hx (U v w (by simpa using l) (World.grownBy.refl _ _) (Ei rfl))
  | some p=>
   refine wpList_plain D λK hK=>?_;obtain⟨I,q,hr,h2,h3,_,h5⟩:=run_append_own_at (P:=P) w b t o.type e i z 1 f ht X hz S O T E v n J l p 0 c [] Es Es Es N k r;unfold Oper.wp execOp;simp only[Y,resolve,invoke,builtin,Sem.run_bind,Sem.run_pure,aY9,aQ9,aQ4,aQ7,Z,hx,hr];exact hK _ _ (U I q h2 h3 h5)
 ·cases M with
  | none=>exact absurd (B rfl).1 hm
  | some p=>
   refine wpList_append_lies w D s x t Y b e i z 1 f ht X hz S O T E v n J Z l p m c d hx E (G p rfl) h1 E N k r _ rfl ?_;intro g a0 q a1 a2 a3 a4;exact h _ _ q a1 a2 (λg' C=>by cases C;exact a3.imp id (λh=>E))
def ReadsV(w:World)(a:Option Addr)(xs:List Value):Prop:=
 ∀i,i<xs.length->∃b off,a=some ⟨b,off,none⟩/\b<w.heap.size/\∀j u,xs[j]? =some u->w.cell? ⟨b,off+j,none⟩=some u
section
variable {w w':World}{a:Option Addr}{xs:List Value}
theorem ReadsV.nil:ReadsV w a []:=λi b=>absurd b Es
theorem ReadsV.some (h:ReadsV w a xs)(d:0<xs.length):∃b c,a=some ⟨b,c,none⟩/\b<w.heap.size/\∀j u,xs[j]? =some u->w.cell? ⟨b,c+j,none⟩=some u:=h 0 d
theorem ReadsV.below {B:Nat}(h:ReadsV w a xs)(e:Below B w w')(f:∀d,a=Option.some d->d.block<B):ReadsV w' a xs:=by
 intro i k;obtain⟨b,c,rfl,m,g⟩:=h i k;exact⟨b,c,rfl,by have :=e.size;omega,λj u l=>(e.cell (p:=(b,c+j)) (f (b,c) rfl)).trans (g j u l)⟩
theorem ReadsV.below' (h:ReadsV w a xs)(e:Below w w w'):ReadsV w' a xs:=by
 intro i g;obtain⟨b,c,rfl,d,f⟩:=h i g;exact⟨b,c,rfl,by have :=e.size;omega,λj u k=>(e.cell (p:=(b,c+j)) d).trans (f j u k)⟩
theorem ReadsV.chg {S:Nat->Prop}(h:ReadsV w a xs)(e:Chg S w w')(m:∀d,a=Option.some d->¬S d.block):ReadsV w' a xs:=by
 intro i f;obtain⟨b,c,rfl,l,k⟩:=h i f;exact⟨b,c,rfl,by have :=e.size;omega,λj u g=>e.cell (k j u g) (m (b,c) rfl)⟩
theorem ReadsV.take (h:ReadsV w a xs)(k:Nat):ReadsV w a (xs.take k):=by
 intro i l;rw[aQ1]at l;obtain⟨b,e,f,d,g⟩:=h i E;exact⟨b,e,f,d,λj u c=>g j u (by
  rw[aO6]at c
  split at c
  ·exact c
  ·cases c)⟩
def gF(a:Option Addr)(k cap:Nat):Option Addr:=if cap=k then a else a.map (·.add k)
theorem ReadsV.drop (h:ReadsV w a xs){k cap:Nat}(m:xs.length<=cap):ReadsV w (gF a k cap) (xs.drop k):=by
 intro i g;rw[aP5]at g;obtain⟨b,e,rfl,c,l⟩:=h i E;have d:¬cap=k:=E;refine⟨b,e+k,by simp[gF,d,aI7],c,λj u f=>?_⟩;rw[aN9]at f;have :=l (k+j) u f;rwa[aU3]
theorem ap7{a:Option Addr}{k b c:Nat}(h:a=none->c=0/\b=0):gF a k b=none->c-k=0/\b-k=0:=by
 intro d;cases a with
 | none=>obtain⟨rfl,rfl⟩:=h rfl;simp
 | some e=>
  unfold gF at d;split at d
  ·cases d
  ·cases d
theorem ReadsV.hnews (h:ReadsV w a xs):∀p,a=Option.some p->∀j u,xs[j]? =Option.some u->w.cell? (p.add j)=Option.some u:=by
 intro p g j u e;have d:j<xs.length:=(aO2.1 e).1;obtain⟨b,i,c,_,f⟩:=h j d;rw[g]at c;cases c;rw[aI7];exact f j u e
theorem dM{d:Nat}{e:TypeId}{n c:Nat}{a:Option Addr}(h:w.ownsRow d e 1 (.slice a n c) n xs):ReadsV w a xs:=by
 have v:=pK h;intro i t;obtain⟨g,k,o,r,m,s,x,b,_⟩:=cS h E;injection o with l p q
 exact⟨g,0,l,m,λj u f=>by rw[aY0,b j (by have :=(aO2.1 f).1;omega),f]⟩
theorem fP{b:Nat}{T:TypeId}(h:w.heap[b]? =some (.cells xs.toArray T (0,0))):ReadsV w (some (b,0)) xs:=by
 intro i d;refine⟨b,0,rfl,(aJ2.1 h).1,λj u c=>?_⟩;rw[bb8 w b (0+j) _ _ _ h,aY0,aO7,c]
theorem aq7{g:Nat}{b:Nat}{e:TypeId}(c:b<=g)(h:w.heap[g]? =some (.cells #[] e (0,0))):w.ownsRow b e 1 (.slice g 0 0) 0 []:=
 ⟨rfl, .inr ⟨g,0,#[],rfl,c,h,Nat.le_refl _,by unfold maxLen;omega,rfl,rfl⟩⟩
end
section
variable {P:Program}{w:World}
theorem jR{t e:TypeId}{a:Option Addr}{len cap k:Nat}(g:P.underlying t=some (.slice e))(b:(P.info? e).map (λi=>i.size)=some 1)(j:k<=cap):(Instr.slice t (.slice a len cap) none (some (.int .i64 (k:Int))) none).run P w= .ok (.slice a k cap) w:=by
 obtain⟨i,d,f⟩:=aY4.1 b;have c:(k:Int)<=(cap:Int):=E;simp[Instr.slice,bd9 g,Instr.sliceBounds,Instr.sliceBound,asIntOf,c,sizeOf,typeInfo,d,f,go_sem];intro h;omega
theorem oL{t e:TypeId}{a:Option Addr}{len cap k:Nat}(g:P.underlying t=some (.slice e))(b:(P.info? e).map (λi=>i.size)=some 1)(j:k<=len):(Instr.slice t (.slice a len cap) (some (.int .i64 (k:Int))) none none).run P w= .ok (.slice (gF a k cap) (len-k) (cap-k)) w:=by
 obtain⟨i,d,f⟩:=aY4.1 b;have c:(k:Int)<=(len:Int):=E;simp[Instr.slice,bd9 g,Instr.sliceBounds,Instr.sliceBound,asIntOf,c,sizeOf,typeInfo,d,f,go_sem,gF];intro h;omega
end
theorem oneB(l:List Bool):∀u∈l.map Value.bool,u.oneCell'=true:=λu c=>by obtain⟨b,_,rfl⟩:=aR4.1 c;rfl
theorem tR(k:IntKind)(l:List Int):∀u∈l.map (Value.int k),u.oneCell'=true:=λu c=>by obtain⟨b,_,rfl⟩:=aR4.1 c;rfl
theorem Fa{P:Program}{w:World}{o:Oper}{a:Act}{K:Act->World->Prop}{Q:Exit->Act->World->Prop}(s x:Operand)(t:TypeId)(U:o.op= .call {callee:= .builtin .append,args:=#[s,x],argTypes:=#[t,t]})(d:Nat)(e:TypeId){z:Value}{f:Nat}(y:(P.info? e).map (λi=>(i.zero,i.size,i.bytes))=some (some z,1,f))(W:P.underlying t=some (.slice e))(R:z.cells.size=1)(v:Value)(n:Nat)(xs:List Value)(V:a.eval s=v)(k:w.ownsRow d e 1 v n xs)(H:Option Addr)(m c:Nat)(b:List Value)(X:a.eval x= .slice H m c)(hl:b.length=m)(F:H=none->m=0/\c=0)(A:∀p,H=some p->∀j u,b[j]? =some u->w.cell? (p.add j)=some u)(Z:∀u∈b,u.oneCell'=true)(J:n+m<=maxLen)(l:(n+m)*f<=140737488355328)(r:d<=w)(h:∀q C w',w'.ownsRow d e 1 (.slice q (n+m) C) (n+m) (xs++b)->w.grownBy w' v.ownBlock->(∀g,q=some ⟨g,0,none⟩->v.ownBlock=some g\/w.heap.size<=g)->K (a.put o.dst (.slice q (n+m) C)) w'):Oper.wp P o a w K Q:=by
 obtain⟨i,T,hz,O,M⟩:=bd2 y;cases H with
 | none=>
  obtain⟨rfl,rfl⟩:=F rfl;have hn:b=[]:=aM7 hl;subst hn;obtain⟨q,C,hv,_,L⟩:=aD k;have G:=run_append_owned_none (P:=P) (w:=w) d t o.type e i 1 W T v n xs k;unfold Oper.wp execOp;simp only[U,resolve,invoke,builtin,Sem.run_bind,Sem.run_pure,aY9,aQ9,aQ4,aQ7,V,X,G];subst hv;exact h q C w (by simpa using k) (World.grownBy.refl _ _) (λg N=>by
   subst N
   obtain⟨Y,I,_,_,D⟩:=L _ rfl
   cases I;exact Ei D)
 | some p=>
  obtain⟨v',w',hr,S,h3,_,h5⟩:=run_append_own_at (P:=P) w d t o.type e i z 1 f W T hz O M R E v n xs k p m c b E (A p rfl) Z J l r;unfold Oper.wp execOp;simp only[U,resolve,invoke,builtin,Sem.run_bind,Sem.run_pure,aY9,aQ9,aQ4,aQ7,V,X,hr];obtain⟨q,C,rfl,_,L⟩:=aD S;refine h q C w' S h3 (λg N=>?_);subst N;obtain⟨Y,I,_,_,D⟩:=L _ rfl;cases I;rcases h5 with B | B
  ·left;rw[<-B];exact D
  ·right;rw[B]at D;injection D with D;omega
def GivesB(B:Nat)(w:World)(l:List Bool)(e:Ending)(w':World):Prop:=∃v,e= .returned v/\w'.ownsRow B 4 1 v l.length (l.map Value.bool)/\Below B w w'
theorem Tryz.infoBoolR:(prog.info? 4).map (λi=>(i.zero,i.size,i.bytes))=some (some (.bool false),1,1):=by kernel_rfl
theorem as2{w:World}{k:IntKind}{a:Option Addr}{f:List Int}(h:Reads w k a f):ReadsV w a (f.map (Value.int k)):=by
 intro i g;rw[aP7]at g;obtain⟨b,d,e,m,l⟩:=h i g;refine⟨b,d,e,m,λj u c=>?_⟩;rw[aO3]at c;cases hx:f[j]? with
 | none=>rw[hx]at c;cases c
 | some x=>
  rw[hx]at c;cases c;have :=l j (aO2.1 hx).1;rw[hx]at this;exact this
def pR(B:Nat)(w:World)(m:List Int)(e:Ending)(w':World):Prop:=∃v,e= .returned v/\w'.ownsRow B 5 1 v m.length (m.map (Value.int .u8))/\Below B w w'
theorem Tryz.infoU8N:(prog.info? 5).map (λi=>(i.zero,i.size,i.bytes))=some (some (.int .u8 0),1,1):=Ek
def xG(l:List Nat):List Int:=l.map Int.ofNat
theorem Lm(l:List Nat):(xG l).length=l.length:=by simp[xG]
def cK(l:List Nat):List Int:=l.flatMap aK
theorem ac5{l:List Nat}{k n:Nat}(h:l[k]? =some n):cK (l.take (k+1))=cK (l.take k)++aK n:=by
 unfold cK;rw[aT5,h,aN2];simp
theorem yV{l:List Nat}(h:∀n∈l,n<2^64):(cK l).length<=l.length*10:=by
 induction l with
 | nil=>simp[cK]
 | cons x l d=>
  have e:=cD (h x Es);have a:=d (λn c=>h n (by simp[c]));have b:=aQ x;unfold cK at a⊢;rw[aN3,aP3,b,aP4];omega
def eV(n k:Nat):List Int:=(List.range k).map λk=>(fS n k:Int)
theorem Ul(n k:Nat):eV n (k+1)=eV n k++[(fS n k:Int)]:=by unfold eV;rw[aS9];simp
theorem Hm(n k:Nat):(eV n k).length=k:=by simp[eV]
theorem aD4(x:Nat):(x%256)|||128=x%128+128:=by
 have b:x%256%128=x%128:=E;have a:∀y,y<256->y|||128=y%128+128:=by
  set_option maxRecDepth 100000 in decide
 have :=a (x%256) (aW2 _ E);rw[this,b]
theorem az8(x:Nat):(x%256)&&&127=x%128:=by
 have a:x%256%128=x%128:=E;have :=aU8 (x%256) 7;rw[<-a];exact this
theorem Te(n a:Nat):(n:Int)/2^a=((n/2^a:Nat):Int):=Es
theorem Ll(n j:Nat):128<=n/2^(7*j)↔j<nJ n:=by
 have e:(2:Nat)^(7*j)=128^j:=by rw[Nat.pow_mul]
 rw[Db,Nat.le_div_iff_mul_le (aX9 _),e,aW8,Nat.mul_comm]
theorem aa8(x:Nat):bits .or .u8 ((x:Int)%256) 128=((x%128+128:Nat):Int):=by
 have h:=aD4 x;have a:((x:Int)%256%2^8).toNat=x%256:=E;have b:((128:Int)%2^8).toNat=128:=Ed;show IntKind.u8.wrap (((((x:Int)%256)%2^8).toNat|||((128:Int)%2^8).toNat:Nat):Int)=_;rw[a,b,h];rw[IntKind.wrap_u8];omega
theorem Rj(x:Nat):bits .and .u8 ((x:Int)%256) 127=((x%128:Nat):Int):=by
 have h:=az8 x;have a:((x:Int)%256%2^8).toNat=x%256:=E;have b:((127:Int)%2^8).toNat=127:=Ed;show IntKind.u8.wrap (((((x:Int)%256)%2^8).toNat&&&((127:Int)%2^8).toNat:Nat):Int)=_;rw[a,b,h];rw[IntKind.wrap_u8];omega
theorem Md{w:World}{a:Nat}{v:Value}{l:List Int}{n j x y:Nat}(g:j<=nJ n)(f:(if 0<j then x%128+128 else x%128)=y)(d:n/2^(7*j)=x)(h:w.ownsRow a 5 1 v ((l++eV n (nJ n-j)).length+1) ((l++eV n (nJ n-j)).map (Value.int .u8)++[.int .u8 (y:Int)])):w.ownsRow a 5 1 v (l++eV n (nJ n-j+1)).length ((l++eV n (nJ n-j+1)).map (Value.int .u8)):=by
 have e:fS n (nJ n-j)=y:=by
  have c:(2:Nat)^(7*j)=128^j:=by rw[Nat.pow_mul]
  rw[<-f,<-d,c];unfold fS;rw[show nJ n-(nJ n-j)=j by omega];by_cases b:0<j
  ·rw[bd0 b,bd0 E]
  ·rw[bc9 b,bc9 E,aU7]
 rw[Ul,e,<-aL1,aQ2,aP3];exact h
theorem Uo(Z:Option Addr)(pc:Nat)(l:List Nat)(w:World)(Y:Reads w .u64 Z (xG l))(X:∀n∈l,n<2^64)(hk:l.length<=10000):Calls prog 67 #[.slice Z l.length pc] w (pR w w (cK l)):=by
 have HP:=θ Y;have T:=θ X;clear Y X;go_in;go_wp2;go_loopw [3,9] (λv i G=>∃k:Nat,k<=l.length/\i= .int .i64 k/\G.ownsRow w 5 1 v (cK (l.take k)).length ((cK (l.take k)).map (Value.int .u8))/\Below w w G) (λ_ i _=>l.length-(intOf i).toNat);exact⟨0,aY1 _,rfl,bb2 _ _ _ _,aJ6 _ _⟩;as_aux_lemma=>
  obtain⟨k,a0,rfl,d,y⟩:=hrel;have H:=θ y;have r:=θ d;have q:=y.size;by_cases S:k<l.length
  ·obtain⟨n,N⟩:∃n,l[k]? =some n:=⟨_,aO0 S⟩;obtain⟨b,L,rfl,R,h⟩:=HP.o.some (by rw[Lm];omega);have hc:wr.cell? (b,L+k)=some (.int .u64 (n:Int)):=by
    have :=h k (by rw[Lm];omega);rw[show (xG l)[k]? =some (n:Int) by unfold xG;rw[aO3,N];rfl]at this;exact(y.cell (p:=(b,L+k)) R).trans this
   have J:=T.o n (aR5 N);have h9:=cD J;have Q:=θ (ac5 N);have a2:(cK (l.take k)).length<=100000:=by
    have :=yV (l:=l.take k) (λx z=>T.o x (aR7 z));rw[aQ1]at this;omega
   have a1:(0:Int)<=(k:Int):=E;have W:(k:Int)<(l.length:Int):=E;clear d y h N;go_wp2;go_loopw [6] (λv G=>∃j:Nat,j<=nJ n/\v= .int .i64 (7*j:Nat)/\G=wr) (λv _=>nJ n*7-(intOf v).toNat);exact⟨0,aY1 _,rfl,rfl⟩;as_aux_lemma=>
    obtain⟨j,I,rfl,rfl⟩:=hrel;have f:=Ll n j;have m:=Te n (7*j);obtain⟨x,z⟩:=Ey (n/2^(7*j));rw[z]at f m;obtain⟨M,g⟩:=Ey (7*j);rw[g]at m⊢;have K:M<=63:=E;by_cases B:j<nJ n
    ·have U:decide ((128:Int)<=(x:Int))=true:=bc2 (by have :=f.2 B;omega);have V:decide (128<=x)=true:=bc2 (f.2 B);clear f z;go_wp2;go_roundw;exact⟨j+1,E,by go_num,trivial⟩;simp[intOf];omega
    ·obtain rfl:j=nJ n:=E;have U:decide ((128:Int)<=(x:Int))=false:=bc0 (by have :=f.1;omega);have V:decide (128<=x)=false:=bc0 (by have :=f.1;omega);clear f z;have u:Hid (wr.ownsRow w 5 1 u3 (cK (l.take k)++eV n 0).length ((cK (l.take k)++eV n 0).map (Value.int .u8))):=θ (by rw[show eV n 0=[]from rfl,aL2];exact r.o);have A:=θ g;clear g;go_wp2;go_loopw [3,6] (λv s G=>∃j:Nat,j<=nJ n/\s= .int .i64 (7*j:Nat)/\G.ownsRow w 5 1 v (cK (l.take k)++eV n (nJ n-j)).length ((cK (l.take k)++eV n (nJ n-j)).map (Value.int .u8))/\Below w w G) (λ_ s _=>(intOf s).toNat);exact⟨nJ n,aV3 _,by rw[A.o],by rw[aW9];exact u.o,H.o⟩;as_aux_lemma=>
      clear r u H;obtain⟨j,I,rfl,d,y⟩:=hrel;have H:=θ y;have r:=θ d;have q:=y.size;clear m U V K A;by_cases h0:0<j
      ·have m:=Te n (7*j);obtain⟨x,z⟩:=Ey (n/2^(7*j));rw[z]at m;obtain⟨M,g⟩:=Ey (7*j);rw[g]at m⊢;have K:M<=63:=E;have a3:7<=M:=E;have F:(cK (l.take k)++eV n (nJ n-j)).length<=200000:=by rw[aP3,Hm];omega
       have HX:=θ z;have P:=θ g;obtain⟨Ls,e⟩:=Ey (cK (l.take k)++eV n (nJ n-j));rw[e]at r F;have D:=θ e;clear d y z g e;go_wp2_with (at_builtin;refine fM rfl _ _ 32 rfl w 5 Tryz.infoU8N aZ9 rfl _ _ _ rfl r.o rfl rfl ?d1 ?d2 ?d3 ?_);case d1=>unfold maxLen;omega
       case d2=>omega
       case d3=>exact q
       intro v' O a c;have C:Hid (Below w w O):=θ (H.o.grown c q (λj I=>(r.o.lt j I).1));rw[aa8,<-D.o]at a;have t:=θ (Md I (bd0 h0) HX.o a);clear a c;go_wp2;go_roundw;exact⟨j-1,E,by have hq:=P.o;rw[show ((7*(j-1):Nat):Int)=(M:Int)-7 by omega],by rw[show nJ n-(j-1)=nJ n-j+1 by omega];exact t.o,C.o⟩;simp[intOf];omega
      ·obtain rfl:j=0:=E;have F:(cK (l.take k)++eV n (nJ n)).length<=200000:=by rw[aP3,Hm];omega
       have t:Hid (wr.ownsRow w 5 1 u3 (cK (l.take k)++eV n (nJ n)).length ((cK (l.take k)++eV n (nJ n)).map (Value.int .u8))):=r;obtain⟨Ls,e⟩:=Ey (cK (l.take k)++eV n (nJ n));rw[e]at t F;have D:=θ e;clear d y e;rw[show ((7*0:Nat):Int)=0 from rfl];go_wp2_with (at_builtin;refine fM rfl _ _ 32 rfl w 5 Tryz.infoU8N aZ9 rfl _ _ _ rfl t.o rfl rfl ?e1 ?e2 ?e3 ?_);case e1=>unfold maxLen;omega
       case e2=>omega
       case e3=>exact q
       intro v' O a c;have C:Hid (Below w w O):=θ (H.o.grown c q (λj I=>(r.o.lt j I).1));rw[Rj,<-D.o]at a;have u:Hid (O.ownsRow w 5 1 v' (cK (l.take (k+1))).length ((cK (l.take (k+1))).map (Value.int .u8))):=θ (by
        rw[Q.o]
        exact Md (j:=0) (aY1 _) (bc9 E) Es a)
       clear a c;go_wp2;go_roundw;exact⟨k+1,E,by first | rfl | go_num,u.o,C.o⟩;simp[intOf];omega
  ·obtain rfl:k=l.length:=E;rw[aT8]at r;clear d;go_wp2;go_ret;exact⟨_,rfl,r.o,H.o⟩
def lS(R:List (Int×Nat))(s:Int):List (Int×Nat):=
 match R.getLast? with
 | some r=>if r.1=s then R.dropLast++[(r.1,r.2+1)]else R++[(s,1)]
 | none=>[(s,1)]
def aU(l:List Int):List (Int×Nat):=l.foldl lS []
def eI(R:List (Int×Nat)):List Int:=R.flatMap λr=>List.replicate r.2 r.1
theorem sC(R:List (Int×Nat))(x:Int)(n:Nat):lS (R++[(x,n)]) x=R++[(x,n+1)]:=by simp[lS]
theorem qK(R:List (Int×Nat)){x s:Int}(n:Nat)(h:x≠s):lS (R++[(x,n)]) s=R++[(x,n)]++[(s,1)]:=by simp[lS,h]
theorem tZ(s:Int):lS [] s=[(s,1)]:=rfl
theorem zP{l:List Int}{k:Nat}{s:Int}(h:l[k]? =some s):aU (l.take (k+1))=lS (aU (l.take k)) s:=by
 unfold aU;rw[aT5,h,List.foldl_append];rfl
theorem oH(Q R:List (Int×Nat)):eI (Q++R)=eI Q++eI R:=by unfold eI;simp
theorem Iq(x:Int)(n:Nat):eI [(x,n)]=List.replicate n x:=by unfold eI;simp
structure RunInv (l:List Int) (R:List (Int×Nat)):Prop where
 un:eI R=l
 pos:∀r∈R,1<=r.2
 ne:∀(i:Nat) (r s:Int×Nat),R[i]? =some r->R[i+1]? =some s->r.1≠s.1
theorem Nm{f:Type}{Q:List f}{q r s:f}{i:Nat}(c:(Q++[q])[i]? =some r)(a:(Q++[q])[i+1]? =some s):Q[i]? =some r/\(Q[i+1]? =some s\/(i+1=Q.length/\s=q)):=by
 have d:=(aO2.1 a).1;rw[aP3]at d;simp at d;rw[aN6 E]at c;refine⟨c,?_⟩;by_cases e:i+1<Q.length
 ·rw[aN6 e]at a;exact Ei a
 ·have b:i+1=Q.length:=E;rw[b,aN7 (aV3 _)]at a;simp at a;exact Ej ⟨b,a.symm⟩
theorem RunInv.add {l:List Int}{R:List (Int×Nat)}(h:RunInv l R)(s:Int):RunInv (l++[s]) (lS R s):=by
 rcases List.eq_nil_or_concat R with rfl | ⟨Q,⟨x,n⟩,rfl⟩
 ·rw[tZ];have e:l=[]:=by rw[<-h.un];rfl
  subst e;refine⟨rfl,λr d=>?_,λi r s f c=>?_⟩
  ·rw[aR9.1 d];exact aV3 _
  ·simp at c
 ·rw[List.concat_eq_append]at h⊢;by_cases e:x=s
  ·subst e;rw[sC];refine⟨?_,λr d=>?_,λi r s f c=>?_⟩
   ·rw[<-h.un,oH,oH,Iq,Iq,List.replicate_succ',aL1]
   ·rcases aR0.1 d with e | e
    ·exact h.pos r (List.mem_append_left _ e)
    ·rw[aR9.1 e];exact Nat.le_add_left _ _
   ·obtain⟨b,a⟩:=Nm f c;have g:(Q++[(x,n)])[i]? =some r:=by rw[aN6 (aO2.1 b).1];exact b
    rcases a with a | ⟨a,rfl⟩
    ·exact h.ne i r s g (by rw[aN6 (aO2.1 a).1];exact a)
    ·exact h.ne i r (x,n) g (by rw[a,aN7 (aV3 _)];simp)
  ·rw[qK _ _ e];refine⟨by rw[oH,h.un];rfl,λr d=>?_,λi r k f c=>?_⟩
   ·rcases aR0.1 d with e | e
    ·exact h.pos r e
    ·rw[aR9.1 e];exact aV3 _
   ·obtain⟨b,a⟩:=Nm f c;rcases a with a | ⟨a,rfl⟩
    ·exact h.ne i r k b a
    ·have j:i=Q.length:=by simp at a;omega
     rw[j,aN7 (aV3 _)]at b;simp at b;rw[<-b];exact e
theorem fY(l:List Int):RunInv l (aU l):=by
 have a:∀(l p:List Int) (R:List (Int×Nat)),RunInv p R->RunInv (p++l) (l.foldl lS R):=by
  intro l;induction l with
  | nil=>intro p R h;simpa using h
  | cons x l d=>
   intro p R h;have :=d _ _ (h.add x);rw[aL1]at this;exact this
 exact a l [] [] ⟨rfl,(λr c=>nomatch c),(λi r s b e=>by simp at b)⟩
theorem ai7{R:List (Int×Nat)}(h:∀r∈R,1<=r.2):R.length<=(eI R).length:=by
 induction R with
 | nil=>exact aY1 _
 | cons r R b=>
  have c:=b (λr a=>h r (aR2 _ a));have d:=h r Es;have e:eI (r::R)=List.replicate r.2 r.1++eI R:=rfl;rw[e,aP3,aP9,aP4];omega
theorem kZ{R:List (Int×Nat)}{r:Int×Nat}(a:r∈R)(h:1<=r.2):r.1∈eI R:=List.mem_flatMap.2 ⟨r,a,List.mem_replicate.2 ⟨E,rfl⟩⟩
theorem Et{R:List (Int×Nat)}{k:Nat}{r:Int×Nat}(h:R[k]? =some r):eI (R.take (k+1))=eI (R.take k)++List.replicate r.2 r.1:=by
 rw[aT5,h,oH];unfold eI;simp
theorem Om{R:List (Int×Nat)}(k:Nat):(eI (R.take k)).length<=(eI R).length:=by
 conv=>rhs;rw[<-aT6 k R,oH,aP3]
 omega
def bL(R:List (Int×Nat)):List Int:=R.flatMap λr=>aK r.1.toNat++aK r.2
def bR(l:List Int):List Int:=aK (aU l).length++bL (aU l)
theorem Na(Q R:List (Int×Nat)):bL (Q++R)=bL Q++bL R:=by unfold bL;simp
theorem xQ{R:List (Int×Nat)}{k:Nat}{r:Int×Nat}(h:R[k]? =some r):bL (R.take (k+1))=bL (R.take k)++(aK r.1.toNat++aK r.2):=by
 rw[aT5,h,Na];unfold bL;simp
theorem ad5{R:List (Int×Nat)}{k:Nat}{r:Int×Nat}(h:R[k]? =some r):bL (R.drop k)=aK r.1.toNat++(aK r.2++bL (R.drop (k+1))):=by
 obtain⟨a,b⟩:=aO2.1 h;rw[aM5 a,b];show (aK r.1.toNat++aK r.2)++bL (R.drop (k+1))=_;rw[aL1]
theorem pO{R:List (Int×Nat)}(h:∀r∈R,r.1.toNat<2^64/\r.2<2^64):(bL R).length<=R.length*20:=by
 induction R with
 | nil=>exact aY1 _
 | cons r R c=>
  have d:=c (λr b=>h r (aR2 _ b));have a:=h r Es;have f:=cD a.1;have g:=cD a.2;have e:bL (r::R)=(aK r.1.toNat++aK r.2)++bL R:=rfl;rw[e,aP3,aP3,aQ,aQ,aP4];omega
theorem jL(n:Nat):∀c∈aK n,0<=c/\c<256:=by
 intro c a;obtain⟨k,_,rfl⟩:=aR4.1 a;have :=Mc n k;omega
theorem Ua(n:Nat):∀c∈bW n,0<=c/\c<256:=by
 intro c a;simp[bW]at a;omega
theorem vA(l:List Int):∀c∈bR l,0<=c/\c<256:=by
 intro c a;rcases aR0.1 a with h | h
 ·exact jL _ c h
 ·obtain⟨r,_,h⟩:=List.mem_flatMap.1 h;exact(aR0.1 h).elim (jL _ c) (jL _ c)
def dU:List Int:=[83,75,82,49]
def bT(b:List Int):List Int:=aK b.length++b++bW (cQ b)
def eH(most rate len:Nat)(x y:List Int):List Int:=dU++cK [most,rate,len]++bT x++bT y
def zA(most rate len:Nat)(x y:List Int):List Int:=eH most rate len x y++bW (cQ (eH most rate len x y))
def fG(R:List Nat)(rate k:Nat):List Int:=(List.range k).flatMap λi=>aK (R.idxOf (i*rate))
theorem rJ(R:List Nat)(a k:Nat):fG R a (k+1)=fG R a k++aK (R.idxOf (k*a)):=by unfold fG;rw[aS9];simp
theorem aG2(R:List Nat)(a k:Nat):k<=(fG R a k).length:=by
 induction k with
 | zero=>exact aY1 _
 | succ k b=>rw[rJ,aP3,aQ];omega
theorem sU{R:List Nat}(h:R.length<2^63)(a k:Nat):(fG R a k).length<=k*10:=by
 induction k with
 | zero=>exact aY1 _
 | succ k c=>
  have b:R.idxOf (k*a)<=R.length:=List.idxOf_le_length;have :=cD (show R.idxOf (k*a)<2^64 by omega);rw[rJ,aP3,aQ];omega
theorem vE(R:List Nat)(a k:Nat):∀c∈fG R a k,0<=c/\c<256:=by
 intro c b;obtain⟨i,_,h⟩:=List.mem_flatMap.1 b;exact jL _ c h
theorem Ky{R:List Nat}(h:R.Nodup){a q:Nat}(c:R[a]? =some q):R.idxOf q=a:=by
 obtain⟨b,rfl⟩:=aO2.1 c;exact h.idxOf_getElem a b
theorem zM{b:List Int}(h:∀c∈b,0<=c/\c<256):∀c∈bT b,0<=c/\c<256:=by
 intro c a;rcases aR0.1 a with e | e
 ·exact(aR0.1 e).elim (jL _ c) (h c)
 ·exact Ua _ c e
theorem Vi(l:List Nat):∀c∈cK l,0<=c/\c<256:=by
 intro c a;obtain⟨n,_,h⟩:=List.mem_flatMap.1 a;exact jL _ c h
theorem rY{most rate len:Nat}{x y:List Int}(b:∀c∈x,0<=c/\c<256)(d:∀c∈y,0<=c/\c<256):∀c∈eH most rate len x y,0<=c/\c<256:=by
 intro c a;rcases aR0.1 a with e | e
 ·rcases aR0.1 e with e | e
  ·rcases aR0.1 e with e | e
   ·simp[dU]at e;omega
   ·exact Vi _ c e
  ·exact zM b c e
 ·exact zM d c e
theorem fK(b:List Int):(bT b).length=nJ b.length+1+b.length+4:=by unfold bT;rw[aP3,aP3,aQ,eM]
theorem gV{P:Program}{w:World}{y:Array Oper}{l:List Oper}{o:Oper}{a:Act}{Q:Exit->Act->World->Prop}{L:TypeId}{A B:Value}(G:o.guard=none)(s x:Operand)(t:TypeId)(U:o.op= .call {callee:= .builtin .append,args:=#[s,x],argTypes:=#[t,t]})(c:Nat)(e:TypeId){z:Value}{b:Nat}(m:(P.info? e).map (λi=>(i.zero,i.size,i.bytes))=some (some z,2,b))(W:P.underlying t=some (.slice e))(J:z.cells.size=2)(v:Value)(n:Nat)(K:List Value)(V:a.eval s=v)(u:w.ownsRow c e 2 v n K)(X:a.eval x= .slice w 1 1)(M:A.oneCell'=true)(q:B.oneCell'=true)(C:n+1<=maxLen)(f:(n+1)*b<=140737488355328)(D:c<=w)(h:∀g d r,r.ownsRow c e 2 (.slice (some ⟨g,0,none⟩) (n+1) d) (n+1) (K++[A,B])->w.grownBy r v.ownBlock->(v.ownBlock=some g\/w.heap.size<=g)->g<r.heap.size->wpList P y Q l (a.put o.dst (.slice g (n+1) d)) r):wpList P y Q (o::l) a (w.alloc (.cells #[A,B] L)):=by
 obtain⟨i,S,Y,I,F⟩:=bd2 m;refine wpList_append_lies (w.alloc (.cells #[A,B] L)) G s x t U c e i z 2 b W S Y I F J E v n K V (u.alloc _) (w,0) 1 1 [A,B] X rfl ?_ ?_ E C f ?_ _ rfl ?_
 ·intro j Z p;match j,p with
  | 0,p=>simp at p;subst p;simp[Addr.add]
  | 1,p=>simp at p;subst p;simp[Addr.add]
 ·intro Z N;simp at N;rcases N with rfl | rfl<;>assumption
 ·simp;omega
 ·intro g d r M q O R;exact h g d r M ⟨q.os,q.tape,q.output,by have :=q.size;simp at this;omega,λk T H=>by
   rw[q.block k (by simp;omega) H];exact aJ5 w _ k T⟩ (O.imp id (λh=>by simp at h;omega)) R
theorem Tryz.infoRun:(prog.info? 167).map (λi=>(i.zero,i.size,i.bytes))=some (some (.agg #[.int .i64 0, .int .i64 0]),2,16):=Ek
def eG(R:List (Int×Nat)):List Value:=R.flatMap λr=>[.int .i64 r.1, .int .i64 (r.2:Int)]
theorem qL(Q R:List (Int×Nat)):eG (Q++R)=eG Q++eG R:=by unfold eG;simp
theorem Bf(R:List (Int×Nat)):(eG R).length=R.length*2:=by
 induction R with
 | nil=>rfl
 | cons r R a=>show (_::_::eG R).length=_;rw[aP4,aP4,a,aP4];omega
theorem qM{R:List (Int×Nat)}{k:Nat}{r:Int×Nat}(h:R[k]? =some r):(eG R)[k*2]? =some (.int .i64 r.1)/\(eG R)[k*2+1]? =some (.int .i64 (r.2:Int)):=by
 obtain⟨b,c⟩:=aO2.1 h;have e:eG R=eG (R.take k)++([.int .i64 r.1, .int .i64 (r.2:Int)]++eG (R.drop (k+1))):=by
  conv=>lhs;rw[<-aT6 k R,qL,aM5 b,c]
  rfl
 have a:(eG (R.take k)).length=k*2:=by rw[Bf,aQ1,aW0 E]
 rw[e,<-a];constructor<;>simp
theorem Nb(Q:List (Int×Nat))(x:Int)(n:Nat):(eG (Q++[(x,n)])).set (Q.length*2+1) ((n:Int)+1:Int)=eG (Q++[(x,n+1)]):=by
 rw[qL,qL,List.set_append_right _ _ (by rw[Bf];omega),Bf,aU6];rfl
theorem rH{w:World}{b:Nat}{e:TypeId}{v:Value}{n:Nat}{i:List Value}(h:w.ownsRow b e 2 v n i)(x:0<n):∃g a,v= .slice (some ⟨g,0,none⟩) n a/\b<=g/\g<w.heap.size/\n<=a/\a<=maxLen/\(∀j u,i[j]? =some u->w.cell? ⟨g,j,none⟩=some u)/\(∀j,w.frozen? ⟨g,j,none⟩=false):=by
 obtain⟨p,m⟩:=h;rcases m with ⟨_,t⟩ | ⟨g,a,c,s,k,d,l,q,y,r⟩
 ·omega
 ·refine⟨g,a,s,k,(aJ2.1 d).1,l,q,λj u f=>?_,λj=>bc4 w g j c e d⟩;have o:=(aO2.1 f).1;rw[bb8 w g j c e (0,0) d,<-f,<-r,aO6,bd0 (by rw[<-p];exact o)];simp
theorem Lt{w:World}{a:Nat}{e:TypeId}{g b n:Nat}{i:List Value}(h:w.ownsRow a e 2 (.slice g n b) n i)(j:Nat)(u:Value):(w.setCell (g,j) u).ownsRow a e 2 (.slice g n b) n (i.set j u):=by
 obtain⟨l,m⟩:=h;refine⟨by simpa using l,?_⟩;rcases m with ⟨h,_⟩ | ⟨y,d,c,v,o,q,p,r,s,t⟩
 ·cases h
 ·injection v with f x k
  simp only[aY7,Addr.mk.injEq,bb4]at f;subst f;subst k;refine .inr ⟨g,b,c.setIfInBounds j u,rfl,o,heap_setCell_same w g j c e u q,p,r,by simpa using s,?_⟩;rw[aJ4,<-t,List.take_set]
def GivesR(B:Nat)(w:World)(R:List (Int×Nat))(e:Ending)(w':World):Prop:=∃v,e= .returned v/\w'.ownsRow B 167 2 v R.length (eG R)/\Below B w w'
theorem fZ(l:List Int):(aU l).length<=l.length:=by
 have h:=fY l;have :=ai7 h.pos;rwa[h.un]at this
theorem gX{l:List Int}{r:Int×Nat}(h:r∈aU l):r.2<=l.length:=by
 have c:=fY l;obtain⟨k,d⟩:=aO4 h;have a:=Et d;have b:=Om (R:=aU l) (k+1);rw[a,aP3,aP9,c.un]at b;omega
theorem By{B g j:Nat}{w a:World}(h:Below B w a)(c:B<=a)(e:B<=g)(u:Value):Below B w (a.setCell (g,j) u):=
 h.trans (((Chg.refl (S:=λk=>k=g)).setCell (g,j) (Ei rfl) u).below (λb d=>by rw[d];exact e) c)
theorem ad6{l:List Int}(pa:Option Addr)(pc:Nat)(w:World)(hp:Reads w .i64 pa l)(a3:l.length<=1000000):Calls prog 132 #[.slice pa l.length pc] w (GivesR w w (aU l)):=by
 have HP:=θ hp;clear hp;go_in;go_wp2;go_loopw [3,5,6,9] (λv _ _ i wx=>∃k:Nat,k<=l.length/\i= .int .i64 k/\wx.ownsRow w 167 2 v (aU (l.take k)).length (eG (aU (l.take k)))/\Below w w wx) (λ_ _ _ i _=>l.length-(intOf i).toNat);exact⟨0,aY1 _,rfl,bb2 _ _ _ _,aJ6 _ _⟩;as_aux_lemma=>
  obtain⟨k,hk,rfl,a,D⟩:=hrel;have y:=D.size;by_cases I:k<l.length
  ·obtain⟨b,W,rfl,N,F⟩:=HP.o.some E;obtain⟨s,U⟩:∃s,l[k]? =some s:=⟨_,aO0 I⟩;have O:=(D.cell (p:=(b,W+k)) N).trans (F k I);rw[U,aY3]at O;have B:=θ (zP U);have H:=fZ (l.take k);have u:=λr (h:r∈aU (l.take k))=>gX h;rw[aQ1,aW0 E]at H u;have L:=θ D;clear F U D;generalize aU (l.take k)=R at *;rcases List.eq_nil_or_concat R with rfl | ⟨Q,⟨x,n⟩,rfl⟩
   ·obtain⟨a4,c4,rfl,_,_⟩:=aD a;rw[tZ]at B;go_wp2_with (at_builtin;refine gV rfl _ _ 165 rfl w 167 Tryz.infoRun Tryz.underlying165 rfl _ _ _ rfl a rfl rfl rfl ?c1 ?c2 ?c3 ?_);case c1=>unfold maxLen;omega
    case c2=>omega
    case c3=>exact y
    intro g5 A K c d _ _;have t:Below w w K:=L.o.grown d y (λj T=>(a.lt j T).1);have z:=θ (And.intro (show K.ownsRow w 167 2 (.slice g5 ([(s,1)]:List (Int×Nat)).length A) ([(s,1)]:List (Int×Nat)).length (eG [(s,1)])from c) t);clear a c d t;rw[<-B.o]at z;go_wp2;go_roundw;case rel=>
     refine⟨k+1,E,by go_num,?_,z.o.2⟩;have :=z.o.1;rw[B.o]at this⊢;exact this
    case measure=>simp[intOf];omega
   ·rw[List.concat_eq_append]at *;obtain⟨g,a0,rfl,P,a1,S,a2,f,G⟩:=rH a Es;have hl:(Q++[(x,n)]).length=Q.length+1:=Es;have V:=qM (R:=Q++[(x,n)]) (k:=Q.length) (r:=(x,n)) Es;have c0:=f _ _ V.1;have c1:=f _ _ V.2;have f1:=G (Q.length*2+1);rw[hl]at a H S⊢;have hn:n<=k:=u (x,n) Es;have m:=θ a;clear f G V hl u a;by_cases e:x=s
    ·subst e;rw[sC]at B;have C:=Lt m.o (Q.length*2+1) ((n:Int)+1:Int);have J:=By (j:=Q.length*2+1) L.o y P ((n:Int)+1:Int);rw[Nb]at C;have X:=θ (And.intro C J);clear C J;have M:Hid ((Q++[(x,n+1)]).length=Q.length+1):=θ Es;generalize Q.length=q at *;go_wp2_with fail;refine⟨⟨k+1,E,by first | rfl | go_num,?_,X.o.2⟩,by simp[intOf];omega⟩;rw[B.o,M.o];exact X.o.1
    ·rw[qK _ _ e]at B;have M:Hid ((Q++[(x,n)]++[(s,1)]).length=Q.length+1+1):=θ Es;have HE:Hid (eG (Q++[(x,n)])++[.int .i64 s, .int .i64 1]=eG (Q++[(x,n)]++[(s,1)])):=θ (by rw[qL _ [(s,1)]];rfl);generalize Q++[(x,n)]++[(s,1)]=Z at *;generalize Q++[(x,n)]=Y at *;generalize Q.length=q at *;go_wp2_with (at_builtin;refine gV rfl _ _ 165 rfl w 167 Tryz.infoRun Tryz.underlying165 rfl _ _ _ rfl m.o rfl rfl rfl ?c1 ?c2 ?c3 ?_);case c1=>unfold maxLen;omega
     case c2=>omega
     intro g5 A K c d _ _;have t:Below w w K:=L.o.grown d y (λj T=>(m.o.lt j T).1);rw[HE.o]at c;have z:=θ (And.intro c t);clear c d t;go_wp2;go_roundw;case rel=>
      refine⟨k+1,E,by go_num,?_,z.o.2⟩;rw[B.o,M.o];exact z.o.1
     case measure=>simp[intOf];omega
  ·obtain rfl:k=l.length:=E;rw[aT8]at a;have z:=θ (And.intro a D);obtain⟨a4,c4,rfl,_,_⟩:=aD a;clear a D;go_wp2;go_ret;exact⟨_,rfl,z.o⟩
end
def sy(l:List Int)(i:Nat):Int:=l[i]?.getD (-1)
theorem gK{l:List Int}{i:Nat}(h:i<l.length):sy l i=l[i]:=by simp[sy,h]
theorem eO{l:List Int}{i:Nat}(h:l.length<=i):sy l i= -1:=by simp[sy,h]
def eqK(l:List Int)(w a b:Nat):Prop:=∀d,d<w->sy l (a+d)=sy l (b+d)
def ltK(l:List Int)(w a b:Nat):Prop:=∃d,d<w/\eqK l d a b/\sy l (a+d)<sy l (b+d)
section
variable {l:List Int}{w v a b c:Nat}
theorem eqK.refl:eqK l w a a:=λ_ _=>rfl
theorem eqK.symm (h:eqK l w a b):eqK l w b a:=λd e=>(h d e).symm
theorem eqK.trans (h:eqK l w a b)(k:eqK l w b c):eqK l w a c:=λd e=>(h d e).trans (k d e)
theorem eqK.mono (h:eqK l w a b)(f:v<=w):eqK l v a b:=λd e=>h d E
theorem pH:eqK l (w+v) a b↔eqK l w a b/\eqK l v (a+w) (b+w):=by
 constructor
 ·intro h;exact⟨h.mono E,λd f=>by have :=h (w+d) (E);rwa[<-aU3,<-aU3]at this⟩
 ·rintro⟨h,k⟩ d f;by_cases g:d<w
  ·exact h d g
  ·obtain⟨e,rfl⟩:=aV1 (show w<=d by omega);have :=k e E;rwa[aU3,aU3]at this
theorem pI:ltK l (w+v) a b↔ltK l w a b\/(eqK l w a b/\ltK l v (a+w) (b+w)):=by
 constructor
 ·rintro⟨d,i,g,f⟩;by_cases k:d<w
  ·exact Ei ⟨d,k,g,f⟩
  ·obtain⟨e,rfl⟩:=aV1 (show w<=d by omega);obtain⟨j,h⟩:=pH.1 g;exact Ej ⟨j,e,E,h,by rwa[aU3,aU3]⟩
 ·rintro(⟨d,i,g,f⟩ | ⟨g,d,i,h,f⟩)
  ·exact⟨d,E,g,f⟩
  ·exact⟨w+d,E,pH.2 ⟨g,h⟩,by rwa[aU3,aU3]at f⟩
theorem lL(h:ltK l w a b):¬eqK l w a b:=by
 obtain⟨d,e,_,g⟩:=h;intro f;have :=f d e;omega
theorem yP(l:List Int)(w a b:Nat):ltK l w a b\/eqK l w a b\/ltK l w b a:=by
 induction w with
 | zero=>exact Ej (Ei (λd e=>E))
 | succ w f=>
  rcases f with h | h | h
  ·exact Ei (pI.2 (Ei h))
  ·rcases Int.lt_trichotomy (sy l (a+w)) (sy l (b+w))with k | k | k
   ·exact Ei ⟨w,E,h,k⟩
   ·refine Ej (Ei (pH.2 ⟨h,λd e=>?_⟩));obtain rfl:d=0:=E;simpa using k
   ·exact Ej (Ej ⟨w,E,h.symm,k⟩)
  ·exact Ej (Ej (pI.2 (Ei h)))
theorem oB(h:ltK l w a b)(k:ltK l w b c):ltK l w a c:=by
 obtain⟨d,j,g,o⟩:=h;obtain⟨e,n,i,m⟩:=k;rcases aV9 d e with f | f | f
 ·exact⟨d,j,g.trans (i.mono E),by have :=i d f;omega⟩
 ·subst f;exact⟨d,j,g.trans i,E⟩
 ·exact⟨e,n,(g.mono E).trans i,by have :=g e f;omega⟩
theorem jK:¬ltK l w a a:=λh=>lL h eqK.refl
theorem Zp(h:ltK l w a b):¬ltK l w b a:=λk=>jK (oB h k)
theorem Zq(h:ltK l w a b)(k:eqK l w b c):ltK l w a c:=by
 obtain⟨d,e,f,g⟩:=h;exact⟨d,e,f.trans (k.mono E),by have :=k d e;omega⟩
theorem Yp(k:eqK l w a b)(h:ltK l w b c):ltK l w a c:=by
 obtain⟨d,e,f,g⟩:=h;exact⟨d,e,(k.mono E).trans f,by have :=k d e;omega⟩
theorem ltK.mono (h:ltK l w a b)(i:w<=v):ltK l v a b:=by
 obtain⟨d,g,f,e⟩:=h;exact⟨d,E,f,e⟩
end
def sufLt(l:List Int)(a b:Nat):Prop:=∃w,ltK l w a b
section
variable {l:List Int}{a b c:Nat}
theorem sufLt.trans (h:sufLt l a b)(k:sufLt l b c):sufLt l a c:=by
 obtain⟨w,h⟩:=h;obtain⟨v,k⟩:=k;exact⟨max w v,oB (h.mono E) (k.mono E)⟩
theorem sufLt.irrefl:¬sufLt l a a:=λ⟨w,h⟩=>jK h
theorem sufLt.asymm (h:sufLt l a b):¬sufLt l b a:=λk=>sufLt.irrefl (h.trans k)
end
def Nn(l:List Int):Prop:=∀i,i<l.length->0<=sy l i
theorem sK{l:List Int}(e:Nn l){w a b:Nat}(g:a<b)(j:b<=l.length)(f:l.length-b<w):¬eqK l w a b:=by
 intro h;have d:=h (l.length-b) f;rw[eO (i:=b+(l.length-b)) E]at d;have :=e (a+(l.length-b)) E;omega
theorem aG7{l:List Int}(e:Nn l){a b:Nat}(f:a<=l.length)(g:b<=l.length)(d:a≠b):sufLt l a b\/sufLt l b a:=by
 rcases yP l (l.length+1) a b with h | h | h
 ·exact Ei ⟨_,h⟩
 ·rcases Nat.lt_or_gt_of_ne d with k | k
  ·exact absurd h (sK e k g E)
  ·exact absurd h.symm (sK e k f E)
 ·exact Ej ⟨_,h⟩
theorem jC{l:List Int}{a b:Nat}:sufLt l a b↔sy l a<sy l b\/(sy l a=sy l b/\sufLt l (a+1) (b+1)):=by
 constructor
 ·rintro⟨w,h⟩;rcases aV0 w with rfl | j
  ·obtain⟨d,f,_⟩:=h;omega
  ·obtain⟨v,rfl⟩:=aV1 (show 1<=w by omega);rcases pI.1 h with ⟨d,f,_,g⟩ | ⟨i,e⟩
   ·obtain rfl:d=0:=E;exact Ei (by simpa using g)
   ·exact Ej ⟨by simpa using i 0 E,_,e⟩
 ·rintro(h | ⟨h,w,e⟩)
  ·exact⟨1,0,E,λd f=>E,by simpa using h⟩
  ·refine⟨1+w,pI.2 (Ej ⟨λd f=>?_,e⟩)⟩;obtain rfl:d=0:=E;simpa using h
structure RankOf (l:List Int) (w:Nat) (rk:List Int):Prop where
 len:rk.length=l.length
 nn:Nn rk
 lt:∀a b,sy rk a<sy rk b↔ltK l w a b
 eq:∀a b,sy rk a=sy rk b↔eqK l w a b
theorem Vm{l:List Int}(f:Nn l):RankOf l 1 l:=by
 refine⟨rfl,f,λa b=>⟨λh=>⟨0,E,λd e=>E,by simpa using h⟩,λ⟨d,e,_,h⟩=>?_⟩,λa b=>⟨λh d e=>?_,λh=>by simpa using h 0 E⟩⟩
 ·obtain rfl:d=0:=E;simpa using h
 ·obtain rfl:d=0:=E;simpa using h
def iA(rk:List Int)(w a b:Nat):Int:=if sy rk a=sy rk b then sy rk (a+w)-sy rk (b+w)else sy rk a-sy rk b
theorem aD5{l rk:List Int}{w:Nat}(h:RankOf l w rk)(a b:Nat):iA rk w a b<0↔ltK l (w+w) a b:=by
 unfold iA;rw[pI,<-h.lt,<-h.lt,<-h.eq];split
 ·rename_i e;constructor
  ·intro k;exact Ej ⟨e,E⟩
  ·rintro(k | ⟨_,k⟩)<;>omega
 ·rename_i e;constructor
  ·intro k;exact Ei E
  ·rintro(k | ⟨k,_⟩)
   ·omega
   ·exact absurd k e
theorem Ss{l rk:List Int}{w:Nat}(h:RankOf l w rk)(a b:Nat):iA rk w a b=0↔eqK l (w+w) a b:=by
 unfold iA;rw[pH,<-h.eq,<-h.eq];split
 ·rename_i e;constructor
  ·intro k;exact⟨e,E⟩
  ·rintro⟨_,k⟩;omega
 ·rename_i e;constructor
  ·intro k;omega
  ·rintro⟨k,_⟩;exact absurd k e
def pD(l:List Int)(w:Nat)(r:List Nat):Prop:=r.Perm (List.range l.length)/\r.Pairwise (λa b=>¬ltK l w b a)
def dJ(rk:List Int)(w:Nat)(r:List Nat):Nat->Nat
 | 0=>0
 | i+1=>dJ rk w r i+(if iA rk w (r[i]?.getD 0) (r[i+1]?.getD 0)=0 then 0 else 1)
theorem sI(rk:List Int)(w:Nat)(r:List Nat):∀i,dJ rk w r i<=i
 | 0=>aV3 _
 | i+1=>by have :=sI rk w r i;unfold dJ;split<;>omega
theorem vW(rk:List Int)(w:Nat)(r:List Nat){i j:Nat}(h:i<=j):dJ rk w r i<=dJ rk w r j:=by
 induction j with
 | zero=>
      obtain rfl:i=0:=E;exact aV3 _
 | succ j d=>
  rcases aV8 j i with k | k
  ·obtain rfl:i=j+1:=E;exact aV3 _
  ·refine aV4 (d k) ?_;show dJ rk w r j<=dJ rk w r j+_;omega
section
variable {l rk:List Int}{w:Nat}{r:List Nat}
theorem cL{e:Type}{l:List e}{i:Nat}{d:e}(h:i<l.length):l[i]?.getD d=l[i]:=by simp[h]
theorem No(f:pD l w r){i j:Nat}(e:i<=j)(d:j<r.length):¬ltK l w (r[j]?.getD 0) (r[i]?.getD 0):=by
 rcases aV8 i j with h | h
 ·rw[cL (show i<r.length by omega),cL d];exact aS7.1 f.2 i j E d h
 ·obtain rfl:i=j:=E;exact jK
theorem Ki(h:RankOf l w rk)(t:pD l (w+w) r){i j:Nat}(u:i<=j)(x:j<r.length):(dJ rk w r i<dJ rk w r j↔ltK l (w+w) (r[i]?.getD 0) (r[j]?.getD 0))/\(dJ rk w r i=dJ rk w r j↔eqK l (w+w) (r[i]?.getD 0) (r[j]?.getD 0)):=by
 induction j with
 | zero=>
  obtain rfl:i=0:=E;exact⟨⟨λh=>E,λh=>absurd h jK⟩,⟨λ_=>eqK.refl,λ_=>rfl⟩⟩
 | succ j A=>
  rcases aV8 j i with k | k
  ·obtain rfl:i=j+1:=E;exact⟨⟨λh=>E,λh=>absurd h jK⟩,⟨λ_=>eqK.refl,λ_=>rfl⟩⟩
  ·obtain⟨y,z⟩:=A k E;have B:=vW rk w r k;have o:=No t (show j<=j+1 by omega) x;have g:=No t k E;have s:=Ss h (r[j]?.getD 0) (r[j+1]?.getD 0);have f:dJ rk w r (j+1)=dJ rk w r j+(if iA rk w (r[j]?.getD 0) (r[j+1]?.getD 0)=0 then 0 else 1):=rfl;by_cases e:iA rk w (r[j]?.getD 0) (r[j+1]?.getD 0)=0
   ·rw[bd0 e]at f;have n:=s.1 e;rw[f,aU7,y,z];exact⟨⟨λh=>Zq h n,λh=>Zq h n.symm⟩,⟨λh=>h.trans n,λh=>h.trans n.symm⟩⟩
   ·rw[bc9 e]at f;have p:¬eqK l (w+w) (r[j]?.getD 0) (r[j+1]?.getD 0):=λq=>e (s.2 q);have m:ltK l (w+w) (r[j]?.getD 0) (r[j+1]?.getD 0):=by
     rcases yP l (w+w) (r[j]?.getD 0) (r[j+1]?.getD 0)with q | q | q
     ·exact q
     ·exact absurd q p
     ·exact absurd q o
    have d:ltK l (w+w) (r[i]?.getD 0) (r[j+1]?.getD 0):=by
     rcases yP l (w+w) (r[i]?.getD 0) (r[j]?.getD 0)with q | q | q
     ·exact oB q m
     ·exact Yp q m
     ·exact absurd q g
    exact⟨⟨λ_=>d,λ_=>E⟩,⟨λh=>E,λq=>absurd q (lL d)⟩⟩
theorem ac9{s:List Int}(h:RankOf l w rk)(H:0<w)(F:Nn l)(x:pD l (w+w) r)(C:s.length=l.length)(z:∀i,i<r.length->sy s (r[i]?.getD 0)=(dJ rk w r i:Int)):RankOf l (w+w) s:=by
 have G:r.length=l.length:=by have :=x.1.length_eq;simpa using this
 have f:∀a,a<l.length->∃i,i<r.length/\r[i]?.getD 0=a:=by
  intro a g;have :a∈r:=x.1.mem_iff.2 (aR8.2 g);obtain⟨i,o,e⟩:=aP1 this;exact⟨i,o,by rw[cL o,e]⟩
 have m:Nn s:=by
  intro a g;obtain⟨i,o,rfl⟩:=f a E;rw[z i o];omega
 have p:∀a b,a<l.length->b<l.length->(sy s a<sy s b↔ltK l (w+w) a b)/\(sy s a=sy s b↔eqK l (w+w) a b):=by
  intro a b g n;obtain⟨i,o,rfl⟩:=f a g;obtain⟨j,A,rfl⟩:=f b n;rw[z i o,z j A];rcases Nat.le_total i j with k | k
  ·obtain⟨t,u⟩:=Ki h x k A;have D:=vW rk w r k;exact⟨⟨λq=>t.1 E,λq=>by have :=t.2 q;omega⟩,⟨λq=>u.1 E,λq=>by have :=u.2 q;omega⟩⟩
  ·obtain⟨t,u⟩:=Ki h x k o;have D:=vW rk w r k;exact⟨⟨λq=>E,λq=>absurd q (No x k o)⟩,⟨λq=>(u.1 E).symm,λq=>by have :=u.2 q.symm;omega⟩⟩
 have y:∀a b,l.length<=a->b<l.length->ltK l (w+w) a b:=λa b g n=>⟨0,E,λd B=>E,by rw[eO E];have :=F b n;simpa using by omega⟩;have t:∀a b,l.length<=a->l.length<=b->eqK l (w+w) a b:=λa b g n d B=>by rw[eO E,eO E]
 refine⟨C,m,λa b=>?_,λa b=>?_⟩
 ·by_cases g:a<l.length<;>by_cases n:b<l.length
  ·exact(p a b g n).1
  ·have :=m a E;rw[eO (i:=b) E];exact⟨λq=>E,λq=>absurd q (Zp (y b a E g))⟩
  ·have :=m b E;rw[eO (i:=a) E];exact⟨λ_=>y a b E n,λ_=>E⟩
  ·rw[eO (i:=a) E,eO (i:=b) E];exact⟨λq=>E,λq=>absurd (t a b E E) (lL q)⟩
 ·by_cases g:a<l.length<;>by_cases n:b<l.length
  ·exact(p a b g n).2
  ·have :=m a E;rw[eO (i:=b) E];exact⟨λq=>E,λq=>absurd q.symm (lL (y b a E g))⟩
  ·have :=m b E;rw[eO (i:=a) E];exact⟨λq=>E,λq=>absurd q (lL (y a b E n))⟩
  ·rw[eO (i:=a) E,eO (i:=b) E];exact⟨λ_=>t a b E E,λ_=>rfl⟩
end
def IsRows(l:List Int)(r:List Nat):Prop:=r.Perm (List.range l.length)/\r.Pairwise (sufLt l)
theorem IsRows.len {l:List Int}{r:List Nat}(h:IsRows l r):r.length=l.length:=by have :=h.1.length_eq;simpa using this
theorem IsRows.lt {l:List Int}{r:List Nat}(h:IsRows l r){i:Nat}(d:i<r.length):r[i]<l.length:=aR8.1 (h.1.mem_iff.1 (aP0 d))
theorem IsRows.nodup {l:List Int}{r:List Nat}(h:IsRows l r):r.Nodup:=h.1.nodup_iff.2 aS4
theorem IsRows.find {l:List Int}{r:List Nat}(h:IsRows l r){a:Nat}(d:a<l.length):∃i,∃e:i<r.length,r[i]=a:=
 aP1 (h.1.mem_iff.2 (aR8.2 d))
theorem vO{R:Nat->Nat->Prop}(d:∀a b,R a b->¬R b a):∀{r s:List Nat},r.Perm s->r.Pairwise R->s.Pairwise R->r=s
 | [],s,hp,_,_=>by have :=hp.length_eq;exact(List.eq_nil_of_length_eq_zero (by simpa using this.symm)).symm
 | a::r,[],hp,_,_=>by have :=hp.length_eq;simp at this
 | a::r,b::s,hp,h1,h2=>by
  have g:a=b:=by
   have h:a∈b::s:=hp.mem_iff.1 (aR3);have i:b∈a::r:=hp.mem_iff.2 (aR3);rcases aR1.1 h with e | e
   ·exact e
   ·rcases aR1.1 i with f | f
    ·exact f.symm
    ·exact absurd (List.rel_of_pairwise_cons h1 f) (d _ _ (List.rel_of_pairwise_cons h2 e))
  subst g;rw[vO d (List.Perm.cons_inv hp) (List.Pairwise.of_cons h1) (List.Pairwise.of_cons h2)]
theorem gI{l:List Int}{r s:List Nat}(h:IsRows l r)(k:IsRows l s):r=s:=
 vO (λ_ _ h=>h.asymm) (h.1.trans k.1.symm) h.2 k.2
theorem ad4{l rk:List Int}{w:Nat}{r:List Nat}(h:RankOf l w rk)(g:pD l (w+w) r)(p:dJ rk w r (r.length-1)=r.length-1):IsRows l r:=by
 refine⟨g.1,aS7.2 (λi j q f e=>?_)⟩;have d:∀n,n<=r.length-1->dJ rk w r n=n:=by
  intro n x;have :∀m,n+m=r.length-1->dJ rk w r n+m>=r.length-1:=by
   intro m s;rw[<-s]at p⊢;have o:∀k,dJ rk w r (n+k)<=dJ rk w r n+k:=by
    intro k;induction k with
    | zero=>exact aV3 _
    | succ k y=>rw[<-aU3];show dJ rk w r (n+k)+_<=_;split<;>omega
   have :=o m;omega
  have t:=this (r.length-1-n) E;have u:=sI rk w r n;omega
 have :=(Ki h g (show i<=j by omega) f).1.1 (by rw[d i E,d j E];exact e);rw[cL q,cL f]at this;exact⟨_,this⟩
theorem Hz{l rk:List Int}{w:Nat}{r:List Nat}(j:Nn l)(h:RankOf l w rk)(f:pD l (w+w) r)(p:dJ rk w r (r.length-1)≠r.length-1):w+w<l.length:=by
 have u:r.length=l.length:=by have :=f.1.length_eq;simpa using this
 rcases aV8 (w+w) l.length with k | k
 ·exact k
 ·exfalso;apply p;have :∀n,n<=r.length-1->dJ rk w r n=n:=by
   intro n;induction n with
   | zero=>intro _;rfl
   | succ n x=>
    intro t;have s:=x E;show dJ rk w r n+_=_;have g:n<r.length:=E;have i:n+1<r.length:=E;rw[bc9,s];intro e;have d:=(Ss h _ _).1 e;rw[cL g,cL i]at d;have y:r[n]<l.length:=aR8.1 (f.1.mem_iff.1 (aP0 g));have A:r[n+1]<l.length:=aR8.1 (f.1.mem_iff.1 (aP0 i));have o:r[n]≠r[n+1]:=λe=>by
     have m:r.Nodup:=f.1.nodup_iff.2 aS4;exact aS7.1 m n (n+1) g i E e
    rcases Nat.lt_or_gt_of_ne o with q | q
    ·rcases aV0 r[n]with z | z
     ·exact sK j q E E d
     ·exact sK j q E E d
    ·exact sK j q E E d.symm
  exact this _ (aV3 _)
structure Tl where
 N:Nat->Int
 all:Int
def bl(N:Nat->Int):Nat->Int
 | 0=>0
 | k+1=>bl N k+N k
structure Tl.Ok (t:Tl):Prop where
 pos:∀s,s<257->0<=t.N s
 sum:bl t.N 257=t.all
 max:t.all<=2147483648
theorem lX{N:Nat->Int}(h:∀s,s<257->0<=N s){a b:Nat}(c:a<=b)(f:b<=257):bl N a<=bl N b:=by
 induction b with
 | zero=>
      have :a=0:=E;subst this;exact Int.le_refl _
 | succ b d=>
  by_cases e:a=b+1
  ·subst e;exact Int.le_refl _
  ·have :=d E E;have :=h b E;simp only[bl];omega
theorem vT{N:Nat->Int}(h:∀s,s<257->0<=N s){b:Nat}(a:b<=257):0<=bl N b:=by
 have :=lX h (aY1 b) a;simpa[bl]using this
def upd(N:Nat->Int)(s:Nat)(v:Int):Nat->Int:=λx=>if x=s then v else N x
theorem bl_upd(N:Nat->Int)(s:Nat)(v:Int)(k:Nat):bl (upd N s v) k=bl N k+(if s<k then v-N s else 0):=by
 induction k with
 | zero=>simp[bl]
 | succ k a=>
  simp only[bl,a,upd];by_cases e:k=s
  ·subst e;rw[bd0 rfl,bc9 E,bd0 E];omega
  ·rw[bc9 e];by_cases h:s<k
   ·rw[bd0 h,bd0 E];omega
   ·rw[bc9 h,bc9 E];omega
def Tl.add (t:Tl)(s:Nat)(n:Int):Tl:=⟨upd t.N s (t.N s+n),t.all+n⟩
theorem Tl.add_ok {t:Tl}(h:t.Ok){s:Nat}(a:s<257){n:Int}(c: -t.N s<=n)(d:n<=2147483648-t.all):(t.add s n).Ok:=by
 refine⟨λx b=>?_,?_,?_⟩
 ·show 0<=upd t.N s (t.N s+n) x;unfold upd;split
  ·omega
  ·exact h.pos x b
 ·show bl (upd t.N s (t.N s+n)) 257=t.all+n;rw[bl_upd,bd0 a,h.sum];omega
 ·show t.all+n<=2147483648;omega
def Tl.zero:Tl:=⟨λ_=>0,0⟩
theorem aA1(k:Nat):bl (λ_=>0) k=0:=by
 induction k with
 | zero=>rfl
 | succ k a=>simp[bl,a]
theorem Tl.zero_ok:Tl.zero.Ok:=⟨λ_ _=>Int.le_refl _,aA1 257,by show (0:Int)<=_;omega⟩
theorem Tl.Ok.le {t:Tl}(h:t.Ok){s:Nat}(d:s<257):t.N s<=t.all:=by
 have a:=lX h.pos (show s+1<=257 by omega) (aV3 _);have b:=vT h.pos (show s<=257 by omega);have c:bl t.N (s+1)=bl t.N s+t.N s:=rfl;rw[h.sum]at a;omega
theorem Tl.Ok.all_pos {t:Tl}(h:t.Ok):0<=t.all:=by
 have :=vT h.pos (aV3 257);rw[h.sum]at this;exact this
def iM(s:Int):Nat:=(min (max s 0) 257).toNat
theorem Ae(s:Int):iM s<=257:=by unfold iM;omega
def IsWhich(t:Tl)(k r:Int):Prop:=
 ((k<0\/t.all<=k)->r= -1)/\((0<=k/\k<t.all)->∃s:Nat,s<257/\r=s/\bl t.N s<=k/\k<bl t.N (s+1))
theorem IsWhich.unique {t:Tl}(h:t.Ok){k r g:Int}(b:IsWhich t k r)(c:IsWhich t k g):r=g:=by
 by_cases f:0<=k/\k<t.all
 ·obtain⟨s,u,rfl,l,m⟩:=b.2 f;obtain⟨a,j,rfl,n,o⟩:=c.2 f;have e:s=a:=by
   rcases aV9 s a with q | i | p
   ·have :=lX h.pos (show s+1<=a by omega) (E);omega
   ·exact i
   ·have :=lX h.pos (show a+1<=s by omega) (E);omega
  rw[e]
 ·have d:k<0\/t.all<=k:=E;rw[b.1 d,c.1 d]
def cnt(l:List Int)(s:Int):Nat:=l.countP (· ==s)
def Tl.of (l:List Int):Tl:=⟨λs=>(cnt l s:Int),l.length⟩
theorem Kk(l:List Int)(x s:Int):cnt (l++[x]) s=cnt l s+(if x=s then 1 else 0):=by
 unfold cnt;rw[aL5];simp only[aL7,List.countP_nil,bb7];split<;>simp
theorem Tl.of_snoc (l:List Int)(s:Nat):Tl.of (l++[(s:Int)])=(Tl.of l).add s 1:=by
 unfold Tl.of Tl.add;congr 1
 ·funext x;show ((cnt (l++[(s:Int)]) (x:Int):Nat):Int)=upd _ s _ x;rw[Kk];unfold upd;by_cases e:x=s
  ·subst e;simp
  ·rw[bc9 E,bc9 e];simp
 ·simp
noncomputable def gS (l:List Int) (a b:Nat):Bool:=@decide (sufLt l a b) (Classical.propDecidable _)
theorem fR{l:List Int}{a b:Nat}:gS l a b=true↔sufLt l a b:=by unfold gS;simp
theorem jG{d:Type}{f g h:d->Bool}:∀{l:List d},(∀x∈l,f x=(g x||h x))->(∀x∈l,¬(g x=true/\h x=true))->l.countP f=l.countP g+l.countP h
 | [],_,_=>rfl
 | x::l,h1,h2=>by
  have e:=jG (l:=l) (λy c=>h1 y (aR2 _ c)) (λy c=>h2 y (aR2 _ c));have a:=h1 x aR3;have b:=h2 x aR3;rw[aL7,aL7,aL7,e,a];cases hg:g x<;>cases hh:h x<;>simp_all<;>omega
structure IsSyms (l:List Int):Prop where
 pos:0<l.length
 last:sy l (l.length-1)=0
 rest:∀i,i<l.length-1->0<sy l i
theorem IsSyms.nn {l:List Int}(h:IsSyms l):Nn l:=λi a=>by
 rcases aV8 i (l.length-1)with k | k
 ·have :=h.rest i k;omega
 ·obtain rfl:i=l.length-1:=E;have :=h.last;omega
theorem IsSyms.zero {l:List Int}(h:IsSyms l){i:Nat}(a:i<l.length)(b:sy l i=0):i=l.length-1:=by
 rcases aV8 i (l.length-1)with k | k
 ·have :=h.rest i k;omega
 ·omega
def aO(l:List Int)(r:List Nat):List Int:=r.map λi=>sy l ((i+l.length-1)%l.length)
theorem fX(l:List Int)(r:List Nat):(aO l r).length=r.length:=by simp[aO]
theorem qB{l:List Int}{r:List Nat}{i:Nat}(a:i<r.length):sy (aO l r) i=sy l ((r[i]+l.length-1)%l.length):=by
 unfold aO sy;simp[a]
theorem vD(n:Nat):(List.range n).Perm ((List.range n).map λq=>(q+1)%n):=by
 cases n with
 | zero=>exact aK9 _
 | succ m=>
  have e:((List.range (m+1)).map λq=>(q+1)%(m+1))=(List.range m).map (· +1)++[0]:=by
   rw[aS9,aQ2];congr 1
   ·apply aQ3;intro q a;have :=aR8.1 a;exact aW1 E
   ·simp
  rw[e,List.range_succ_eq_map];exact(List.perm_append_singleton _ _).symm
theorem lQ(l:List Int):(List.range l.length).map (sy l)=l:=by
 apply aM9;intro i;by_cases h:i<l.length
 ·simp[h,sy]
 ·rw[aO1 (by simp;omega),aO1 E]
theorem Dq{n q:Nat}(h:q<n):((q+1)%n+n-1)%n=q:=by
 by_cases e:q+1=n
 ·subst e;rw[Nat.mod_self,aY0];exact aW1 E
 ·rw[aW1 (show q+1<n by omega),show q+1+n-1=q+n by omega,aU4];exact aW1 h
theorem oA{l:List Int}{r:List Nat}(h:IsRows l r):(aO l r).Perm l:=by
 have a:(aO l r).Perm ((List.range l.length).map λi=>sy l ((i+l.length-1)%l.length)):=h.1.map _;refine a.trans (((vD l.length).map _).trans (List.Perm.of_eq ?_));rw[aQ6];refine Eq.trans (aQ3 (λq b=>?_)) (lQ l);show sy l (((q+1)%l.length+l.length-1)%l.length)=sy l q;rw[Dq (aR8.1 b)]
section
variable {l:List Int}{r:List Nat}
theorem Cl(h:IsRows l r){j:Nat}(d:j<r.length)(f:Nat->Bool):(r.take j).countP f=(List.range l.length).countP λq=>gS l q r[j]&&f q:=by
 rw[<-h.1.countP_eq];generalize n:r[j]=x;have c:r.countP (λq=>gS l q x&&f q)=(r.take j).countP (λq=>gS l q x&&f q)+(r.drop j).countP (λq=>gS l q x&&f q):=by
  rw[<-aL5,aT6]
 rw[c];subst n;have g:(r.take j).countP (λq=>gS l q r[j]&&f q)=(r.take j).countP f:=by
  refine aL6 (λq b=>?_);obtain⟨k,a,rfl⟩:=aP1 b;rw[aQ1]at a;have :gS l r[k] r[j]=true:=fR.2 (aS7.1 h.2 k j E d E);rw[aP2,this,Bool.true_and]
 have i:(r.drop j).countP (λq=>gS l q r[j]&&f q)=0:=by
  rw[aL8];intro q b;obtain⟨k,a,rfl⟩:=aP1 b;rw[aP5]at a;rw[aO8];have :¬sufLt l r[j+k] r[j]:=by
   rcases aV0 k with rfl | o
   ·exact sufLt.irrefl
   ·exact(aS7.1 h.2 j (j+k) d E E:sufLt l _ _).asymm
  have :gS l r[j+k] r[j]=false:=by
   rw[<-aJ9];exactλe=>this (fR.1 e)
  rw[this];simp
 rw[g,i];rfl
theorem xK(h:IsRows l r){j:Nat}(a:j<r.length):(List.range l.length).countP (λq=>gS l q r[j])=j:=by
 have :=Cl h a (λ_=>true);simp only[Bool.and_true]at this;rw[<-this,List.countP_true,aQ1];omega
def aN(m:List Int)(s:Int):Nat:=m.countP λx=>decide (x<s)
def lfL(m:List Int)(row:Nat):Nat:=aN m (sy m row)+cnt (m.take row) (sy m row)
theorem Fl(c:IsSyms l)(h:IsRows l r){i:Nat}(f:i<r.length):∃n:lfL (aO l r) i<r.length,r[lfL (aO l r) i]=(r[i]+l.length-1)%l.length:=by
 have w:=c.pos;have y:(r[i]+l.length-1)%l.length<l.length:=aW2 _ w;obtain⟨j,n,u⟩:=h.find y;have d:lfL (aO l r) i=j:=by
  have z:=h.lt f;rw[<-xK h n,u];generalize a:(r[i]+l.length-1)%l.length=p at *;have s:sy (aO l r) i=sy l p:=by rw[qB f,a]
  unfold lfL;rw[s];rw[jG (g:=λq=>decide (sy l q<sy l p)) (h:=λq=>decide (sy l q=sy l p)&&gS l (q+1) (p+1))]
  ·congr 1
   ·unfold aN;rw[(oA h).countP_eq];have e:=bb9 (List.countP λx=>decide (x<sy l p)) (lQ l);rw[aM0]at e;exact e.symm
   ·unfold cnt aO;rw[<-aQ8,aM0,Cl h f,(vD l.length).countP_eq,aM0];refine aL6 (λq b=>?_);have b:=aR8.1 b;simp only[Function.comp,Dq b,aJ7,bb7,bc3,fR];rw[and_comm];refine and_congr_right (λe=>?_);by_cases v:r[i]=0
    ·rw[v,aY0,aW1 (show l.length-1<l.length by omega)]at a;subst a;rw[c.last]at e;obtain rfl:=c.zero b e;rw[v,show l.length-1+1=l.length by omega,Nat.mod_self];exact⟨λh=>absurd h sufLt.irrefl,λh=>absurd h sufLt.irrefl⟩
    ·have a:p=r[i]-1:=by
      rw[<-a,show r[i]+l.length-1=(r[i]-1)+l.length by omega,aU4];exact aW1 E
     subst a;have A:=c.rest (r[i]-1) E;have o:q+1<l.length:=by
      rcases aV8 (q+1) l.length with k | k
      ·exact k
      ·obtain rfl:q=l.length-1:=E;rw[c.last]at e;omega
     rw[aW1 o,show r[i]-1+1=r[i] by omega]
  ·intro q b;rw[aJ8,fR,jC];simp[fR]
  ·intro q b;simp only[aJ7,bc3];omega
 exact⟨by rw[d];exact n,by simp only[d];exact u⟩
theorem xP(b:IsSyms l)(h:IsRows l r):∃g:0<r.length,r[0]=l.length-1:=by
 have i:=b.pos;obtain⟨j,d,c⟩:=h.find (show l.length-1<l.length by omega);have :j=0:=by
  rw[<-xK h d,c,aL8];intro q a e;have a:=aR8.1 a;rw[fR,jC,b.last]at e;have :=b.nn q a;rcases e with e | ⟨e,f⟩
  ·omega
  ·obtain rfl:=b.zero a e;exact sufLt.irrefl f
 subst this;exact⟨d,c⟩
def bU(m:List Int):Nat->Nat
 | 0=>0
 | k+1=>lfL m (bU m k)
theorem mX(a:IsSyms l)(h:IsRows l r):∀{k:Nat},k<l.length->∃f:bU (aO l r) k<r.length,r[bU (aO l r) k]=l.length-1-k
 | 0,_=>xP a h
 | k+1,f=>by
  obtain⟨b,c⟩:=mX a h (show k<l.length by omega);obtain⟨d,e⟩:=Fl a h b;refine⟨d,?_⟩;show r[lfL (aO l r) (bU (aO l r) k)]=_;rw[e,c,show l.length-1-k+l.length-1=(l.length-1-(k+1))+l.length by omega,aU4];exact aW1 E
theorem Yf(c:IsSyms l)(h:IsRows l r){k:Nat}(d:k+1<l.length):sy (aO l r) (bU (aO l r) k)=sy l (l.length-2-k):=by
 obtain⟨a,b⟩:=mX c h (show k<l.length by omega);rw[qB a,b,show l.length-1-k+l.length-1=(l.length-2-k)+l.length by omega,aU4,aW1 E]
theorem Ye(a:IsSyms l)(h:IsRows l r):sy (aO l r) (bU (aO l r) (l.length-1))=0:=by
 have d:=a.pos;obtain⟨b,c⟩:=mX a h (show l.length-1<l.length by omega);rw[qB b,c,aW9,aY0,aW1 E];exact a.last
theorem ak5(a:IsSyms l)(h:IsRows l r){j k:Nat}(c:j<l.length)(d:k<l.length)(f:j≠k):bU (aO l r) j≠bU (aO l r) k:=by
 intro e;obtain⟨g,b⟩:=mX a h c;obtain⟨i,n⟩:=mX a h d;simp only[e]at b;omega
end
def aA(t:List Int):List Int:=t.map (· +1)++[0]
theorem aE(t:List Int):(aA t).length=t.length+1:=by simp[aA]
theorem kH{t:List Int}{i:Nat}(h:i<t.length):sy (aA t) i=t[i]+1:=by
 unfold sy aA;rw[List.getElem?_append_left (by simpa using h)];simp[h]
theorem rM(t:List Int):sy (aA t) t.length=0:=by unfold sy aA;simp
def aS(t:List Int):Prop:=∀x∈t,0<=x/\x<256
theorem dE{t:List Int}(h:aS t):IsSyms (aA t):=by
 refine⟨by rw[aE];omega,by rw[aE];exact rM t,λi a=>?_⟩;rw[aE]at a;rw[kH E];have :=h _ (aP0 (show i<t.length by omega));omega
theorem mV{t:List Int}(h:aS t):∀x∈aA t,0<=x/\x<257:=by
 intro x a;unfold aA at a;rcases aR0.1 a with k | k
 ·obtain⟨y,b,rfl⟩:=aR4.1 k;have :=h y b;omega
 ·simp at k;omega
theorem Wt{t:List Int}(h:aS t):cnt (aA t) 0=1:=by
 unfold cnt aA;rw[aL5,aM0];have :t.countP ((λx=>x==0)∘λx=>x+1)=0:=by
  rw[aL8];intro x a;have :=h x a;simp;omega
 rw[this];rfl
def IsLast(t m:List Int):Prop:=aS t/\∃r,IsRows (aA t) r/\aO (aA t) r=m
section
variable {t m:List Int}
theorem IsLast.len (h:IsLast t m):m.length=t.length+1:=by
 obtain⟨_,r,a,rfl⟩:=h;rw[fX,a.len,aE]
theorem IsLast.perm (h:IsLast t m):m.Perm (aA t):=by
 obtain⟨_,r,a,rfl⟩:=h;exact oA a
theorem IsLast.range (h:IsLast t m):∀x∈m,0<=x/\x<257:=λx a=>mV h.1 x (h.perm.mem_iff.1 a)
theorem IsLast.zero (h:IsLast t m):cnt m 0=1:=by
 rw[<-Wt h.1];exact h.perm.countP_eq _
theorem IsLast.sym (h:IsLast t m){k:Nat}(c:k<t.length):sy m (bU m k)=t[t.length-1-k]+1:=by
 obtain⟨a,r,b,rfl⟩:=h;rw[Yf (dE a) b (by rw[aE];omega),aE,show t.length+1-2-k=t.length-1-k by omega,kH E]
theorem IsLast.stop (h:IsLast t m):sy m (bU m t.length)=0:=by
 obtain⟨a,r,b,rfl⟩:=h;have :=Ye (dE a) b;rwa[aE,aU5]at this
theorem IsLast.ne (h:IsLast t m){j k:Nat}(d:j<=t.length)(e:k<=t.length)(a:j≠k):bU m j≠bU m k:=by
 obtain⟨b,r,c,rfl⟩:=h;exact ak5 (dE b) c (by rw[aE];omega) (by rw[aE];omega) a
theorem IsLast.same {b:List Int}(h:IsLast t m)(c:IsLast t b):m=b:=by
 obtain⟨_,r,d,rfl⟩:=h;obtain⟨_,e,a,rfl⟩:=c;rw[gI d a]
end
section
open Go.RowKit
section
variable {P:Program}{md:Region.Mode}{l:List Oper}{Q:Exit->Act->World->Prop}{S:World->Prop}{i:Nat}{oi:Oper}{fuel:Nat}{listed:Array Bool}{a:Act}{w:World}
theorem dH(hi:(l.drop i).head?=some oi):l.toArray[i]? =some oi:=by
 rw[List.head?_drop]at hi;simpa using hi
theorem aG{id:Nat}(S:World->Prop)(hm:P.follows .mixedOrders=true)(hS:S w.drew)(h:S w.drew->wpAnyH P .any l.toArray (NoPanic Q) S l.length (Array.replicate l.length false) a w.drew):(Code.region id l.toArray true).wp P Q a w:=by
 refine wp_region_noPanic (wp_region_held_drew hm hS ?_);rw[aT3];exact h
theorem bG{v:Value}(hi:(l.drop i).head?=some oi)(hk:(Region.noSelect l.toArray&&Region.free md l.toArray listed i&&(Region.ready md l.toArray listed).contains i)=true)(hw:Region.wanted oi (yielded l.toArray a.tmps)=true)(hS:S w)(hy:∀w,S w->(execOp a.eval oi).run P w= .ok (.value v) w)(h:wpAnyH P md l.toArray (NoPanic Q) S fuel (listed.setIfInBounds i true) (a.put oi.dst v) w):wpAnyH P md l.toArray (NoPanic Q) S (fuel+1) listed a w:=by
 simp only[aJ7]at hk;exact wpAnyH_take (dH hi) hk.1.1 hk.1.2 hk.2 (λ_ _ _ h=>h) (Or.inl ⟨hw,hy⟩) hS h
theorem as5(hi:(l.drop i).head?=some oi)(hr:Region.ready md l.toArray listed=[i])(hw:Region.wanted oi (yielded l.toArray a.tmps)=true)(h:∀K:Act->World->Prop,Shut (∀a w,S w->(S w->wpAnyH P md l.toArray (NoPanic Q) S fuel (listed.setIfInBounds i true) a w)->K a w)->Oper.wp P oi a w K (NoPanic Q)):wpAnyH P md l.toArray (NoPanic Q) S (fuel+1) listed a w:=by
 refine be2 hr (by simp) (aI8 (dH hi) (λK hK=>?_) aI9);rw[bd0 hw];exact h K hK
theorem oC{j:Nat}{oj:Oper}(hi:(l.drop i).head?=some oi)(hj:(l.drop j).head?=some oj)(hr:Region.ready md l.toArray listed=[i,j])(hwi:Region.wanted oi (yielded l.toArray a.tmps)=true)(hwj:Region.wanted oj (yielded l.toArray a.tmps)=true)(h1:∀K:Act->World->Prop,Shut (∀a w,S w->(S w->wpAnyH P md l.toArray (NoPanic Q) S fuel (listed.setIfInBounds i true) a w)->K a w)->Oper.wp P oi a w K (NoPanic Q))(h2:∀K:Act->World->Prop,Shut (∀a w,S w->(S w->wpAnyH P md l.toArray (NoPanic Q) S fuel (listed.setIfInBounds j true) a w)->K a w)->Oper.wp P oj a w K (NoPanic Q)):wpAnyH P md l.toArray (NoPanic Q) S (fuel+1) listed a w:=by
 refine be2 hr (by simp) (aI8 (dH hi) (λK hK=>?_) (aI8 (dH hj) (λK hK=>?_) aI9))
 ·rw[bd0 hwi];exact h1 K hK
 ·rw[bd0 hwj];exact h2 K hK
theorem as4(hr:Region.ready md l.toArray listed=[])(h:Q .normal a w)(n:Nat):wpAnyH P md l.toArray (NoPanic Q) S n listed a w:=
 wpAnyH_done hr (NoPanic.normal h) n
theorem rt{v:Value}{a':Act}(i:Nat){oi:Oper}(hS:S w)(h:wpAnyH P md l.toArray (NoPanic Q) S fuel (listed.setIfInBounds i true) a' w)(hi:(l.drop i).head?=some oi:=by rfl)(hk:(Region.noSelect l.toArray&&Region.free md l.toArray listed i&&(Region.ready md l.toArray listed).contains i)=true:=by kernel_rfl)(hw:Region.wanted oi (yielded l.toArray a.tmps)=true:=by rfl)(hy:∀w,S w->(execOp a.eval oi).run P w= .ok (.value v) w:=by (intro w hSw;(try dsimp only at hSw);go_simp;all_goals with_reducible rfl))(hp:a.put oi.dst v=a':=by ((try simp only[Act.put,aT0,aT1,List.set_cons_succ]);rfl)):wpAnyH P md l.toArray (NoPanic Q) S (fuel+1) listed a w:=by
 subst hp;exact bG hi hk hw hS hy h
end

theorem pt:(∀(a:Act) (d:Tmp) (v:Value),a.put (some d) v={a with tmps:=a.tmps.setIfInBounds d v})/\(∀(a:Act) (v:Value),a.put none v=a)/\(∀(l:List Value) (i:Nat) (v:Value),l.toArray.setIfInBounds i v=(l.set i v).toArray)/\(∀(l:List Bool) (i:Nat) (v:Bool),l.toArray.setIfInBounds i v=(l.set i v).toArray)/\(∀(x:Value) (l:List Value) (v:Value),(x::l).set 0 v=v::l)/\(∀(x:Bool) (l:List Bool) (v:Bool),(x::l).set 0 v=v::l)/\(∀(x:Value) (l:List Value) (i:Nat) (v:Value),(x::l).set (i+1) v=x::l.set i v)/\(∀(x:Bool) (l:List Bool) (i:Nat) (v:Bool),(x::l).set (i+1) v=x::l.set i v):=⟨λ_ _ _=>rfl,λ_ _=>rfl,λ_ _ _=>List.setIfInBounds_toArray ..,λ_ _ _=>List.setIfInBounds_toArray ..,λ_ _ _=>rfl,λ_ _ _=>rfl,λ_ _ _ _=>rfl,λ_ _ _ _=>rfl⟩
section
variable {P:Program}{md:Region.Mode}{l:List Oper}{Q:Exit->Act->World->Prop}{S:World->Prop}{oi:Oper}{fuel:Nat}{listed:Array Bool}{a:Act}{w:World}
theorem rg(i:Nat){oi:Oper}(h:∀K:Act->World->Prop,Shut (∀a w,S w->(S w->wpAnyH P md l.toArray (NoPanic Q) S fuel (listed.setIfInBounds i true) a w)->K a w)->Oper.wp P oi a w K (NoPanic Q))
  (hi:(l.drop i).head?=some oi:=by rfl) (hr:Region.ready md l.toArray listed=[i]:=by kernel_rfl) (hw:Region.wanted oi (yielded l.toArray a.tmps)=true:=by rfl):wpAnyH P md l.toArray (NoPanic Q) S (fuel+1) listed a w:=as5 hi hr hw h
theorem rz(h:Q .normal a w){n:Nat}(hr:Region.ready md l.toArray listed=[]:=by kernel_rfl):wpAnyH P md l.toArray (NoPanic Q) S n listed a w:=as4 hr h n
end
section
variable {P:Program}{md:Region.Mode}{l:List Oper}{Q:Exit->Act->World->Prop}{S:World->Prop}{w:World}{f:Nat}{b:Array Bool}{a:Act}
def Tj(P:Program)(md:Region.Mode)(l:List Oper)(S:World->Prop)(i:Nat)(b:Array Bool)(a d:Act):Prop:=∀(Q:Exit->Act->World->Prop) (w:World) (f:Nat),S w->wpAnyH P md l.toArray (NoPanic Q) S f (b.setIfInBounds i true) d w->wpAnyH P md l.toArray (NoPanic Q) S (f+1) b a w
theorem Tj.mk {i:Nat}{d:Act}{v:Value}{oi:Oper}(hi:(l.drop i).head?=some oi:=by rfl)(hk:(Region.noSelect l.toArray&&Region.free md l.toArray b i&&(Region.ready md l.toArray b).contains i)=true:=by kernel_rfl)
  (hw:Region.wanted oi (yielded l.toArray a.tmps)=true:=by rfl) (hy:∀w,S w->(execOp a.eval oi).run P w= .ok (.value v) w:=by (intro w hSw;(try dsimp only at hSw);go_simp;all_goals with_reducible rfl))
  (hp:a.put oi.dst v=d:=by ((try simp only[Act.put,List.setIfInBounds_toArray,List.set_cons_zero,List.set_cons_succ]);rfl)):Tj P md l S i b a d:=λ_ _ _ hS h=>by
 subst hp;exact bG hi hk hw hS hy h
theorem rU{d e:Act}(i j:Nat)(hS:S w)(h:wpAnyH P md l.toArray (NoPanic Q) S f ((b.setIfInBounds i true).setIfInBounds j true) e w)(t:Tj P md l S i b a d:=by exact Tj.mk)(u:Tj P md l S j (b.setIfInBounds i true) d e:=by exact Tj.mk):wpAnyH P md l.toArray (NoPanic Q) S (f+1+1) b a w:=t _ _ _ hS (u _ _ _ hS h)
theorem rV{d e x y:Act}(i j k m:Nat)(hS:S w)(h:wpAnyH P md l.toArray (NoPanic Q) S f ((((b.setIfInBounds i true).setIfInBounds j true).setIfInBounds k true).setIfInBounds m true) y w)(t:Tj P md l S i b a d:=by exact Tj.mk)(u:Tj P md l S j (b.setIfInBounds i true) d e:=by exact Tj.mk)(p:Tj P md l S k ((b.setIfInBounds i true).setIfInBounds j true) e x:=by exact Tj.mk)(q:Tj P md l S m (((b.setIfInBounds i true).setIfInBounds j true).setIfInBounds k true) x y:=by exact Tj.mk):wpAnyH P md l.toArray (NoPanic Q) S (f+1+1+1+1) b a w:=rU i j hS (rU k m hS h p q) t u
end
structure RkAt (w:World) (bw bn br g cap wide:Nat) (rk:List Int):Prop where
 wide:w.cell? bw=wide
 n:w.cell? bn=rk.length
 row:w.cell? br=some (.slice g rk.length cap)
 rd:∀i,i<rk.length->w.cell? (g,i)=some (.int .i64 (sy rk i))
theorem Bx{w:World}{k f j g c a:Nat}{b:List Int}(h:RkAt w k f j g c a b)(i:Nat)(s:i<b.length)(t:b.length<=1000000000)(u:a<=1000000000):Calls prog 93 #[i, .pointer k, .pointer f, .pointer j] w λe n=>e= .returned (sy b (i+a):Int)/\w=n:=by
 obtain⟨o,p,q,d⟩:=h;by_cases m:i+a<b.length
 ·have r:=d (i+a) m;clear d;generalize sy b (i+a)=x at *;have l:decide ((i:Int)+(a:Int)<(b.length:Int))=true:=by simp;omega
  go_in;go_wp2;go_ret;exact Er
 ·have e:sy b (i+a)= -1:=eO E;rw[e];clear d e;have l:decide ((i:Int)+(a:Int)<(b.length:Int))=false:=by simp;omega
  go_in;go_wp2;go_ret;exact Er
theorem Vk{P:Program}{f:FuncId}{a:Array Value}{w:World}{n:Nat}{v:Value}(h:Calls P f a (w.drewN n) λe g=>e= .returned v/\w.drewN n=g):Calls P f a (w.drewN n) λe b=>e= .returned v/\∃m,b=w.drewN m:=
 h.mono λ_ _ ⟨c,d⟩=>⟨c,n,d.symm⟩
theorem sS{P:Program}{f:FuncId}{b:Array Value}{w:World}{a n:Nat}{v:Value}(h:Calls P f b (w.drewN (a+n)) λe i=>e= .returned v/\w.drewN (a+n)=i):Calls P f b (w.drewN (a+n)) λe c=>e= .returned v/\∃m,c=w.drewN (a+m):=
 h.mono λ_ _ ⟨d,g⟩=>⟨d,n,g.symm⟩
theorem RkAt.drewN {w:World}{e c d g b a:Nat}{f:List Int}(h:RkAt w e c d g b a f)(n:Nat):RkAt (w.drewN n) e c d g b a f:=⟨h.wide,h.n,h.row,h.rd⟩
theorem Hp{w:World}{p m j t g r c:Nat}{d:List Int}(h:RkAt w p m j g r c d)(R:w.cell? t=some (.func (.func 93) #[] #[.pointer p, .pointer m, .pointer j]))(a b:Nat)(z:a<d.length)(A:b<d.length)(B:d.length<=1000000000)(C:c<=1000000000)(k:∀i,-1<=sy d i/\sy d i<=1000000000):Calls prog 94 #[a,b, .pointer j, .pointer t] w λe l=>e= .returned (iA d c a b:Int)/\∃n,l=w.drewN n:=by
 have W:=h.rd a z;have X:=h.rd b A;have Y:=h.row;have D:Hid (∀n,Calls prog 93 #[a, .pointer p, .pointer m, .pointer j] (w.drewN n) λe l=>e= .returned (sy d (a+c):Int)/\w.drewN n=l):=λn=>Bx (h.drewN n) a z B C;have F:Hid (∀n,Calls prog 93 #[b, .pointer p, .pointer m, .pointer j] (w.drewN n) λe l=>e= .returned (sy d (b+c):Int)/\w.drewN n=l):=λn=>Bx (h.drewN n) b A B C;obtain⟨H,I⟩:=k a;obtain⟨J,K⟩:=k b;obtain⟨L,M⟩:=k (a+c);obtain⟨N,O⟩:=k (b+c);have s:Hid (iA d c a b=if sy d a=sy d b then sy d (a+c)-sy d (b+c)else sy d a-sy d b):=rfl;generalize sy d a=x at *;generalize sy d b=y at *;generalize sy d (a+c)=u at *;generalize sy d (b+c)=v at *;clear h k;have S:(0:Int)<=(a:Int):=E;have T:(a:Int)<(d.length:Int):=E;have U:(0:Int)<=(b:Int):=E;have V:(b:Int)<(d.length:Int):=E;have G:IntKind.i64.wrap (x-y)=x-y:=aK8 _ E;by_cases f:x=y
 ·have e:(x != y)=false:=by simp[f]
  have q:Hid (iA d c a b=u-v):=by show _=_;rw[s.o,bd0 f]
  have P:=θ f;have Q:IntKind.i64.wrap (u-v)=u-v:=aK8 _ E;clear f;go_in;go_wp2;go_quiet (fail);go_wp2;go_quiet ((go_at_call 93;first | with_reducible exact sS (D.o _) | with_reducible exact sS (F.o _)));go_wp2;go_ret;exact⟨bA q.o.symm,_,bb0 _ _ _⟩
 ·have e:(x != y)=true:=by simp[f]
  have q:Hid (iA d c a b=x-y):=by show _=_;rw[s.o,bc9 f]
  clear f;go_in;go_wp2;go_quiet (fail);go_wp2;go_quiet (fail);go_wp2;go_ret;exact⟨bA q.o.symm,_,bb0 _ _ _⟩
section
variable {P:Program}{md:Region.Mode}{ops:Array Oper}{Q:Exit->Act->World->Prop}
def ordB(ops:Array Oper):Bool:=(List.range ops.size).all (λi=>(ops[i]?.elim true (λo=>o.after.all (λe=>decide (e.on<i)))))
theorem all_up(j:ordB ops=true){l:Array Bool}(n:l.size=ops.size)(k:Region.ready md ops l=[]):∀i,i<ops.size->l.getD i false=true:=by
 intro i;induction i using Nat.strongRecOn with
 | _ i m=>
  intro d;cases h:l.getD i false with
  | true=>rfl
  | false=>
   have g:l.getD i true=false:=by
    have e:i<l.size:=E;simp[e]at h⊢;exact h
   obtain⟨o,b⟩:∃o,ops[i]? =some o:=⟨_,Array.getElem?_eq_getElem d⟩;have a:=List.all_eq_true.1 j i (aR8.2 d);rw[b]at a;have :i∈Region.ready md ops l:=bd3.2 ⟨g,o,b,λe f _=>by
    have c:=(Array.all_eq_true'.1 a) e f
    have c:e.on<i:=by simpa using c
    exact m e.on c E⟩
   rw[k]at this;cases this
theorem Rk(I:Array Bool->Act->World->Prop)(r:∀l a w,I l a w->l.size=ops.size)(q:∀l a w i,I l a w->i∈Region.ready md ops l->wpOp P ops Q i (λj o=>I (l.setIfInBounds i true) j o) a w)(m:∀l a w,I l a w->Region.ready md ops l=[]->Q .normal a w):∀(n:Nat) (l:Array Bool) (a:Act) (w:World),l.toList.countP (λb=> !b)<=n->I l a w->wpAny P md ops Q n l a w
 | 0,l,a,w,hn,h=>by
  have g:Region.ready md ops l=[]:=by
   rw[List.eq_nil_iff_forall_not_mem];intro i f;obtain⟨d,_⟩:=bd3.1 f;by_cases c:i<l.size
   ·have :false∈l.toList:=by
     have e:l[i]=false:=by simpa[c]using d
     rw[<-e];exact Array.getElem_mem_toList c
    have :=(List.countP_pos_iff (p:=λb=> !b)).2 ⟨false,this,rfl⟩;omega
   ·simp[c]at d
  exact⟨g,m l a w h g⟩
 | n+1,l,a,w,hn,h=>by
  refine⟨λg=>m l a w h g,λi f=>wpOp_mono (λj o k=>Rk I r q m n _ j o ?_ k) (q l a w i h f)⟩;obtain⟨d,_⟩:=bd3.1 f;have c:i<l.size:=by
   refine Nat.lt_of_not_le (λc=>?_);simp[Nat.not_lt.2 c]at d
  have e:l.toList[i]=false:=by simpa[c]using d
  have s:=(List.countP_pos_iff (p:=λb=> !b)).2 ⟨false,by rw[<-e];exact List.getElem_mem (by simpa using c),rfl⟩;rw[Array.toList_setIfInBounds,List.countP_set (by simpa using c),e];simp only[Bool.not_false,Bool.not_true,bd1,Bool.false_eq_true,bc8];omega
theorem mU{l:List Oper}{i:Nat}{b:Oper}{J:Act->World->Prop}{a:Act}{w:World}(d:(l.drop i).head?=some b)(e:Region.wanted b (yielded l.toArray a.tmps)=true)(h:∀K:Act->World->Prop,Shut (∀a w,J a w->K a w)->Oper.wp P b a w K Q):wpOp P l.toArray Q i J a w:=by
 refine wpOp_step (dH d) (λK c=>?_);rw[bd0 e];exact h K c
theorem as6{q:Nat}{l:List Oper}{a:Act}{w:World}(I:Array Bool->Act->World->Prop)(k:P.follows .mixedOrders=true)(d:∀c a w,I c a w->c.size=l.length)(f:I (Array.replicate l.length false) a w.drew)(o:∀c a w i,I c a w->i∈Region.ready .any l.toArray c->wpOp P l.toArray (NoPanic Q) i (λe r=>I (c.setIfInBounds i true) e r) a w)(j:∀c a w,I c a w->(∀i,i<l.length->c.getD i false=true)->Q .normal a w)(m:ordB l.toArray=true):(Code.region q l.toArray true).wp P Q a w:=by
 refine wp_region_noPanic (wp_region_any k (Rk I (λc a w h=>(d c a w h).trans (aT3).symm) o (λc a w h n=>NoPanic.normal (j c a w h (λi s=>all_up m ((d c a w h).trans (aT3).symm) n i (by rwa[aT3])))) _ _ _ _ ?_ f));rw[aT3];have g:=aL9 (p:=λb=> !b) (l:=(Array.replicate l.length false).toList);simpa using g
end
def aI(f:Nat->Value)(n:Nat):List Value:=(List.range n).map f
theorem dP{f:Nat->Value}{n i:Nat}(h:i<n):(aI f n)[i]? =some (f i):=by simp[aI,h]
theorem cW(f:Nat->Value)(n:Nat):(aI f n).length=n:=by simp[aI]
theorem vM{f:Nat->Value}{n s:Nat}(v:Value):(aI f n).set s v=aI (λi=>if i=s then v else f i) n:=by
 apply aM9;intro i;rw[aO5];by_cases a:i<n
 ·rw[dP a,dP a,cW];by_cases e:s=i
  ·subst e;simp[a]
  ·rw[bc9 e,bc9 (λh=>e h.symm)]
 ·rw[aO1 (by rw[cW];omega),aO1 (by rw[cW];omega),cW];split
  ·rw[bc9 E]
  ·rfl
theorem cY{f g:Nat->Value}{n:Nat}(h:∀i,i<n->f i=g i):aI f n=aI g n:=by
 apply aM9;intro i;by_cases a:i<n
 ·rw[dP a,dP a,h i a]
 ·rw[aO1 (by rw[cW];omega),aO1 (by rw[cW];omega)]
theorem kJ{w:World}{Q n i:Nat}{f:Nat->Value}{T:TypeId}(h:w.heap[Q]? =some (.cells (aI f n).toArray T (0,0)))(a:i<n):w.cell? (Q,i)=some (f i):=by
 rw[bb8 w Q i _ _ _ h,aO7,dP a]
theorem pP{w:World}{Q n s:Nat}{f:Nat->Value}{T:TypeId}(h:w.heap[Q]? =some (.cells (aI f n).toArray T (0,0)))(v:Value):(w.setCell (Q,s) v).heap[Q]? =some (.cells (aI (λi=>if i=s then v else f i) n).toArray T (0,0)):=by
 have a:=bc7 w Q s _ _ v h;rw[aT0,vM]at a;exact a
theorem dX{B:Nat}{w a:World}(h:Below B w a)(c:B<=a){Q s:Nat}(d:B<=Q)(u:Value):Below B w (a.setCell (Q,s) u):=
 h.trans (((Chg.refl (S:=λk=>k=Q)).setCell (Q,s) (Ei rfl) u).below (λb e=>by rw[e];exact d) c)
theorem Pd{B:Nat}{w a:World}(h:Below B w a)(n:Nat):Below B w (a.drewN n):=⟨h.os,h.tape,h.output,h.size,h.block⟩
theorem aT{w b:World}{Q:Nat}{o:Obj}(h:Below w w b)(a:w.heap[Q]? =some o):b.heap[Q]? =some o:=
 (h.block Q (aJ2.1 a).1).trans a
theorem aB(w:World)(o:Obj):Below w w (w.alloc o):=(aJ6 _ _).alloc (aV3 _) _
theorem sO(z:Value)(n:Nat):madeCells #[z] n=(aI (λ_=>z) n).toArray:=by
 apply Array.ext
 ·simp[madeCells,aI]
 ·intro i c d;have b:∀m,m%1=0:=λm=>E;simp[madeCells,aI,b]
theorem xS{P:Program}{t e:TypeId}{z:Value}{b:Nat}(c:(P.info? e).map (λi=>(i.zero,i.size,i.bytes))=some (some z,1,b))(o:P.underlying t=some (.slice e))(p:z.cells=#[z])(n:Nat)(h:(b:Int)*(n:Int)<=281474976710656)(m:n<=maxLen)(w:World):(Instr.makeSlice t (.int .i64 (n:Int)) (.int .i64 (n:Int))).run P w= .ok (.slice w n n) (w.alloc (.cells (aI (λ_=>z) n).toArray e)):=by
 obtain⟨i,k,f,g,d⟩:=bd2 c;have j:=run_make (P:=P) w t e i z o k f .i64 .i64 (n:Int) (n:Int) E E (by rw[d];exact h) (by unfold maxLen at m;omega);rw[j,p,g,aK5,aW5,sO]
theorem tT{w:World}{q n b:Nat}{f:Nat->Value}{e:TypeId}(h:w.heap[q]? =some (.cells (aI f n).toArray e (0,0)))(c:b<=q)(d:n<=maxLen):w.ownsRow b e 1 (.slice q n n) n (aI f n):=
 ⟨by rw[cW];omega, .inr ⟨q,n,(aI f n).toArray,rfl,c,h,aV3 _,d,by simp[cW],by rw[aW5];exact aT9 (by rw[cW];exact aV3 _)⟩⟩
theorem Tryz.infoIntG:(prog.info? 3).map (λi=>(i.zero,i.size,i.bytes))=some (some (.int .i64 0),1,8):=Ek
theorem xE(n:Nat)(h:n<=1000000000)(w:World):(Instr.makeSlice 36 (.int .i64 (n:Int)) (.int .i64 (n:Int))).run prog w= .ok (.slice w n n) (w.alloc (.cells (aI (λ_=> .int .i64 0) n).toArray 3)):=
 xS Tryz.infoIntG Tryz.underlying36 rfl n E (by unfold maxLen;omega) w
theorem kS{w:World}{b:Nat}{e:TypeId}{g d n:Nat}{f:Nat->Value}(h:w.ownsRow b e 1 (.slice g n d) n (aI f n)){j:Nat}(m:j<n):w.cell? (g,j)=some (f j):=by
 obtain⟨q,k,p,_,_,_,_,o,_⟩:=cS h E;injection p with c _ _;injection c with c;injection c with c _ _
 subst c;rw[o j m,dP m]
theorem xI{w:World}{b:Nat}{e:TypeId}{g d n:Nat}{p:List Value}(h:w.ownsRow b e 1 (.slice g n d) n p)(j:Nat):w.frozen? (g,j)=false:=by
 rcases h.2 with ⟨h,_⟩ | ⟨q,k,f,o,_,m,_⟩
 ·cases h
 ·injection o with c _ _;injection c with c;injection c with c _ _
  subst c;exact bc4 w g j f e m
theorem Av{w:World}{b:Nat}{e:TypeId}{g c n:Nat}{f:Nat->Value}(h:w.ownsRow b e 1 (.slice g n c) n (aI f n))(j:Nat)(u:Value):(w.setCell (g,j) u).ownsRow b e 1 (.slice g n c) n (aI (λi=>if i=j then u else f i) n):=by
 have :=yT h j u;rwa[vM]at this
theorem aW{B:Nat}{w b:World}(h:Below B w b)(n:Nat):Below B w (b.drewN n):=⟨h.os,h.tape,h.output,h.size,h.block⟩
section
variable {P:Program}{md:Region.Mode}{l:List Oper}{Q:Exit->Act->World->Prop}{S:World->Prop}{i:Nat}{oi:Oper}{fuel:Nat}{listed:Array Bool}{a:Act}{w:World}{rs:List Nat}
theorem iP(c:(l.drop i).head?=some oi)(e:Region.wanted oi (yielded l.toArray a.tmps)=true)(h:∀K:Act->World->Prop,Shut (∀a w,S w->(S w->wpAnyH P md l.toArray (NoPanic Q) S fuel (listed.setIfInBounds i true) a w)->K a w)->Oper.wp P oi a w K (NoPanic Q))(d:AllReadyH P md l.toArray (NoPanic Q) S fuel listed a w rs):AllReadyH P md l.toArray (NoPanic Q) S fuel listed a w (i::rs):=
 aI8 (dH c) (λK b=>by rw[bd0 e];exact h K b) d
end
end
theorem Pf{m:List Int}{a:Nat}(h:a<m.length):cnt (m.take a) (sy m a)<cnt m (sy m a):=by
 have e:m=m.take a++m[a]::m.drop (a+1):=by
  rw[List.getElem_cons_drop,aT6]
 have b:cnt m (sy m a)=cnt (m.take a) (sy m a)+cnt (m[a]::m.drop (a+1)) (sy m a):=by
  conv=>lhs;rw[show cnt m (sy m a)=cnt (m.take a++m[a]::m.drop (a+1)) (sy m a) by rw[<-e]]
  unfold cnt;rw[aL5]
 have c:0<cnt (m[a]::m.drop (a+1)) (sy m a):=by
  unfold cnt;rw[aL7,gK h];simp
 omega
theorem Jz(m:List Int)(s:Int):aN m s+cnt m s<=m.length:=by
 unfold aN cnt;induction m with
 | nil=>simp
 | cons x m c=>
  rw[aL7,aL7,aP4];by_cases a:x<s
  ·have :¬x=s:=E;simp[a,this];omega
  ·by_cases b:x=s
   ·subst b;simp;omega
   ·simp[a,b];omega
theorem Zm{m:List Int}{a:Nat}(h:a<m.length):lfL m a<m.length:=by
 have :=Pf h;have :=Jz m (sy m a);unfold lfL;omega
theorem Ad{m:List Int}(h:0<m.length):∀k,bU m k<m.length
 | 0=>h
 | k+1=>Zm (Ad h k)
theorem zF{m:List Int}{s:Nat}:aN m ((s+1:Nat):Int)=aN m (s:Int)+cnt m (s:Int):=by
 unfold aN cnt;refine jG (λx _=>?_) (λx _=>?_)
 ·by_cases b:x<(s:Int)
  ·simp[b];omega
  ·by_cases a:x=(s:Int)
   ·subst a;simp;omega
   ·have :¬x<((s+1:Nat):Int):=E;simp only[b,a,this,bb7,decide_false,Bool.or_false];simp[a]
 ·simp;omega
theorem kM{m:List Int}(a:∀x∈m,0<=x):∀s:Nat,bl (Tl.of m).N s=(aN m (s:Int):Int)
 | 0=>by
  have :aN m ((0:Nat):Int)=0:=by
   unfold aN;rw[aL8];intro x b;have :=a x b;simp;omega
  rw[this];rfl
 | s+1=>by
  rw[zF];show bl (Tl.of m).N s+(Tl.of m).N s=_;rw[kM a s];show _+((cnt m (s:Int):Nat):Int)=_;omega
def iE(m:List Int)(j i:Nat):Nat:=(List.range j).countP λx=>bU m x==i
theorem Vz(m:List Int)(j i:Nat):iE m (j+1) i=iE m j i+(if bU m j=i then 1 else 0):=by
 unfold iE;rw[aS9,aL5,List.countP_singleton];simp
theorem ae2{m:List Int}{j i:Nat}(h:0<iE m j i):∃x,x<j/\bU m x=i:=by
 unfold iE at h;obtain⟨x,b,a⟩:=List.countP_pos_iff.1 h;exact⟨x,List.mem_range.1 b,by simpa using a⟩
theorem at3(m:List Int)(j i:Nat):iE m j i<=j:=by
 unfold iE;have :=aL9 (p:=λx=>bU m x==i) (l:=List.range j);simpa using this
def eL(m:List Int):List Int:=(List.range (m.length-1)).map λi=>sy m (bU m (m.length-2-i))-1
theorem Eg(m:List Int):(eL m).length=m.length-1:=by simp[eL]
theorem vL{m:List Int}{i:Nat}(h:i<m.length-1):(eL m)[i]? =some (sy m (bU m (m.length-2-i))-1):=by simp[eL,h]
theorem IsLast.text {t m:List Int}(h:IsLast t m):t=eL m:=by
 have d:=h.len;apply aM8
 ·rw[Eg];omega
 ·intro i c b;have e:=h.sym (k:=t.length-1-i) E;have a:=vL (m:=m) (i:=i) E;rw[aO0 b]at a;injection a with a
  rw[a,show m.length-2-i=t.length-1-i by omega,e];have :t.length-1-(t.length-1-i)=i:=E;simp only[this];omega
theorem Gy{f:Type}{P:f->Prop}:∀{l:List f},¬(∀x∈l,P x)->∃k,∃e:k<l.length,(∀i (d:i<k),P (l[i]'(E)))/\¬P l[k]
 | [],h=>absurd (λx b=>by cases b) h
 | a::l,h=>by
  by_cases c:P a
  ·have :¬ ∀x∈l,P x:=λm=>h (λx b=>by
    rcases aR1.1 b with rfl | b
    ·exact c
    ·exact m x b)
   obtain⟨k,e,g,j⟩:=Gy this;refine⟨k+1,by simpa using e,λi d=>?_,by simpa using j⟩;cases i with
   | zero=>exact c
   | succ i=>simpa using g i E
  ·exact⟨0,Es,λi d=>E,c⟩
section
open Go.RowKit
theorem jX{z:Value}(n:Nat):Builtin.zeroCells #[z] n=(List.replicate n z).toArray:=by
 apply Array.ext
 ·simp[Builtin.zeroCells]
 ·intro i b c;have a:∀m,m%1=0:=λm=>E;simp[Builtin.zeroCells,a]
theorem Dp{P:Program}(w:World)(c:Nat)(t it ty e:TypeId)(i:TypeInfo)(z:Value)(N:P.underlying t=some (.slice e))(x:P.underlying it=some (.int .i64))(M:P.info? e=some i)(W:i.zero=some z)(a:i.size=1)(s:i.bytes=1)(B:z.cells=#[z])(h1:z.oneCell'=true)(v:Value)(n:Nat)(C:List Value)(b:w.ownsRow c e 1 v n C)(m:Nat)(hm:n+m<=1000000)(H:c<=w):∃v' Z,(Builtin.append_ #[t,it] ty #[v,(m:Int)]).run P w= .ok v' Z/\Z.ownsRow c e 1 v' (n+m) (C++List.replicate m z)/\w.grownBy Z v.ownBlock:=by
 have V:IntKind.i64.wrap (m:Int)=m:=aK8 _ E;have X:¬((m:Int)<0):=E;have Y:¬(281474976710656<(m:Int)):=E;have o:(C++List.replicate m z).length=(n+m)*1:=by rw[aP3,b.1,aP9];omega
 have ho:∀u∈List.replicate m z,u.oneCell'=true:=λu hu=>by rw[(List.mem_replicate.1 hu).2];exact h1
 have r:∀(f:Nat),f<n+m->∀(O:Option Nat),
   (w.drew.alloc (.cells (C.toArray++(List.replicate m z).toArray++Builtin.zeroCells z.cells (grownCap w (n+m) f e-(n+m))) e)).ownsRow c e 1
    (.slice w (n+m) (grownCap w (n+m) f e)) (n+m) (C++List.replicate m z)/\
   w.grownBy (w.drew.alloc (.cells (C.toArray++(List.replicate m z).toArray++Builtin.zeroCells z.cells (grownCap w (n+m) f e-(n+m))) e)) O:=by
  intro f ho O;have S:=grownCap_ge w (n+m) f e;have I:grownCap w (n+m) f e<=maxLen:=grownCap_le_maxLen w (n+m) f e (by unfold maxLen;omega);refine⟨⟨o, .inr ⟨w.heap.size,_,_,rfl,H,bc6 w.drew _,S,I,?_,?_⟩⟩,⟨rfl,rfl,rfl,Es,λk T _=>aJ5 w.drew _ k T⟩⟩
  ·rw[B];simp only[Array.size_append,aT3,jX,b.1,aP9];omega
  ·simp only[Array.toList_append,aL1];rw[<-aL1,<-o];exact List.take_left
 rcases b.2 with ⟨rfl,rfl⟩ | ⟨g,d,q,rfl,Q,hg,U,I,L,y⟩
 ·have hx:C=[]:=List.eq_nil_of_length_eq_zero (by simpa using b.1);subst hx;by_cases h:m=0
  ·subst h;have K:IntKind.i64.wrap 0=0:=Ed;refine⟨.slice none 0 0,w,?_,bb2 w c e 1,⟨rfl,rfl,rfl,aV3 _,λ_ _ _=>rfl⟩⟩;simp[Builtin.append_,bd9 N,bd9 x,sizeOf,typeInfo,M,K,a,s,asInt,asIntOf]
  ·have p:=r 0 E (Value.ownBlock (.slice none 0 0));simp only[aY0,aS0,Array.empty_append]at p⊢;refine⟨_,_,?_,p.1,p.2⟩;have G:¬(9223372036854775807<(m:Int)):=E;have F:¬(281474976710656<Builtin.nextslicecap m 0):=by rw[nextslicecap_zero E];omega
   simp[Builtin.append_,bd9 N,bd9 x,sizeOf,typeInfo,zeroValue,M,W,V,a,s,X,Y,h,asInt,asIntOf,G,F,Question.forced,run_firstCells_none,newRow,grownCap,B,jX]
 ·by_cases l:n+m<=d
  ·have D:n*1+(List.replicate m z).length<=q.size:=by rw[aP9,L];omega
   have A:=run_storeCells_at P g (n*1) e (List.replicate m z) 0 q w hg (by simpa using D) ho;simp only[aU7,aW5]at A;refine⟨.slice g (n+m) d,_,?_,⟨o, .inr ⟨g,d,_,rfl,Q,setRow_heap w g q (q.toList.take n++List.replicate m z++q.toList.drop (n+(List.replicate m z).length)).toArray e (0,0) hg,l,I,?_,?_⟩⟩,⟨rfl,rfl,rfl,Es,λk _ T=>setRow_other w g k _ (λe=>T (by simp[Value.ownBlock,e]))⟩⟩
   ·by_cases h:m=0
    ·subst h;have K:IntKind.i64.wrap 0=0:=Ed;simp at A;simp[Builtin.append_,bd9 N,bd9 x,sizeOf,typeInfo,M,K,a,s,asInt,asIntOf,U,aI7,A]
    ·simp[Builtin.append_,bd9 N,bd9 x,sizeOf,typeInfo,zeroValue,M,W,V,a,s,X,Y,h,asInt,asIntOf,l,aI7,B,jX,A]
   ·simp only[aT3,aP3,aQ1,aP5,Array.length_toList,aP9];simp at D L;omega
   ·simp only[aW5]at y;rw[y,<-o];exact List.take_left
  ·have J:∀j u,C[j]? =some u->w.cell? (((g,0):Addr).add j)=some u:=b.cells (g:=g) rfl;have p:=r d E (Value.ownBlock (.slice g n d));refine⟨_,_,?_,p.1,p.2⟩;have h:m≠0:=E;have G:¬(9223372036854775807<((n:Int)+(m:Int))):=E;have F:¬(281474976710656<Builtin.nextslicecap (n+m) d):=by
    have :=growslice_fits (need:=n+m) (old:=d) (bytes:=1) E E;omega
   have R:=run_firstCells_some (P:=P) w.drew 1 n g n d C b.1 (by simpa using J);simp[Builtin.append_,bd9 N,bd9 x,sizeOf,typeInfo,zeroValue,M,W,V,a,s,X,Y,h,asInt,asIntOf,l,G,F,Question.forced,R,newRow,grownCap,B,jX]
theorem Gg{P:Program}{w:World}{j:Array Oper}{c:List Oper}{o:Oper}{a:Act}{Q:Exit->Act->World->Prop}(q:o.guard=none)(s x:Operand)(t A:TypeId)(J:o.op= .call {callee:= .builtin .append,args:=#[s,x],argTypes:=#[t,A]})(b:Nat)(e:TypeId){z:Value}(f:(P.info? e).map (λi=>(i.zero,i.size,i.bytes))=some (some z,1,1))(N:P.underlying t=some (.slice e))(r:P.underlying A=some (.int .i64))(y:z.cells=#[z])(C:z.oneCell'=true)(v:Value)(n:Nat)(B:List Value)(M:a.eval s=v)(g:w.ownsRow b e 1 v n B)(m:Nat)(O:a.eval x= .int .i64 (m:Int))(I:n+m<=1000000)(d:b<=w)(h:∀l k,k.ownsRow b e 1 l (n+m) (B++List.replicate m z)->w.grownBy k v.ownBlock->wpList P j Q c (a.put o.dst l) k):wpList P j Q (o::c) a w:=by
 obtain⟨i,H,R,u,p⟩:=bd2 f;refine wpList_plain q λK G=>?_;obtain⟨l,k,L,D,F⟩:=Dp (P:=P) w b t A o.type e i z N r H R u p y C v n B g m I d;unfold Oper.wp execOp;simp only[J,resolve,invoke,builtin,Sem.run_bind,Sem.run_pure,aY9,aQ9,aQ4,aQ7,M,O,L];exact G _ _ (h l k D F)
end
section
open Go.ChangeShapes Go.WideShapes Go.ChangeAt Go.RowKit
variable {H:Type}{enc:TypeId×Value->H}{P:Program}{w:World}{base:Nat}{sp:Nat->Bool}{held:Bool}
theorem Rl{t e:TypeId}{k:IntKind}{o:Nat}{a:Option Addr}{len cap:Nat}{x:DataW H×List MemPlace}(G:P.underlying t=some (.slice e))(A:P.underlying e=some (.int k))(z:P.cellsOf e=1)(B:DataW.trod enc P w base sp held o t (Value.slice a len cap).cells.toList=some x):∃y:List Int,len=y.length/\ArgI k w a cap y:=by
 rcases open_ints G A z B with ⟨g,_⟩ | ⟨x,l,c,s,g,_,D,F,v,_,f,q⟩
 ·simp[Value.cells]at g;obtain⟨rfl,rfl,rfl⟩:=g;exact⟨[],rfl,⟨Reads.nil,λi n=>absurd n Es,Es,by unfold maxLen;omega,λ_=>rfl⟩⟩
 ·simp[Value.cells]at g;obtain⟨rfl,rfl,rfl⟩:=g;have I:len<=s.length:=by rw[v];split<;>omega
  have d:(s.take len).length=len:=by rw[aQ1];omega
  clear v;refine⟨s.take len,d.symm,⟨λi n=>?_,λi n=>?_,by rw[d];exact D,F,λh=>by cases h⟩⟩
  ·rw[d]at n⊢;obtain⟨b,r,p⟩:=x;have u:=f 0 E;have m:p=none:=by simpa[Addr.add]using World.cell?_spot u
   subst m;refine⟨b,r,rfl,World.block_lt_of_cell? w _ (by simpa[Addr.add]using u),λj C=>?_⟩;have :=f j E;rw[aO6,bd0 C];rw[aI7]at this;simpa[List.getD_eq_getElem?_getD]using this
  ·rw[d]at n;rw[aO6,bd0 n,aO0 E];exact q _ (aP0 _)
structure Row where
 a:Option Addr
 cap:Nat
 l:List Int
instance:Inhabited Row:=⟨⟨none,0,[]⟩⟩
variable {H:Type}{enc:TypeId×Value->H}{P:Program}{w:World}{base:Nat}{sp:Nat->Bool}{held:Bool}
theorem az9{t e:TypeId}{k:IntKind}{g:Nat}{p:List Value}{x:DataW H×List MemPlace}(o:P.underlying t=some (.slice e))(m:P.underlying e=some (.int k))(j:P.cellsOf e=1)(n:DataW.trod enc P w base sp held g t p=some x):∃a f,∃d:List Int,p=[.slice a d.length f]/\ArgI k w a f d:=by
 rcases open_ints o m j n with ⟨b,_⟩ | ⟨x,l,c,q,b,_⟩
 ·subst b;obtain⟨d,h,i⟩:=Rl (a:=none) (len:=0) (cap:=0) o m j (by simpa[Value.cells]using n);exact⟨none,0,d,by rw[<-h],i⟩
 ·subst b;obtain⟨d,h,i⟩:=Rl (a:=some x) (len:=l) (cap:=c) o m j (by simpa[Value.cells]using n);exact⟨some x,c,d,by rw[<-h],i⟩
end
end Go.Proofs.YtchinbgemenenaaGreatDoor
